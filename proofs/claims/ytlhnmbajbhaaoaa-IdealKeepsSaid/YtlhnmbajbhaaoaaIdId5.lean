/- What may be: each kind of notes, the others. No condition. -/
import Derived.Test.YtlhnmbajbhaaoaaIdId4
namespace Go.Proofs.Ytlhnmbajbhaaoaa
open Go Go.SL
set_option linter.unusedSimpArgs false
set_option linter.unusedVariables false
set_option maxRecDepth 10000
set_option maxHeartbeats 2000000
attribute [local irreducible] WP WPL QSeq QBlk QRet Does Cell Cells Rd Mine Ent Aside RV Yield TabAt SemAt IdeAt
section
variable {B : World} {H F G : HProp} {x : Nat} {L : IdL} {n : Nt} {m p a g s : Int} {k j : Nat} {K : Int}
theorem kBack [i : HasAt IdeAt H x L F] (hm : 0 ≤ n.m ∧ n.m < L.I.ms.length) (hp : 0 ≤ n.p ∧ n.p < L.I.ps.length) (hv : L.I.pAt n.p < L.I.ms.length) : Does Try.prog B 60 [ptr x, noteV n] H fun r H' => H' = H ∧ r = .bool (if n.x = 1 then callsB L.I n && (decide ((L.I.mAt n.m).b = n.p) && L.I.kept n.p) else callsB L.I n && (decide ((L.I.mAt n.m).p < 0) && decide (L.I.pAt n.p = -1))) := by
  obtain ⟨k, hk, hm', hA⟩ := mAt_of hm
  obtain ⟨kp, hkp, hp', hB⟩ := pAt_of hp
  rw [hA]
  have c1 := ide_m (B := B) (x := x) hk (j := 1) (by omega) rfl
  have c3 := ide_m (B := B) (x := x) hk (j := 3) (by omega) rfl
  have cp := ide_p (B := B) (x := x) hkp
  have z0 : Cell B (IdeAt x L) x 0 (.int .i64 L.I.c.n) := ide_cell rfl
  have z3 : Cell B (IdeAt x L) x 3 (.int .i64 L.I.c.m) := ide_cell rfl
  have z6 : Cell B (IdeAt x L) x 6 (ptr L.q) := ide_cell rfl
  have z7 : Cell B (IdeAt x L) x 7 (ptr L.s) := ide_cell rfl
  have z8 : Cell B (IdeAt x L) x 8 (.slice (some ⟨L.bm, 0, none⟩) L.I.ms.length L.cm) := ide_cell rfl
  have z9 : Cell B (IdeAt x L) x 9 (.slice (some ⟨L.bp, 0, none⟩) L.I.ps.length L.cp) := ide_cell rfl
  rw [i.eq]
  refine Does.frame0 ?_
  by_cases hx : n.x = 1
  · rw [if_pos hx]
    cases hc : callsB L.I n with
    | false =>
      rw [Bool.false_and]
      refine fn_intro 58 Try.func60 rfl rfl rfl ?_
      refine walk ?_
      refine s_box (cs := nv n) rfl rfl rfl ?_
      intro b
      refine walk ?_
      (refine wp_draw [2, 21] (.look 0 (.look 1 (.act 2 (.look 3 (.look 4 (.look 5 (.look 6 (.look 7 (.look 8 (.look 9 (.look 10 (.look 11 (.look 12 (.look 13 (.look 14 (.look 15 (.look 16 (.look 17 (.look 18 (.look 19 (.look 20 (.act 21 (.look 22 (.look 23 .nil)) .stop))))))))))))))))))) .stop))) (by kernel_rfl) ?_; (apply dw_pure; (· exact rfl); (· exact rfl); (· (intro G; exact looked))); (apply dw_look; (· exact rfl); (· exact rfl); (· (exact looked))); skip)
      refine dw_do rfl rfl ?_ dw_stop
      refine s_call rfl (iCalls (n := n) (L := L) hm) rfl ?_
      rintro _ _ ⟨e_, rfl⟩
      obtain rfl := e_.symm
      rw [hc]
      refine wpl_nil (qone ⟨(by refine st_past (by kernel_rfl) ?_; exact st_nil), ?_⟩)
      ((apply dw_pure; (· exact rfl); (· exact rfl); (· (intro G; exact looked))); (apply dw_pure; (· exact rfl); (· exact rfl); (· (intro G; exact looked))); (apply dw_pure; (· exact rfl); (· exact rfl); (· (intro G; exact looked))); (apply dw_pure; (· exact rfl); (· exact rfl); (· (intro G; exact looked))); (apply dw_look; (· exact rfl); (· exact rfl); (· (exact looked))); (apply dw_pure; (· exact rfl); (· exact rfl); (· (intro G; exact looked))); (apply dw_look; (· exact rfl); (· exact rfl); (· (exact looked))); (apply dw_pure; (· exact rfl); (· exact rfl); (· (intro G; (first | (refine step_wanted rfl rfl ?_; (apply s_indexAddr (j := k) (o' := k * 4); (· exact rfl); (· exact rfl); (· omega); (· omega); (· omega); (· exact rfl))) | (apply s_indexAddr (j := k) (o' := k * 4); (· exact rfl); (· exact rfl); (· omega); (· omega); (· omega); (· exact rfl)) | skip); exact looked))); (apply dw_pure; (· exact rfl); (· exact rfl); (· (intro G; exact looked))); (apply dw_look; (· exact rfl); (· exact rfl); (· (exact looked))); (apply dw_pure; (· exact rfl); (· exact rfl); (· (intro G; exact looked))); (apply dw_look; (· exact rfl); (· exact rfl); (· (exact looked))); (apply dw_pure; (· exact rfl); (· exact rfl); (· (intro G; exact looked))); (apply dw_pure; (· exact rfl); (· exact rfl); (· (intro G; exact looked))); (apply dw_pure; (· exact rfl); (· exact rfl); (· (intro G; exact looked))); (apply dw_pure; (· exact rfl); (· exact rfl); (· (intro G; exact looked))); (apply dw_pure; (· exact rfl); (· exact rfl); (· (intro G; exact looked))); (apply dw_look; (· exact rfl); (· exact rfl); (· (exact looked))); skip)
      refine dw_do rfl rfl ?_ dw_stop
      (first | refine step_unwanted rfl rfl rfl rfl ?_ | refine step_unwantedU rfl rfl rfl ?_ | refine step_unwanted0 rfl rfl rfl ?_ | refine step_unwantedU0 rfl rfl ?_)
      refine wpl_nil (qone ⟨(by refine st_past (by kernel_rfl) ?_; refine st_past (by kernel_rfl) ?_; refine st_past (by kernel_rfl) ?_; refine st_past (by kernel_rfl) ?_; refine st_past (by kernel_rfl) ?_; refine st_past (by kernel_rfl) ?_; exact st_nil), ?_⟩)
      ((apply dw_pure; (· exact rfl); (· exact rfl); (· (intro G; exact looked))); (apply dw_pure; (· exact rfl); (· exact rfl); (· (intro G; exact looked))); refine dw_nil ?_; skip)
      refine walk ?_
      (first | (apply retRD1 (G := (IdeAt x L + F)) (.inr rfl) rfl; (· first | (refine rv_tmp (v := .bool _) rfl) | exact rv_tmp rfl); (· exact Ent.auto)) | (apply retRD1 (G := (IdeAt x L + F)) (.inl rfl) rfl; (· first | (refine rv_tmp (v := .bool _) rfl) | exact rv_tmp rfl); (· exact Ent.auto)))
      exact ⟨Ent.refl _, rfl⟩
    | true =>
      by_cases hb : L.I.ms[k].b = n.p
      · rw [decide_eq_true hb]
        cases hkk : L.I.kept n.p with
        | false =>
          refine fn_intro 58 Try.func60 rfl rfl rfl ?_
          refine walk ?_
          refine s_box (cs := nv n) rfl rfl rfl ?_
          intro b
          refine walk ?_
          (refine wp_draw [2, 21] (.look 0 (.look 1 (.act 2 (.look 3 (.look 4 (.look 5 (.look 6 (.look 7 (.look 8 (.look 9 (.look 10 (.look 11 (.look 12 (.look 13 (.look 14 (.look 15 (.look 16 (.look 17 (.look 18 (.look 19 (.look 20 (.act 21 (.look 22 (.look 23 .nil)) .stop))))))))))))))))))) .stop))) (by kernel_rfl) ?_; (apply dw_pure; (· exact rfl); (· exact rfl); (· (intro G; exact looked))); (apply dw_look; (· exact rfl); (· exact rfl); (· (exact looked))); skip)
          refine dw_do rfl rfl ?_ dw_stop
          refine s_call rfl (iCalls (n := n) (L := L) hm) rfl ?_
          rintro _ _ ⟨e_, rfl⟩
          obtain rfl := e_.symm
          rw [hc]
          refine wpl_nil (qone ⟨(by refine st_past (by kernel_rfl) ?_; exact st_nil), ?_⟩)
          ((apply dw_pure; (· exact rfl); (· exact rfl); (· (intro G; exact looked))); (apply dw_pure; (· exact rfl); (· exact rfl); (· (intro G; exact looked))); (apply dw_pure; (· exact rfl); (· exact rfl); (· (intro G; exact looked))); (apply dw_pure; (· exact rfl); (· exact rfl); (· (intro G; exact looked))); (apply dw_look; (· exact rfl); (· exact rfl); (· (exact looked))); (apply dw_pure; (· exact rfl); (· exact rfl); (· (intro G; exact looked))); (apply dw_look; (· exact rfl); (· exact rfl); (· (exact looked))); (apply dw_pure; (· exact rfl); (· exact rfl); (· (intro G; (first | (refine step_wanted rfl rfl ?_; (apply s_indexAddr (j := k) (o' := k * 4); (· exact rfl); (· exact rfl); (· omega); (· omega); (· omega); (· exact rfl))) | (apply s_indexAddr (j := k) (o' := k * 4); (· exact rfl); (· exact rfl); (· omega); (· omega); (· omega); (· exact rfl)) | skip); exact looked))); (apply dw_pure; (· exact rfl); (· exact rfl); (· (intro G; exact looked))); (apply dw_look; (· exact rfl); (· exact rfl); (· (exact looked))); (apply dw_pure; (· exact rfl); (· exact rfl); (· (intro G; exact looked))); (apply dw_look; (· exact rfl); (· exact rfl); (· (exact looked))); (apply dw_pure; (· exact rfl); (· exact rfl); (· (intro G; exact looked))); (apply dw_pure; (· exact rfl); (· exact rfl); (· (intro G; exact looked))); (apply dw_pure; (· exact rfl); (· exact rfl); (· (intro G; exact looked))); (apply dw_pure; (· exact rfl); (· exact rfl); (· (intro G; exact looked))); (apply dw_pure; (· exact rfl); (· exact rfl); (· (intro G; exact looked))); (apply dw_look; (· exact rfl); (· exact rfl); (· (exact looked))); skip)
          refine dw_do rfl rfl ?_ dw_stop
          refine step_wanted rfl rfl ?_
          refine s_call rfl (iKept (L := L) (x := x) (p := n.p) hp hv) rfl ?_
          rintro _ _ ⟨e_, rfl⟩
          obtain rfl := e_.symm
          rw [hkk]
          refine wpl_nil (qone ⟨(by refine st_past (by kernel_rfl) ?_; refine st_past (by kernel_rfl) ?_; refine st_past (by kernel_rfl) ?_; refine st_past (by kernel_rfl) ?_; refine st_past (by kernel_rfl) ?_; refine st_past (by kernel_rfl) ?_; exact st_nil), ?_⟩)
          ((apply dw_pure; (· exact rfl); (· exact rfl); (· (intro G; exact looked))); (apply dw_pure; (· exact rfl); (· exact rfl); (· (intro G; exact looked))); refine dw_nil ?_; skip)
          refine walk ?_
          (first | (apply retRD1 (G := (IdeAt x L + F)) (.inr rfl) rfl; (· first | (refine rv_tmp (v := .bool _) rfl) | exact rv_tmp rfl); (· exact Ent.auto)) | (apply retRD1 (G := (IdeAt x L + F)) (.inl rfl) rfl; (· first | (refine rv_tmp (v := .bool _) rfl) | exact rv_tmp rfl); (· exact Ent.auto)))
          exact ⟨Ent.refl _, rfl⟩
        | true =>
          refine fn_intro 58 Try.func60 rfl rfl rfl ?_
          refine walk ?_
          refine s_box (cs := nv n) rfl rfl rfl ?_
          intro b
          refine walk ?_
          (refine wp_draw [2, 21] (.look 0 (.look 1 (.act 2 (.look 3 (.look 4 (.look 5 (.look 6 (.look 7 (.look 8 (.look 9 (.look 10 (.look 11 (.look 12 (.look 13 (.look 14 (.look 15 (.look 16 (.look 17 (.look 18 (.look 19 (.look 20 (.act 21 (.look 22 (.look 23 .nil)) .stop))))))))))))))))))) .stop))) (by kernel_rfl) ?_; (apply dw_pure; (· exact rfl); (· exact rfl); (· (intro G; exact looked))); (apply dw_look; (· exact rfl); (· exact rfl); (· (exact looked))); skip)
          refine dw_do rfl rfl ?_ dw_stop
          refine s_call rfl (iCalls (n := n) (L := L) hm) rfl ?_
          rintro _ _ ⟨e_, rfl⟩
          obtain rfl := e_.symm
          rw [hc]
          refine wpl_nil (qone ⟨(by refine st_past (by kernel_rfl) ?_; exact st_nil), ?_⟩)
          ((apply dw_pure; (· exact rfl); (· exact rfl); (· (intro G; exact looked))); (apply dw_pure; (· exact rfl); (· exact rfl); (· (intro G; exact looked))); (apply dw_pure; (· exact rfl); (· exact rfl); (· (intro G; exact looked))); (apply dw_pure; (· exact rfl); (· exact rfl); (· (intro G; exact looked))); (apply dw_look; (· exact rfl); (· exact rfl); (· (exact looked))); (apply dw_pure; (· exact rfl); (· exact rfl); (· (intro G; exact looked))); (apply dw_look; (· exact rfl); (· exact rfl); (· (exact looked))); (apply dw_pure; (· exact rfl); (· exact rfl); (· (intro G; (first | (refine step_wanted rfl rfl ?_; (apply s_indexAddr (j := k) (o' := k * 4); (· exact rfl); (· exact rfl); (· omega); (· omega); (· omega); (· exact rfl))) | (apply s_indexAddr (j := k) (o' := k * 4); (· exact rfl); (· exact rfl); (· omega); (· omega); (· omega); (· exact rfl)) | skip); exact looked))); (apply dw_pure; (· exact rfl); (· exact rfl); (· (intro G; exact looked))); (apply dw_look; (· exact rfl); (· exact rfl); (· (exact looked))); (apply dw_pure; (· exact rfl); (· exact rfl); (· (intro G; exact looked))); (apply dw_look; (· exact rfl); (· exact rfl); (· (exact looked))); (apply dw_pure; (· exact rfl); (· exact rfl); (· (intro G; exact looked))); (apply dw_pure; (· exact rfl); (· exact rfl); (· (intro G; exact looked))); (apply dw_pure; (· exact rfl); (· exact rfl); (· (intro G; exact looked))); (apply dw_pure; (· exact rfl); (· exact rfl); (· (intro G; exact looked))); (apply dw_pure; (· exact rfl); (· exact rfl); (· (intro G; exact looked))); (apply dw_look; (· exact rfl); (· exact rfl); (· (exact looked))); skip)
          refine dw_do rfl rfl ?_ dw_stop
          refine step_wanted rfl rfl ?_
          refine s_call rfl (iKept (L := L) (x := x) (p := n.p) hp hv) rfl ?_
          rintro _ _ ⟨e_, rfl⟩
          obtain rfl := e_.symm
          rw [hkk]
          refine wpl_nil (qone ⟨(by refine st_past (by kernel_rfl) ?_; refine st_past (by kernel_rfl) ?_; refine st_past (by kernel_rfl) ?_; refine st_past (by kernel_rfl) ?_; refine st_past (by kernel_rfl) ?_; refine st_past (by kernel_rfl) ?_; exact st_nil), ?_⟩)
          ((apply dw_pure; (· exact rfl); (· exact rfl); (· (intro G; exact looked))); (apply dw_pure; (· exact rfl); (· exact rfl); (· (intro G; exact looked))); refine dw_nil ?_; skip)
          refine walk ?_
          (first | (apply retRD1 (G := (IdeAt x L + F)) (.inr rfl) rfl; (· first | (refine rv_tmp (v := .bool _) rfl) | exact rv_tmp rfl); (· exact Ent.auto)) | (apply retRD1 (G := (IdeAt x L + F)) (.inl rfl) rfl; (· first | (refine rv_tmp (v := .bool _) rfl) | exact rv_tmp rfl); (· exact Ent.auto)))
          exact ⟨Ent.refl _, rfl⟩
      · rw [decide_eq_false hb, Bool.false_and]
        refine fn_intro 58 Try.func60 rfl rfl rfl ?_
        refine walk ?_
        refine s_box (cs := nv n) rfl rfl rfl ?_
        intro b
        refine walk ?_
        (refine wp_draw [2, 21] (.look 0 (.look 1 (.act 2 (.look 3 (.look 4 (.look 5 (.look 6 (.look 7 (.look 8 (.look 9 (.look 10 (.look 11 (.look 12 (.look 13 (.look 14 (.look 15 (.look 16 (.look 17 (.look 18 (.look 19 (.look 20 (.act 21 (.look 22 (.look 23 .nil)) .stop))))))))))))))))))) .stop))) (by kernel_rfl) ?_; (apply dw_pure; (· exact rfl); (· exact rfl); (· (intro G; exact looked))); (apply dw_look; (· exact rfl); (· exact rfl); (· (exact looked))); skip)
        refine dw_do rfl rfl ?_ dw_stop
        refine s_call rfl (iCalls (n := n) (L := L) hm) rfl ?_
        rintro _ _ ⟨e_, rfl⟩
        obtain rfl := e_.symm
        rw [hc]
        refine wpl_nil (qone ⟨(by refine st_past (by kernel_rfl) ?_; exact st_nil), ?_⟩)
        ((apply dw_pure; (· exact rfl); (· exact rfl); (· (intro G; exact looked))); (apply dw_pure; (· exact rfl); (· exact rfl); (· (intro G; exact looked))); (apply dw_pure; (· exact rfl); (· exact rfl); (· (intro G; exact looked))); (apply dw_pure; (· exact rfl); (· exact rfl); (· (intro G; exact looked))); (apply dw_look; (· exact rfl); (· exact rfl); (· (exact looked))); (apply dw_pure; (· exact rfl); (· exact rfl); (· (intro G; exact looked))); (apply dw_look; (· exact rfl); (· exact rfl); (· (exact looked))); (apply dw_pure; (· exact rfl); (· exact rfl); (· (intro G; (first | (refine step_wanted rfl rfl ?_; (apply s_indexAddr (j := k) (o' := k * 4); (· exact rfl); (· exact rfl); (· omega); (· omega); (· omega); (· exact rfl))) | (apply s_indexAddr (j := k) (o' := k * 4); (· exact rfl); (· exact rfl); (· omega); (· omega); (· omega); (· exact rfl)) | skip); exact looked))); (apply dw_pure; (· exact rfl); (· exact rfl); (· (intro G; exact looked))); (apply dw_look; (· exact rfl); (· exact rfl); (· (exact looked))); (apply dw_pure; (· exact rfl); (· exact rfl); (· (intro G; exact looked))); (apply dw_look; (· exact rfl); (· exact rfl); (· (exact looked))); (apply dw_pure; (· exact rfl); (· exact rfl); (· (intro G; exact looked))); (apply dw_pure; (· exact rfl); (· exact rfl); (· (intro G; exact looked))); (apply dw_pure; (· exact rfl); (· exact rfl); (· (intro G; exact looked))); (apply dw_pure; (· exact rfl); (· exact rfl); (· (intro G; exact looked))); (apply dw_pure; (· exact rfl); (· exact rfl); (· (intro G; exact looked))); (apply dw_look; (· exact rfl); (· exact rfl); (· (exact looked))); skip)
        refine dw_do rfl rfl ?_ dw_stop
        (first | refine step_unwanted rfl rfl rfl rfl ?_ | refine step_unwantedU rfl rfl rfl ?_ | refine step_unwanted0 rfl rfl rfl ?_ | refine step_unwantedU0 rfl rfl ?_)
        refine wpl_nil (qone ⟨(by refine st_past (by kernel_rfl) ?_; refine st_past (by kernel_rfl) ?_; refine st_past (by kernel_rfl) ?_; refine st_past (by kernel_rfl) ?_; refine st_past (by kernel_rfl) ?_; refine st_past (by kernel_rfl) ?_; exact st_nil), ?_⟩)
        ((apply dw_pure; (· exact rfl); (· exact rfl); (· (intro G; exact looked))); (apply dw_pure; (· exact rfl); (· exact rfl); (· (intro G; exact looked))); refine dw_nil ?_; skip)
        refine walk ?_
        (first | (apply retRD1 (G := (IdeAt x L + F)) (.inr rfl) rfl; (· first | (refine rv_tmp (v := .bool _) rfl) | exact rv_tmp rfl); (· exact Ent.auto)) | (apply retRD1 (G := (IdeAt x L + F)) (.inl rfl) rfl; (· first | (refine rv_tmp (v := .bool _) rfl) | exact rv_tmp rfl); (· exact Ent.auto)))
        exact ⟨Ent.refl _, rfl⟩
  · rw [if_neg hx, hB]
    cases hc : callsB L.I n with
    | false =>
      rw [Bool.false_and]
      refine fn_intro 58 Try.func60 rfl rfl rfl ?_
      refine walk ?_
      refine s_box (cs := nv n) rfl rfl rfl ?_
      intro b
      refine walk ?_
      (refine wp_draw [2] (.look 0 (.look 1 (.act 2 (.look 3 (.look 4 (.look 5 (.look 6 (.look 7 (.look 8 (.look 9 (.look 10 (.look 11 (.look 12 (.look 13 (.look 14 (.look 15 (.look 16 (.look 17 (.look 18 (.look 19 (.look 20 (.look 21 (.look 22 (.look 23 (.look 24 (.look 25 (.look 26 (.look 27 .nil))))))))))))))))))))))))) .stop))) (by kernel_rfl) ?_; (apply dw_pure; (· exact rfl); (· exact rfl); (· (intro G; exact looked))); (apply dw_look; (· exact rfl); (· exact rfl); (· (exact looked))); skip)
      refine dw_do rfl rfl ?_ dw_stop
      refine s_call rfl (iCalls (n := n) (L := L) hm) rfl ?_
      rintro _ _ ⟨e_, rfl⟩
      obtain rfl := e_.symm
      rw [hc]
      refine wpl_nil (qone ⟨(by refine st_past (by kernel_rfl) ?_; exact st_nil), ?_⟩)
      ((apply dw_pure; (· exact rfl); (· exact rfl); (· (intro G; exact looked))); (apply dw_pure; (· exact rfl); (· exact rfl); (· (intro G; exact looked))); (apply dw_pure; (· exact rfl); (· exact rfl); (· (intro G; exact looked))); (apply dw_pure; (· exact rfl); (· exact rfl); (· (intro G; exact looked))); (apply dw_look; (· exact rfl); (· exact rfl); (· (exact looked))); (apply dw_pure; (· exact rfl); (· exact rfl); (· (intro G; exact looked))); (apply dw_look; (· exact rfl); (· exact rfl); (· (exact looked))); (apply dw_pure; (· exact rfl); (· exact rfl); (· (intro G; (first | (refine step_wanted rfl rfl ?_; (apply s_indexAddr (j := k) (o' := k * 4); (· exact rfl); (· exact rfl); (· omega); (· omega); (· omega); (· exact rfl))) | (apply s_indexAddr (j := k) (o' := k * 4); (· exact rfl); (· exact rfl); (· omega); (· omega); (· omega); (· exact rfl)) | skip); exact looked))); (apply dw_pure; (· exact rfl); (· exact rfl); (· (intro G; exact looked))); (apply dw_pure; (· exact rfl); (· exact rfl); (· (intro G; exact looked))); (apply dw_look; (· exact rfl); (· exact rfl); (· (exact looked))); (apply dw_pure; (· exact rfl); (· exact rfl); (· (intro G; exact looked))); (apply dw_pure; (· exact rfl); (· exact rfl); (· (intro G; exact looked))); (apply dw_pure; (· exact rfl); (· exact rfl); (· (intro G; exact looked))); (apply dw_pure; (· exact rfl); (· exact rfl); (· (intro G; exact looked))); (apply dw_pure; (· exact rfl); (· exact rfl); (· (intro G; exact looked))); (apply dw_pure; (· exact rfl); (· exact rfl); (· (intro G; exact looked))); (apply dw_look; (· exact rfl); (· exact rfl); (· (exact looked))); (apply dw_pure; (· exact rfl); (· exact rfl); (· (intro G; exact looked))); (apply dw_look; (· exact rfl); (· exact rfl); (· (exact looked))); (apply dw_pure; (· exact rfl); (· exact rfl); (· (intro G; (first | (refine step_wanted rfl rfl ?_; (apply s_indexAddr (j := kp) (o' := kp); (· exact rfl); (· exact rfl); (· omega); (· omega); (· omega); (· exact rfl))) | (apply s_indexAddr (j := kp) (o' := kp); (· exact rfl); (· exact rfl); (· omega); (· omega); (· omega); (· exact rfl)) | skip); exact looked))); (apply dw_look; (· exact rfl); (· exact rfl); (· (exact looked))); (apply dw_pure; (· exact rfl); (· exact rfl); (· (intro G; exact looked))); (apply dw_pure; (· exact rfl); (· exact rfl); (· (intro G; exact looked))); (apply dw_pure; (· exact rfl); (· exact rfl); (· (intro G; exact looked))); refine dw_nil ?_; skip)
      refine walk ?_
      (first | (apply retRD1 (G := (IdeAt x L + F)) (.inr rfl) rfl; (· first | (refine rv_tmp (v := .bool _) rfl) | exact rv_tmp rfl); (· exact Ent.auto)) | (apply retRD1 (G := (IdeAt x L + F)) (.inl rfl) rfl; (· first | (refine rv_tmp (v := .bool _) rfl) | exact rv_tmp rfl); (· exact Ent.auto)))
      exact ⟨Ent.refl _, rfl⟩
    | true =>
      by_cases hb : L.I.ms[k].p < 0
      · rw [decide_eq_true hb]
        by_cases hq : L.I.ps[kp] = -1
        · rw [decide_eq_true hq]
          refine fn_intro 58 Try.func60 rfl rfl rfl ?_
          refine walk ?_
          refine s_box (cs := nv n) rfl rfl rfl ?_
          intro b
          refine walk ?_
          (refine wp_draw [2] (.look 0 (.look 1 (.act 2 (.look 3 (.look 4 (.look 5 (.look 6 (.look 7 (.look 8 (.look 9 (.look 10 (.look 11 (.look 12 (.look 13 (.look 14 (.look 15 (.look 16 (.look 17 (.look 18 (.look 19 (.look 20 (.look 21 (.look 22 (.look 23 (.look 24 (.look 25 (.look 26 (.look 27 .nil))))))))))))))))))))))))) .stop))) (by kernel_rfl) ?_; (apply dw_pure; (· exact rfl); (· exact rfl); (· (intro G; exact looked))); (apply dw_look; (· exact rfl); (· exact rfl); (· (exact looked))); skip)
          refine dw_do rfl rfl ?_ dw_stop
          refine s_call rfl (iCalls (n := n) (L := L) hm) rfl ?_
          rintro _ _ ⟨e_, rfl⟩
          obtain rfl := e_.symm
          rw [hc]
          refine wpl_nil (qone ⟨(by refine st_past (by kernel_rfl) ?_; exact st_nil), ?_⟩)
          ((apply dw_pure; (· exact rfl); (· exact rfl); (· (intro G; exact looked))); (apply dw_pure; (· exact rfl); (· exact rfl); (· (intro G; exact looked))); (apply dw_pure; (· exact rfl); (· exact rfl); (· (intro G; exact looked))); (apply dw_pure; (· exact rfl); (· exact rfl); (· (intro G; exact looked))); (apply dw_look; (· exact rfl); (· exact rfl); (· (exact looked))); (apply dw_pure; (· exact rfl); (· exact rfl); (· (intro G; exact looked))); (apply dw_look; (· exact rfl); (· exact rfl); (· (exact looked))); (apply dw_pure; (· exact rfl); (· exact rfl); (· (intro G; (first | (refine step_wanted rfl rfl ?_; (apply s_indexAddr (j := k) (o' := k * 4); (· exact rfl); (· exact rfl); (· omega); (· omega); (· omega); (· exact rfl))) | (apply s_indexAddr (j := k) (o' := k * 4); (· exact rfl); (· exact rfl); (· omega); (· omega); (· omega); (· exact rfl)) | skip); exact looked))); (apply dw_pure; (· exact rfl); (· exact rfl); (· (intro G; exact looked))); (apply dw_pure; (· exact rfl); (· exact rfl); (· (intro G; exact looked))); (apply dw_look; (· exact rfl); (· exact rfl); (· (exact looked))); (apply dw_pure; (· exact rfl); (· exact rfl); (· (intro G; exact looked))); (apply dw_pure; (· exact rfl); (· exact rfl); (· (intro G; exact looked))); (apply dw_pure; (· exact rfl); (· exact rfl); (· (intro G; exact looked))); (apply dw_pure; (· exact rfl); (· exact rfl); (· (intro G; exact looked))); (apply dw_pure; (· exact rfl); (· exact rfl); (· (intro G; exact looked))); (apply dw_pure; (· exact rfl); (· exact rfl); (· (intro G; exact looked))); (apply dw_look; (· exact rfl); (· exact rfl); (· (exact looked))); (apply dw_pure; (· exact rfl); (· exact rfl); (· (intro G; exact looked))); (apply dw_look; (· exact rfl); (· exact rfl); (· (exact looked))); (apply dw_pure; (· exact rfl); (· exact rfl); (· (intro G; (first | (refine step_wanted rfl rfl ?_; (apply s_indexAddr (j := kp) (o' := kp); (· exact rfl); (· exact rfl); (· omega); (· omega); (· omega); (· exact rfl))) | (apply s_indexAddr (j := kp) (o' := kp); (· exact rfl); (· exact rfl); (· omega); (· omega); (· omega); (· exact rfl)) | skip); exact looked))); (apply dw_look; (· exact rfl); (· exact rfl); (· (exact looked))); (apply dw_pure; (· exact rfl); (· exact rfl); (· (intro G; exact looked))); (apply dw_pure; (· exact rfl); (· exact rfl); (· (intro G; exact looked))); (apply dw_pure; (· exact rfl); (· exact rfl); (· (intro G; exact looked))); refine dw_nil ?_; skip)
          refine walk ?_
          (first | (apply retRD1 (G := (IdeAt x L + F)) (.inr rfl) rfl; (· first | (refine rv_tmp (v := .bool _) rfl) | exact rv_tmp rfl); (· exact Ent.auto)) | (apply retRD1 (G := (IdeAt x L + F)) (.inl rfl) rfl; (· first | (refine rv_tmp (v := .bool _) rfl) | exact rv_tmp rfl); (· exact Ent.auto)))
          exact ⟨Ent.refl _, rfl⟩
        · rw [decide_eq_false hq]
          refine fn_intro 58 Try.func60 rfl rfl rfl ?_
          refine walk ?_
          refine s_box (cs := nv n) rfl rfl rfl ?_
          intro b
          refine walk ?_
          (refine wp_draw [2] (.look 0 (.look 1 (.act 2 (.look 3 (.look 4 (.look 5 (.look 6 (.look 7 (.look 8 (.look 9 (.look 10 (.look 11 (.look 12 (.look 13 (.look 14 (.look 15 (.look 16 (.look 17 (.look 18 (.look 19 (.look 20 (.look 21 (.look 22 (.look 23 (.look 24 (.look 25 (.look 26 (.look 27 .nil))))))))))))))))))))))))) .stop))) (by kernel_rfl) ?_; (apply dw_pure; (· exact rfl); (· exact rfl); (· (intro G; exact looked))); (apply dw_look; (· exact rfl); (· exact rfl); (· (exact looked))); skip)
          refine dw_do rfl rfl ?_ dw_stop
          refine s_call rfl (iCalls (n := n) (L := L) hm) rfl ?_
          rintro _ _ ⟨e_, rfl⟩
          obtain rfl := e_.symm
          rw [hc]
          refine wpl_nil (qone ⟨(by refine st_past (by kernel_rfl) ?_; exact st_nil), ?_⟩)
          ((apply dw_pure; (· exact rfl); (· exact rfl); (· (intro G; exact looked))); (apply dw_pure; (· exact rfl); (· exact rfl); (· (intro G; exact looked))); (apply dw_pure; (· exact rfl); (· exact rfl); (· (intro G; exact looked))); (apply dw_pure; (· exact rfl); (· exact rfl); (· (intro G; exact looked))); (apply dw_look; (· exact rfl); (· exact rfl); (· (exact looked))); (apply dw_pure; (· exact rfl); (· exact rfl); (· (intro G; exact looked))); (apply dw_look; (· exact rfl); (· exact rfl); (· (exact looked))); (apply dw_pure; (· exact rfl); (· exact rfl); (· (intro G; (first | (refine step_wanted rfl rfl ?_; (apply s_indexAddr (j := k) (o' := k * 4); (· exact rfl); (· exact rfl); (· omega); (· omega); (· omega); (· exact rfl))) | (apply s_indexAddr (j := k) (o' := k * 4); (· exact rfl); (· exact rfl); (· omega); (· omega); (· omega); (· exact rfl)) | skip); exact looked))); (apply dw_pure; (· exact rfl); (· exact rfl); (· (intro G; exact looked))); (apply dw_pure; (· exact rfl); (· exact rfl); (· (intro G; exact looked))); (apply dw_look; (· exact rfl); (· exact rfl); (· (exact looked))); (apply dw_pure; (· exact rfl); (· exact rfl); (· (intro G; exact looked))); (apply dw_pure; (· exact rfl); (· exact rfl); (· (intro G; exact looked))); (apply dw_pure; (· exact rfl); (· exact rfl); (· (intro G; exact looked))); (apply dw_pure; (· exact rfl); (· exact rfl); (· (intro G; exact looked))); (apply dw_pure; (· exact rfl); (· exact rfl); (· (intro G; exact looked))); (apply dw_pure; (· exact rfl); (· exact rfl); (· (intro G; exact looked))); (apply dw_look; (· exact rfl); (· exact rfl); (· (exact looked))); (apply dw_pure; (· exact rfl); (· exact rfl); (· (intro G; exact looked))); (apply dw_look; (· exact rfl); (· exact rfl); (· (exact looked))); (apply dw_pure; (· exact rfl); (· exact rfl); (· (intro G; (first | (refine step_wanted rfl rfl ?_; (apply s_indexAddr (j := kp) (o' := kp); (· exact rfl); (· exact rfl); (· omega); (· omega); (· omega); (· exact rfl))) | (apply s_indexAddr (j := kp) (o' := kp); (· exact rfl); (· exact rfl); (· omega); (· omega); (· omega); (· exact rfl)) | skip); exact looked))); (apply dw_look; (· exact rfl); (· exact rfl); (· (exact looked))); (apply dw_pure; (· exact rfl); (· exact rfl); (· (intro G; exact looked))); (apply dw_pure; (· exact rfl); (· exact rfl); (· (intro G; exact looked))); (apply dw_pure; (· exact rfl); (· exact rfl); (· (intro G; exact looked))); refine dw_nil ?_; skip)
          refine walk ?_
          (first | (apply retRD1 (G := (IdeAt x L + F)) (.inr rfl) rfl; (· first | (refine rv_tmp (v := .bool _) rfl) | exact rv_tmp rfl); (· exact Ent.auto)) | (apply retRD1 (G := (IdeAt x L + F)) (.inl rfl) rfl; (· first | (refine rv_tmp (v := .bool _) rfl) | exact rv_tmp rfl); (· exact Ent.auto)))
          exact ⟨Ent.refl _, rfl⟩
      · rw [decide_eq_false hb, Bool.false_and]
        refine fn_intro 58 Try.func60 rfl rfl rfl ?_
        refine walk ?_
        refine s_box (cs := nv n) rfl rfl rfl ?_
        intro b
        refine walk ?_
        (refine wp_draw [2] (.look 0 (.look 1 (.act 2 (.look 3 (.look 4 (.look 5 (.look 6 (.look 7 (.look 8 (.look 9 (.look 10 (.look 11 (.look 12 (.look 13 (.look 14 (.look 15 (.look 16 (.look 17 (.look 18 (.look 19 (.look 20 (.look 21 (.look 22 (.look 23 (.look 24 (.look 25 (.look 26 (.look 27 .nil))))))))))))))))))))))))) .stop))) (by kernel_rfl) ?_; (apply dw_pure; (· exact rfl); (· exact rfl); (· (intro G; exact looked))); (apply dw_look; (· exact rfl); (· exact rfl); (· (exact looked))); skip)
        refine dw_do rfl rfl ?_ dw_stop
        refine s_call rfl (iCalls (n := n) (L := L) hm) rfl ?_
        rintro _ _ ⟨e_, rfl⟩
        obtain rfl := e_.symm
        rw [hc]
        refine wpl_nil (qone ⟨(by refine st_past (by kernel_rfl) ?_; exact st_nil), ?_⟩)
        ((apply dw_pure; (· exact rfl); (· exact rfl); (· (intro G; exact looked))); (apply dw_pure; (· exact rfl); (· exact rfl); (· (intro G; exact looked))); (apply dw_pure; (· exact rfl); (· exact rfl); (· (intro G; exact looked))); (apply dw_pure; (· exact rfl); (· exact rfl); (· (intro G; exact looked))); (apply dw_look; (· exact rfl); (· exact rfl); (· (exact looked))); (apply dw_pure; (· exact rfl); (· exact rfl); (· (intro G; exact looked))); (apply dw_look; (· exact rfl); (· exact rfl); (· (exact looked))); (apply dw_pure; (· exact rfl); (· exact rfl); (· (intro G; (first | (refine step_wanted rfl rfl ?_; (apply s_indexAddr (j := k) (o' := k * 4); (· exact rfl); (· exact rfl); (· omega); (· omega); (· omega); (· exact rfl))) | (apply s_indexAddr (j := k) (o' := k * 4); (· exact rfl); (· exact rfl); (· omega); (· omega); (· omega); (· exact rfl)) | skip); exact looked))); (apply dw_pure; (· exact rfl); (· exact rfl); (· (intro G; exact looked))); (apply dw_pure; (· exact rfl); (· exact rfl); (· (intro G; exact looked))); (apply dw_look; (· exact rfl); (· exact rfl); (· (exact looked))); (apply dw_pure; (· exact rfl); (· exact rfl); (· (intro G; exact looked))); (apply dw_pure; (· exact rfl); (· exact rfl); (· (intro G; exact looked))); (apply dw_pure; (· exact rfl); (· exact rfl); (· (intro G; exact looked))); (apply dw_pure; (· exact rfl); (· exact rfl); (· (intro G; exact looked))); (apply dw_pure; (· exact rfl); (· exact rfl); (· (intro G; exact looked))); (apply dw_pure; (· exact rfl); (· exact rfl); (· (intro G; exact looked))); (apply dw_look; (· exact rfl); (· exact rfl); (· (exact looked))); (apply dw_pure; (· exact rfl); (· exact rfl); (· (intro G; exact looked))); (apply dw_look; (· exact rfl); (· exact rfl); (· (exact looked))); (apply dw_pure; (· exact rfl); (· exact rfl); (· (intro G; (first | (refine step_wanted rfl rfl ?_; (apply s_indexAddr (j := kp) (o' := kp); (· exact rfl); (· exact rfl); (· omega); (· omega); (· omega); (· exact rfl))) | (apply s_indexAddr (j := kp) (o' := kp); (· exact rfl); (· exact rfl); (· omega); (· omega); (· omega); (· exact rfl)) | skip); exact looked))); (apply dw_look; (· exact rfl); (· exact rfl); (· (exact looked))); (apply dw_pure; (· exact rfl); (· exact rfl); (· (intro G; exact looked))); (apply dw_pure; (· exact rfl); (· exact rfl); (· (intro G; exact looked))); (apply dw_pure; (· exact rfl); (· exact rfl); (· (intro G; exact looked))); refine dw_nil ?_; skip)
        refine walk ?_
        (first | (apply retRD1 (G := (IdeAt x L + F)) (.inr rfl) rfl; (· first | (refine rv_tmp (v := .bool _) rfl) | exact rv_tmp rfl); (· exact Ent.auto)) | (apply retRD1 (G := (IdeAt x L + F)) (.inl rfl) rfl; (· first | (refine rv_tmp (v := .bool _) rfl) | exact rv_tmp rfl); (· exact Ent.auto)))
        exact ⟨Ent.refl _, rfl⟩
theorem k2 [i : HasAt IdeAt H x L F] (hm : 0 ≤ n.m ∧ n.m < L.I.ms.length) (ok : L.I.tab.ok K) (hK : K ≤ 100000) : Does Try.prog B 39 [ptr x, noteV n] H fun r H' => H' = H ∧ r = .bool (decide ((L.I.mAt n.m).a = 2) && (decide ((L.I.mAt n.m).g = n.x) && decide (L.I.tab.row[0]? = some n.g))) := by
  obtain ⟨k, hk, hm', hA⟩ := mAt_of hm
  rw [hA]
  have c0 := ide_m (B := B) (x := x) hk (j := 0) (by omega) rfl
  have c2 := ide_m (B := B) (x := x) hk (j := 2) (by omega) rfl
  have z0 : Cell B (IdeAt x L) x 0 (.int .i64 L.I.c.n) := ide_cell rfl
  have z3 : Cell B (IdeAt x L) x 3 (.int .i64 L.I.c.m) := ide_cell rfl
  have z6 : Cell B (IdeAt x L) x 6 (ptr L.q) := ide_cell rfl
  have z7 : Cell B (IdeAt x L) x 7 (ptr L.s) := ide_cell rfl
  have z8 : Cell B (IdeAt x L) x 8 (.slice (some ⟨L.bm, 0, none⟩) L.I.ms.length L.cm) := ide_cell rfl
  have z9 : Cell B (IdeAt x L) x 9 (.slice (some ⟨L.bp, 0, none⟩) L.I.ps.length L.cp) := ide_cell rfl
  rw [i.eq]
  refine Does.frame0 ?_
  obtain ⟨R, hR⟩ : ∃ R, L.I.tab.row = R := ⟨_, rfl⟩
  rw [hR]
  cases R with
  | nil =>
    by_cases ha : L.I.ms[k].a = 2
    · rw [decide_eq_true ha]
      by_cases hg : L.I.ms[k].g = n.x
      · rw [decide_eq_true hg]
        rw [show decide (([] : List Int)[0]? = some n.g) = false by simp]
        refine fn_intro 50 Try.func39 rfl rfl rfl ?_
        refine walk ?_
        refine s_box (cs := nv n) rfl rfl rfl ?_
        intro b
        refine walk ?_
        refine s_call rfl (tRow (p := L.q) (T := L.I.tab) ok hK) rfl ?_
        rintro r _ rfl
        refine WPL.shape ?_
        rintro ao cap rfl hl1 hl2 hl3
        refine WPL.rd fun rd => ?_
        rw [hR] at rd ⊢
        simp only [List.length_nil] at hl1 hl2 ⊢
        refine walk ?_
        (refine wp_draw [] (.look 0 (.look 1 (.look 2 (.look 3 (.look 4 (.look 5 (.look 6 (.look 7 (.look 8 (.look 9 (.look 10 (.look 11 (.look 12 (.look 13 (.look 14 (.look 15 (.look 16 (.look 17 (.look 18 (.look 19 (.look 20 (.look 21 (.look 22 (.look 23 (.look 24 (.look 25 (.look 26 (.look 27 (.look 28 (.look 29 (.look 30 (.look 31 (.look 32 (.look 33 (.look 34 (.look 35 (.look 36 (.look 37 (.look 38 (.look 39 .nil)))))))))))))))))))))))))))))))))))))))) (by kernel_rfl) ?_; (apply dw_pure; (· exact rfl); (· exact rfl); (· (intro G; exact looked))); (apply dw_pure; (· exact rfl); (· exact rfl); (· (intro G; exact looked))); (apply dw_pure; (· exact rfl); (· exact rfl); (· (intro G; exact looked))); (apply dw_look; (· exact rfl); (· exact rfl); (· (exact looked))); (apply dw_pure; (· exact rfl); (· exact rfl); (· (intro G; exact looked))); (apply dw_look; (· exact rfl); (· exact rfl); (· (exact looked))); (apply dw_pure; (· exact rfl); (· exact rfl); (· (intro G; (first | (refine step_wanted rfl rfl ?_; (apply s_indexAddr (j := k) (o' := k * 4); (· exact rfl); (· exact rfl); (· omega); (· omega); (· omega); (· exact rfl))) | (apply s_indexAddr (j := k) (o' := k * 4); (· exact rfl); (· exact rfl); (· omega); (· omega); (· omega); (· exact rfl)) | skip); exact looked))); (apply dw_pure; (· exact rfl); (· exact rfl); (· (intro G; exact looked))); (apply dw_pure; (· exact rfl); (· exact rfl); (· (intro G; exact looked))); (apply dw_look; (· exact rfl); (· exact rfl); (· (exact looked))); (apply dw_pure; (· exact rfl); (· exact rfl); (· (intro G; exact looked))); (apply dw_pure; (· exact rfl); (· exact rfl); (· (intro G; exact looked))); (apply dw_pure; (· exact rfl); (· exact rfl); (· (intro G; exact looked))); (apply dw_pure; (· exact rfl); (· exact rfl); (· (intro G; exact looked))); (apply dw_pure; (· exact rfl); (· exact rfl); (· (intro G; exact looked))); (apply dw_look; (· exact rfl); (· exact rfl); (· (exact looked))); (apply dw_pure; (· exact rfl); (· exact rfl); (· (intro G; exact looked))); (apply dw_look; (· exact rfl); (· exact rfl); (· (exact looked))); (apply dw_pure; (· exact rfl); (· exact rfl); (· (intro G; (first | (refine step_wanted rfl rfl ?_; (apply s_indexAddr (j := k) (o' := k * 4); (· exact rfl); (· exact rfl); (· omega); (· omega); (· omega); (· exact rfl))) | (apply s_indexAddr (j := k) (o' := k * 4); (· exact rfl); (· exact rfl); (· omega); (· omega); (· omega); (· exact rfl)) | skip); exact looked))); (apply dw_pure; (· exact rfl); (· exact rfl); (· (intro G; exact looked))); (apply dw_pure; (· exact rfl); (· exact rfl); (· (intro G; exact looked))); (apply dw_look; (· exact rfl); (· exact rfl); (· (exact looked))); (apply dw_pure; (· exact rfl); (· exact rfl); (· (intro G; exact looked))); (apply dw_look; (· exact rfl); (· exact rfl); (· (exact looked))); (apply dw_pure; (· exact rfl); (· exact rfl); (· (intro G; exact looked))); (apply dw_pure; (· exact rfl); (· exact rfl); (· (intro G; exact looked))); (apply dw_pure; (· exact rfl); (· exact rfl); (· (intro G; exact looked))); (apply dw_pure; (· exact rfl); (· exact rfl); (· (intro G; exact looked))); (apply dw_pure; (· exact rfl); (· exact rfl); (· (intro G; exact looked))); (apply dw_pure; (· exact rfl); (· exact rfl); (· (intro G; exact looked))); (apply dw_pure; (· exact rfl); (· exact rfl); (· (intro G; exact looked))); (apply dw_pure; (· exact rfl); (· exact rfl); (· (intro G; exact looked))); (apply dw_pure; (· exact rfl); (· exact rfl); (· (intro G; exact looked))); (apply dw_pure; (· exact rfl); (· exact rfl); (· (intro G; (first | (refine step_wanted rfl rfl ?_; (apply s_indexAddr (j := 0) (o' := o); (· exact rfl); (· exact rfl); (· omega); (· omega); (· omega); (· exact rfl))) | (apply s_indexAddr (j := 0) (o' := o); (· exact rfl); (· exact rfl); (· omega); (· omega); (· omega); (· exact rfl)) | skip); exact looked))); (apply dw_look; (· exact rfl); (· exact rfl); (· (exact looked))); (apply dw_pure; (· exact rfl); (· exact rfl); (· (intro G; exact looked))); (apply dw_look; (· exact rfl); (· exact rfl); (· (exact looked))); (apply dw_pure; (· exact rfl); (· exact rfl); (· (intro G; exact looked))); (apply dw_pure; (· exact rfl); (· exact rfl); (· (intro G; exact looked))); (apply dw_pure; (· exact rfl); (· exact rfl); (· (intro G; exact looked))); refine dw_nil ?_)
        refine walk ?_
        (first | (apply retRD1 (G := (IdeAt x L + F)) (.inr rfl) rfl; (· first | (refine rv_tmp (v := .bool _) rfl) | exact rv_tmp rfl); (· exact Ent.auto)) | (apply retRD1 (G := (IdeAt x L + F)) (.inl rfl) rfl; (· first | (refine rv_tmp (v := .bool _) rfl) | exact rv_tmp rfl); (· exact Ent.auto)))
        exact ⟨Ent.refl _, rfl⟩
      · rw [decide_eq_false hg, Bool.false_and]
        refine fn_intro 50 Try.func39 rfl rfl rfl ?_
        refine walk ?_
        refine s_box (cs := nv n) rfl rfl rfl ?_
        intro b
        refine walk ?_
        refine s_call rfl (tRow (p := L.q) (T := L.I.tab) ok hK) rfl ?_
        rintro r _ rfl
        refine WPL.shape ?_
        rintro ao cap rfl hl1 hl2 hl3
        refine WPL.rd fun rd => ?_
        rw [hR] at rd ⊢
        simp only [List.length_nil] at hl1 hl2 ⊢
        refine walk ?_
        (refine wp_draw [] (.look 0 (.look 1 (.look 2 (.look 3 (.look 4 (.look 5 (.look 6 (.look 7 (.look 8 (.look 9 (.look 10 (.look 11 (.look 12 (.look 13 (.look 14 (.look 15 (.look 16 (.look 17 (.look 18 (.look 19 (.look 20 (.look 21 (.look 22 (.look 23 (.look 24 (.look 25 (.look 26 (.look 27 (.look 28 (.look 29 (.look 30 (.look 31 (.look 32 (.look 33 (.look 34 (.look 35 (.look 36 (.look 37 (.look 38 (.look 39 .nil)))))))))))))))))))))))))))))))))))))))) (by kernel_rfl) ?_; (apply dw_pure; (· exact rfl); (· exact rfl); (· (intro G; exact looked))); (apply dw_pure; (· exact rfl); (· exact rfl); (· (intro G; exact looked))); (apply dw_pure; (· exact rfl); (· exact rfl); (· (intro G; exact looked))); (apply dw_look; (· exact rfl); (· exact rfl); (· (exact looked))); (apply dw_pure; (· exact rfl); (· exact rfl); (· (intro G; exact looked))); (apply dw_look; (· exact rfl); (· exact rfl); (· (exact looked))); (apply dw_pure; (· exact rfl); (· exact rfl); (· (intro G; (first | (refine step_wanted rfl rfl ?_; (apply s_indexAddr (j := k) (o' := k * 4); (· exact rfl); (· exact rfl); (· omega); (· omega); (· omega); (· exact rfl))) | (apply s_indexAddr (j := k) (o' := k * 4); (· exact rfl); (· exact rfl); (· omega); (· omega); (· omega); (· exact rfl)) | skip); exact looked))); (apply dw_pure; (· exact rfl); (· exact rfl); (· (intro G; exact looked))); (apply dw_pure; (· exact rfl); (· exact rfl); (· (intro G; exact looked))); (apply dw_look; (· exact rfl); (· exact rfl); (· (exact looked))); (apply dw_pure; (· exact rfl); (· exact rfl); (· (intro G; exact looked))); (apply dw_pure; (· exact rfl); (· exact rfl); (· (intro G; exact looked))); (apply dw_pure; (· exact rfl); (· exact rfl); (· (intro G; exact looked))); (apply dw_pure; (· exact rfl); (· exact rfl); (· (intro G; exact looked))); (apply dw_pure; (· exact rfl); (· exact rfl); (· (intro G; exact looked))); (apply dw_look; (· exact rfl); (· exact rfl); (· (exact looked))); (apply dw_pure; (· exact rfl); (· exact rfl); (· (intro G; exact looked))); (apply dw_look; (· exact rfl); (· exact rfl); (· (exact looked))); (apply dw_pure; (· exact rfl); (· exact rfl); (· (intro G; (first | (refine step_wanted rfl rfl ?_; (apply s_indexAddr (j := k) (o' := k * 4); (· exact rfl); (· exact rfl); (· omega); (· omega); (· omega); (· exact rfl))) | (apply s_indexAddr (j := k) (o' := k * 4); (· exact rfl); (· exact rfl); (· omega); (· omega); (· omega); (· exact rfl)) | skip); exact looked))); (apply dw_pure; (· exact rfl); (· exact rfl); (· (intro G; exact looked))); (apply dw_pure; (· exact rfl); (· exact rfl); (· (intro G; exact looked))); (apply dw_look; (· exact rfl); (· exact rfl); (· (exact looked))); (apply dw_pure; (· exact rfl); (· exact rfl); (· (intro G; exact looked))); (apply dw_look; (· exact rfl); (· exact rfl); (· (exact looked))); (apply dw_pure; (· exact rfl); (· exact rfl); (· (intro G; exact looked))); (apply dw_pure; (· exact rfl); (· exact rfl); (· (intro G; exact looked))); (apply dw_pure; (· exact rfl); (· exact rfl); (· (intro G; exact looked))); (apply dw_pure; (· exact rfl); (· exact rfl); (· (intro G; exact looked))); (apply dw_pure; (· exact rfl); (· exact rfl); (· (intro G; exact looked))); (apply dw_pure; (· exact rfl); (· exact rfl); (· (intro G; exact looked))); (apply dw_pure; (· exact rfl); (· exact rfl); (· (intro G; exact looked))); (apply dw_pure; (· exact rfl); (· exact rfl); (· (intro G; exact looked))); (apply dw_pure; (· exact rfl); (· exact rfl); (· (intro G; exact looked))); (apply dw_pure; (· exact rfl); (· exact rfl); (· (intro G; (first | (refine step_wanted rfl rfl ?_; (apply s_indexAddr (j := 0) (o' := o); (· exact rfl); (· exact rfl); (· omega); (· omega); (· omega); (· exact rfl))) | (apply s_indexAddr (j := 0) (o' := o); (· exact rfl); (· exact rfl); (· omega); (· omega); (· omega); (· exact rfl)) | skip); exact looked))); (apply dw_look; (· exact rfl); (· exact rfl); (· (exact looked))); (apply dw_pure; (· exact rfl); (· exact rfl); (· (intro G; exact looked))); (apply dw_look; (· exact rfl); (· exact rfl); (· (exact looked))); (apply dw_pure; (· exact rfl); (· exact rfl); (· (intro G; exact looked))); (apply dw_pure; (· exact rfl); (· exact rfl); (· (intro G; exact looked))); (apply dw_pure; (· exact rfl); (· exact rfl); (· (intro G; exact looked))); refine dw_nil ?_)
        refine walk ?_
        (first | (apply retRD1 (G := (IdeAt x L + F)) (.inr rfl) rfl; (· first | (refine rv_tmp (v := .bool _) rfl) | exact rv_tmp rfl); (· exact Ent.auto)) | (apply retRD1 (G := (IdeAt x L + F)) (.inl rfl) rfl; (· first | (refine rv_tmp (v := .bool _) rfl) | exact rv_tmp rfl); (· exact Ent.auto)))
        exact ⟨Ent.refl _, rfl⟩
    · rw [decide_eq_false ha, Bool.false_and]
      refine fn_intro 50 Try.func39 rfl rfl rfl ?_
      refine walk ?_
      refine s_box (cs := nv n) rfl rfl rfl ?_
      intro b
      refine walk ?_
      refine s_call rfl (tRow (p := L.q) (T := L.I.tab) ok hK) rfl ?_
      rintro r _ rfl
      refine WPL.shape ?_
      rintro ao cap rfl hl1 hl2 hl3
      refine WPL.rd fun rd => ?_
      rw [hR] at rd ⊢
      simp only [List.length_nil] at hl1 hl2 ⊢
      refine walk ?_
      (refine wp_draw [] (.look 0 (.look 1 (.look 2 (.look 3 (.look 4 (.look 5 (.look 6 (.look 7 (.look 8 (.look 9 (.look 10 (.look 11 (.look 12 (.look 13 (.look 14 (.look 15 (.look 16 (.look 17 (.look 18 (.look 19 (.look 20 (.look 21 (.look 22 (.look 23 (.look 24 (.look 25 (.look 26 (.look 27 (.look 28 (.look 29 (.look 30 (.look 31 (.look 32 (.look 33 (.look 34 (.look 35 (.look 36 (.look 37 (.look 38 (.look 39 .nil)))))))))))))))))))))))))))))))))))))))) (by kernel_rfl) ?_; (apply dw_pure; (· exact rfl); (· exact rfl); (· (intro G; exact looked))); (apply dw_pure; (· exact rfl); (· exact rfl); (· (intro G; exact looked))); (apply dw_pure; (· exact rfl); (· exact rfl); (· (intro G; exact looked))); (apply dw_look; (· exact rfl); (· exact rfl); (· (exact looked))); (apply dw_pure; (· exact rfl); (· exact rfl); (· (intro G; exact looked))); (apply dw_look; (· exact rfl); (· exact rfl); (· (exact looked))); (apply dw_pure; (· exact rfl); (· exact rfl); (· (intro G; (first | (refine step_wanted rfl rfl ?_; (apply s_indexAddr (j := k) (o' := k * 4); (· exact rfl); (· exact rfl); (· omega); (· omega); (· omega); (· exact rfl))) | (apply s_indexAddr (j := k) (o' := k * 4); (· exact rfl); (· exact rfl); (· omega); (· omega); (· omega); (· exact rfl)) | skip); exact looked))); (apply dw_pure; (· exact rfl); (· exact rfl); (· (intro G; exact looked))); (apply dw_pure; (· exact rfl); (· exact rfl); (· (intro G; exact looked))); (apply dw_look; (· exact rfl); (· exact rfl); (· (exact looked))); (apply dw_pure; (· exact rfl); (· exact rfl); (· (intro G; exact looked))); (apply dw_pure; (· exact rfl); (· exact rfl); (· (intro G; exact looked))); (apply dw_pure; (· exact rfl); (· exact rfl); (· (intro G; exact looked))); (apply dw_pure; (· exact rfl); (· exact rfl); (· (intro G; exact looked))); (apply dw_pure; (· exact rfl); (· exact rfl); (· (intro G; exact looked))); (apply dw_look; (· exact rfl); (· exact rfl); (· (exact looked))); (apply dw_pure; (· exact rfl); (· exact rfl); (· (intro G; exact looked))); (apply dw_look; (· exact rfl); (· exact rfl); (· (exact looked))); (apply dw_pure; (· exact rfl); (· exact rfl); (· (intro G; (first | (refine step_wanted rfl rfl ?_; (apply s_indexAddr (j := k) (o' := k * 4); (· exact rfl); (· exact rfl); (· omega); (· omega); (· omega); (· exact rfl))) | (apply s_indexAddr (j := k) (o' := k * 4); (· exact rfl); (· exact rfl); (· omega); (· omega); (· omega); (· exact rfl)) | skip); exact looked))); (apply dw_pure; (· exact rfl); (· exact rfl); (· (intro G; exact looked))); (apply dw_pure; (· exact rfl); (· exact rfl); (· (intro G; exact looked))); (apply dw_look; (· exact rfl); (· exact rfl); (· (exact looked))); (apply dw_pure; (· exact rfl); (· exact rfl); (· (intro G; exact looked))); (apply dw_look; (· exact rfl); (· exact rfl); (· (exact looked))); (apply dw_pure; (· exact rfl); (· exact rfl); (· (intro G; exact looked))); (apply dw_pure; (· exact rfl); (· exact rfl); (· (intro G; exact looked))); (apply dw_pure; (· exact rfl); (· exact rfl); (· (intro G; exact looked))); (apply dw_pure; (· exact rfl); (· exact rfl); (· (intro G; exact looked))); (apply dw_pure; (· exact rfl); (· exact rfl); (· (intro G; exact looked))); (apply dw_pure; (· exact rfl); (· exact rfl); (· (intro G; exact looked))); (apply dw_pure; (· exact rfl); (· exact rfl); (· (intro G; exact looked))); (apply dw_pure; (· exact rfl); (· exact rfl); (· (intro G; exact looked))); (apply dw_pure; (· exact rfl); (· exact rfl); (· (intro G; exact looked))); (apply dw_pure; (· exact rfl); (· exact rfl); (· (intro G; (first | (refine step_wanted rfl rfl ?_; (apply s_indexAddr (j := 0) (o' := o); (· exact rfl); (· exact rfl); (· omega); (· omega); (· omega); (· exact rfl))) | (apply s_indexAddr (j := 0) (o' := o); (· exact rfl); (· exact rfl); (· omega); (· omega); (· omega); (· exact rfl)) | skip); exact looked))); (apply dw_look; (· exact rfl); (· exact rfl); (· (exact looked))); (apply dw_pure; (· exact rfl); (· exact rfl); (· (intro G; exact looked))); (apply dw_look; (· exact rfl); (· exact rfl); (· (exact looked))); (apply dw_pure; (· exact rfl); (· exact rfl); (· (intro G; exact looked))); (apply dw_pure; (· exact rfl); (· exact rfl); (· (intro G; exact looked))); (apply dw_pure; (· exact rfl); (· exact rfl); (· (intro G; exact looked))); refine dw_nil ?_)
      refine walk ?_
      (first | (apply retRD1 (G := (IdeAt x L + F)) (.inr rfl) rfl; (· first | (refine rv_tmp (v := .bool _) rfl) | exact rv_tmp rfl); (· exact Ent.auto)) | (apply retRD1 (G := (IdeAt x L + F)) (.inl rfl) rfl; (· first | (refine rv_tmp (v := .bool _) rfl) | exact rv_tmp rfl); (· exact Ent.auto)))
      exact ⟨Ent.refl _, rfl⟩
  | cons y R =>
    by_cases ha : L.I.ms[k].a = 2
    · rw [decide_eq_true ha]
      by_cases hg : L.I.ms[k].g = n.x
      · rw [decide_eq_true hg]
        by_cases hy : y = n.g
        · rw [show decide ((y :: R)[0]? = some n.g) = true by simp [hy]]
          refine fn_intro 50 Try.func39 rfl rfl rfl ?_
          refine walk ?_
          refine s_box (cs := nv n) rfl rfl rfl ?_
          intro b
          refine walk ?_
          refine s_call rfl (tRow (p := L.q) (T := L.I.tab) ok hK) rfl ?_
          rintro r _ rfl
          refine WPL.shape ?_
          rintro ao cap rfl hl1 hl2 hl3
          refine WPL.rd fun rd => ?_
          rw [hR] at rd ⊢
          obtain ⟨ao', cap', hv, _, _, hcc⟩ := (by unfold Rd at rd; exact rd)
          obtain ⟨bb, o, rfl, hcs⟩ := Rd.addr (k := 0) (by rw [zs_length, Nat.mul_one]) hcc (by simp)
          cases hv
          have hcell := hcs.cell (j := 0) rfl
          simp only [List.length_cons] at hl1 hl2 ⊢
          refine walk ?_
          (refine wp_draw [] (.look 0 (.look 1 (.look 2 (.look 3 (.look 4 (.look 5 (.look 6 (.look 7 (.look 8 (.look 9 (.look 10 (.look 11 (.look 12 (.look 13 (.look 14 (.look 15 (.look 16 (.look 17 (.look 18 (.look 19 (.look 20 (.look 21 (.look 22 (.look 23 (.look 24 (.look 25 (.look 26 (.look 27 (.look 28 (.look 29 (.look 30 (.look 31 (.look 32 (.look 33 (.look 34 (.look 35 (.look 36 (.look 37 (.look 38 (.look 39 .nil)))))))))))))))))))))))))))))))))))))))) (by kernel_rfl) ?_; (apply dw_pure; (· exact rfl); (· exact rfl); (· (intro G; exact looked))); (apply dw_pure; (· exact rfl); (· exact rfl); (· (intro G; exact looked))); (apply dw_pure; (· exact rfl); (· exact rfl); (· (intro G; exact looked))); (apply dw_look; (· exact rfl); (· exact rfl); (· (exact looked))); (apply dw_pure; (· exact rfl); (· exact rfl); (· (intro G; exact looked))); (apply dw_look; (· exact rfl); (· exact rfl); (· (exact looked))); (apply dw_pure; (· exact rfl); (· exact rfl); (· (intro G; (first | (refine step_wanted rfl rfl ?_; (apply s_indexAddr (j := k) (o' := k * 4); (· exact rfl); (· exact rfl); (· omega); (· omega); (· omega); (· exact rfl))) | (apply s_indexAddr (j := k) (o' := k * 4); (· exact rfl); (· exact rfl); (· omega); (· omega); (· omega); (· exact rfl)) | skip); exact looked))); (apply dw_pure; (· exact rfl); (· exact rfl); (· (intro G; exact looked))); (apply dw_pure; (· exact rfl); (· exact rfl); (· (intro G; exact looked))); (apply dw_look; (· exact rfl); (· exact rfl); (· (exact looked))); (apply dw_pure; (· exact rfl); (· exact rfl); (· (intro G; exact looked))); (apply dw_pure; (· exact rfl); (· exact rfl); (· (intro G; exact looked))); (apply dw_pure; (· exact rfl); (· exact rfl); (· (intro G; exact looked))); (apply dw_pure; (· exact rfl); (· exact rfl); (· (intro G; exact looked))); (apply dw_pure; (· exact rfl); (· exact rfl); (· (intro G; exact looked))); (apply dw_look; (· exact rfl); (· exact rfl); (· (exact looked))); (apply dw_pure; (· exact rfl); (· exact rfl); (· (intro G; exact looked))); (apply dw_look; (· exact rfl); (· exact rfl); (· (exact looked))); (apply dw_pure; (· exact rfl); (· exact rfl); (· (intro G; (first | (refine step_wanted rfl rfl ?_; (apply s_indexAddr (j := k) (o' := k * 4); (· exact rfl); (· exact rfl); (· omega); (· omega); (· omega); (· exact rfl))) | (apply s_indexAddr (j := k) (o' := k * 4); (· exact rfl); (· exact rfl); (· omega); (· omega); (· omega); (· exact rfl)) | skip); exact looked))); (apply dw_pure; (· exact rfl); (· exact rfl); (· (intro G; exact looked))); (apply dw_pure; (· exact rfl); (· exact rfl); (· (intro G; exact looked))); (apply dw_look; (· exact rfl); (· exact rfl); (· (exact looked))); (apply dw_pure; (· exact rfl); (· exact rfl); (· (intro G; exact looked))); (apply dw_look; (· exact rfl); (· exact rfl); (· (exact looked))); (apply dw_pure; (· exact rfl); (· exact rfl); (· (intro G; exact looked))); (apply dw_pure; (· exact rfl); (· exact rfl); (· (intro G; exact looked))); (apply dw_pure; (· exact rfl); (· exact rfl); (· (intro G; exact looked))); (apply dw_pure; (· exact rfl); (· exact rfl); (· (intro G; exact looked))); (apply dw_pure; (· exact rfl); (· exact rfl); (· (intro G; exact looked))); (apply dw_pure; (· exact rfl); (· exact rfl); (· (intro G; exact looked))); (apply dw_pure; (· exact rfl); (· exact rfl); (· (intro G; exact looked))); (apply dw_pure; (· exact rfl); (· exact rfl); (· (intro G; exact looked))); (apply dw_pure; (· exact rfl); (· exact rfl); (· (intro G; exact looked))); (apply dw_pure; (· exact rfl); (· exact rfl); (· (intro G; (first | (refine step_wanted rfl rfl ?_; (apply s_indexAddr (j := 0) (o' := o); (· exact rfl); (· exact rfl); (· omega); (· omega); (· omega); (· exact rfl))) | (apply s_indexAddr (j := 0) (o' := o); (· exact rfl); (· exact rfl); (· omega); (· omega); (· omega); (· exact rfl)) | skip); exact looked))); (apply dw_look; (· exact rfl); (· exact rfl); (· (exact looked))); (apply dw_pure; (· exact rfl); (· exact rfl); (· (intro G; exact looked))); (apply dw_look; (· exact rfl); (· exact rfl); (· (exact looked))); (apply dw_pure; (· exact rfl); (· exact rfl); (· (intro G; exact looked))); (apply dw_pure; (· exact rfl); (· exact rfl); (· (intro G; exact looked))); (apply dw_pure; (· exact rfl); (· exact rfl); (· (intro G; exact looked))); refine dw_nil ?_)
          refine walk ?_
          (first | (apply retRD1 (G := (IdeAt x L + F)) (.inr rfl) rfl; (· first | (refine rv_tmp (v := .bool _) rfl) | exact rv_tmp rfl); (· exact Ent.auto)) | (apply retRD1 (G := (IdeAt x L + F)) (.inl rfl) rfl; (· first | (refine rv_tmp (v := .bool _) rfl) | exact rv_tmp rfl); (· exact Ent.auto)))
          exact ⟨Ent.refl _, rfl⟩
        · rw [show decide ((y :: R)[0]? = some n.g) = false by simp [hy]]
          refine fn_intro 50 Try.func39 rfl rfl rfl ?_
          refine walk ?_
          refine s_box (cs := nv n) rfl rfl rfl ?_
          intro b
          refine walk ?_
          refine s_call rfl (tRow (p := L.q) (T := L.I.tab) ok hK) rfl ?_
          rintro r _ rfl
          refine WPL.shape ?_
          rintro ao cap rfl hl1 hl2 hl3
          refine WPL.rd fun rd => ?_
          rw [hR] at rd ⊢
          obtain ⟨ao', cap', hv, _, _, hcc⟩ := (by unfold Rd at rd; exact rd)
          obtain ⟨bb, o, rfl, hcs⟩ := Rd.addr (k := 0) (by rw [zs_length, Nat.mul_one]) hcc (by simp)
          cases hv
          have hcell := hcs.cell (j := 0) rfl
          simp only [List.length_cons] at hl1 hl2 ⊢
          refine walk ?_
          (refine wp_draw [] (.look 0 (.look 1 (.look 2 (.look 3 (.look 4 (.look 5 (.look 6 (.look 7 (.look 8 (.look 9 (.look 10 (.look 11 (.look 12 (.look 13 (.look 14 (.look 15 (.look 16 (.look 17 (.look 18 (.look 19 (.look 20 (.look 21 (.look 22 (.look 23 (.look 24 (.look 25 (.look 26 (.look 27 (.look 28 (.look 29 (.look 30 (.look 31 (.look 32 (.look 33 (.look 34 (.look 35 (.look 36 (.look 37 (.look 38 (.look 39 .nil)))))))))))))))))))))))))))))))))))))))) (by kernel_rfl) ?_; (apply dw_pure; (· exact rfl); (· exact rfl); (· (intro G; exact looked))); (apply dw_pure; (· exact rfl); (· exact rfl); (· (intro G; exact looked))); (apply dw_pure; (· exact rfl); (· exact rfl); (· (intro G; exact looked))); (apply dw_look; (· exact rfl); (· exact rfl); (· (exact looked))); (apply dw_pure; (· exact rfl); (· exact rfl); (· (intro G; exact looked))); (apply dw_look; (· exact rfl); (· exact rfl); (· (exact looked))); (apply dw_pure; (· exact rfl); (· exact rfl); (· (intro G; (first | (refine step_wanted rfl rfl ?_; (apply s_indexAddr (j := k) (o' := k * 4); (· exact rfl); (· exact rfl); (· omega); (· omega); (· omega); (· exact rfl))) | (apply s_indexAddr (j := k) (o' := k * 4); (· exact rfl); (· exact rfl); (· omega); (· omega); (· omega); (· exact rfl)) | skip); exact looked))); (apply dw_pure; (· exact rfl); (· exact rfl); (· (intro G; exact looked))); (apply dw_pure; (· exact rfl); (· exact rfl); (· (intro G; exact looked))); (apply dw_look; (· exact rfl); (· exact rfl); (· (exact looked))); (apply dw_pure; (· exact rfl); (· exact rfl); (· (intro G; exact looked))); (apply dw_pure; (· exact rfl); (· exact rfl); (· (intro G; exact looked))); (apply dw_pure; (· exact rfl); (· exact rfl); (· (intro G; exact looked))); (apply dw_pure; (· exact rfl); (· exact rfl); (· (intro G; exact looked))); (apply dw_pure; (· exact rfl); (· exact rfl); (· (intro G; exact looked))); (apply dw_look; (· exact rfl); (· exact rfl); (· (exact looked))); (apply dw_pure; (· exact rfl); (· exact rfl); (· (intro G; exact looked))); (apply dw_look; (· exact rfl); (· exact rfl); (· (exact looked))); (apply dw_pure; (· exact rfl); (· exact rfl); (· (intro G; (first | (refine step_wanted rfl rfl ?_; (apply s_indexAddr (j := k) (o' := k * 4); (· exact rfl); (· exact rfl); (· omega); (· omega); (· omega); (· exact rfl))) | (apply s_indexAddr (j := k) (o' := k * 4); (· exact rfl); (· exact rfl); (· omega); (· omega); (· omega); (· exact rfl)) | skip); exact looked))); (apply dw_pure; (· exact rfl); (· exact rfl); (· (intro G; exact looked))); (apply dw_pure; (· exact rfl); (· exact rfl); (· (intro G; exact looked))); (apply dw_look; (· exact rfl); (· exact rfl); (· (exact looked))); (apply dw_pure; (· exact rfl); (· exact rfl); (· (intro G; exact looked))); (apply dw_look; (· exact rfl); (· exact rfl); (· (exact looked))); (apply dw_pure; (· exact rfl); (· exact rfl); (· (intro G; exact looked))); (apply dw_pure; (· exact rfl); (· exact rfl); (· (intro G; exact looked))); (apply dw_pure; (· exact rfl); (· exact rfl); (· (intro G; exact looked))); (apply dw_pure; (· exact rfl); (· exact rfl); (· (intro G; exact looked))); (apply dw_pure; (· exact rfl); (· exact rfl); (· (intro G; exact looked))); (apply dw_pure; (· exact rfl); (· exact rfl); (· (intro G; exact looked))); (apply dw_pure; (· exact rfl); (· exact rfl); (· (intro G; exact looked))); (apply dw_pure; (· exact rfl); (· exact rfl); (· (intro G; exact looked))); (apply dw_pure; (· exact rfl); (· exact rfl); (· (intro G; exact looked))); (apply dw_pure; (· exact rfl); (· exact rfl); (· (intro G; (first | (refine step_wanted rfl rfl ?_; (apply s_indexAddr (j := 0) (o' := o); (· exact rfl); (· exact rfl); (· omega); (· omega); (· omega); (· exact rfl))) | (apply s_indexAddr (j := 0) (o' := o); (· exact rfl); (· exact rfl); (· omega); (· omega); (· omega); (· exact rfl)) | skip); exact looked))); (apply dw_look; (· exact rfl); (· exact rfl); (· (exact looked))); (apply dw_pure; (· exact rfl); (· exact rfl); (· (intro G; exact looked))); (apply dw_look; (· exact rfl); (· exact rfl); (· (exact looked))); (apply dw_pure; (· exact rfl); (· exact rfl); (· (intro G; exact looked))); (apply dw_pure; (· exact rfl); (· exact rfl); (· (intro G; exact looked))); (apply dw_pure; (· exact rfl); (· exact rfl); (· (intro G; exact looked))); refine dw_nil ?_)
          refine walk ?_
          (first | (apply retRD1 (G := (IdeAt x L + F)) (.inr rfl) rfl; (· first | (refine rv_tmp (v := .bool _) rfl) | exact rv_tmp rfl); (· exact Ent.auto)) | (apply retRD1 (G := (IdeAt x L + F)) (.inl rfl) rfl; (· first | (refine rv_tmp (v := .bool _) rfl) | exact rv_tmp rfl); (· exact Ent.auto)))
          exact ⟨Ent.refl _, rfl⟩
      · rw [decide_eq_false hg, Bool.false_and]
        refine fn_intro 50 Try.func39 rfl rfl rfl ?_
        refine walk ?_
        refine s_box (cs := nv n) rfl rfl rfl ?_
        intro b
        refine walk ?_
        refine s_call rfl (tRow (p := L.q) (T := L.I.tab) ok hK) rfl ?_
        rintro r _ rfl
        refine WPL.shape ?_
        rintro ao cap rfl hl1 hl2 hl3
        refine WPL.rd fun rd => ?_
        rw [hR] at rd ⊢
        obtain ⟨ao', cap', hv, _, _, hcc⟩ := (by unfold Rd at rd; exact rd)
        obtain ⟨bb, o, rfl, hcs⟩ := Rd.addr (k := 0) (by rw [zs_length, Nat.mul_one]) hcc (by simp)
        cases hv
        have hcell := hcs.cell (j := 0) rfl
        simp only [List.length_cons] at hl1 hl2 ⊢
        refine walk ?_
        (refine wp_draw [] (.look 0 (.look 1 (.look 2 (.look 3 (.look 4 (.look 5 (.look 6 (.look 7 (.look 8 (.look 9 (.look 10 (.look 11 (.look 12 (.look 13 (.look 14 (.look 15 (.look 16 (.look 17 (.look 18 (.look 19 (.look 20 (.look 21 (.look 22 (.look 23 (.look 24 (.look 25 (.look 26 (.look 27 (.look 28 (.look 29 (.look 30 (.look 31 (.look 32 (.look 33 (.look 34 (.look 35 (.look 36 (.look 37 (.look 38 (.look 39 .nil)))))))))))))))))))))))))))))))))))))))) (by kernel_rfl) ?_; (apply dw_pure; (· exact rfl); (· exact rfl); (· (intro G; exact looked))); (apply dw_pure; (· exact rfl); (· exact rfl); (· (intro G; exact looked))); (apply dw_pure; (· exact rfl); (· exact rfl); (· (intro G; exact looked))); (apply dw_look; (· exact rfl); (· exact rfl); (· (exact looked))); (apply dw_pure; (· exact rfl); (· exact rfl); (· (intro G; exact looked))); (apply dw_look; (· exact rfl); (· exact rfl); (· (exact looked))); (apply dw_pure; (· exact rfl); (· exact rfl); (· (intro G; (first | (refine step_wanted rfl rfl ?_; (apply s_indexAddr (j := k) (o' := k * 4); (· exact rfl); (· exact rfl); (· omega); (· omega); (· omega); (· exact rfl))) | (apply s_indexAddr (j := k) (o' := k * 4); (· exact rfl); (· exact rfl); (· omega); (· omega); (· omega); (· exact rfl)) | skip); exact looked))); (apply dw_pure; (· exact rfl); (· exact rfl); (· (intro G; exact looked))); (apply dw_pure; (· exact rfl); (· exact rfl); (· (intro G; exact looked))); (apply dw_look; (· exact rfl); (· exact rfl); (· (exact looked))); (apply dw_pure; (· exact rfl); (· exact rfl); (· (intro G; exact looked))); (apply dw_pure; (· exact rfl); (· exact rfl); (· (intro G; exact looked))); (apply dw_pure; (· exact rfl); (· exact rfl); (· (intro G; exact looked))); (apply dw_pure; (· exact rfl); (· exact rfl); (· (intro G; exact looked))); (apply dw_pure; (· exact rfl); (· exact rfl); (· (intro G; exact looked))); (apply dw_look; (· exact rfl); (· exact rfl); (· (exact looked))); (apply dw_pure; (· exact rfl); (· exact rfl); (· (intro G; exact looked))); (apply dw_look; (· exact rfl); (· exact rfl); (· (exact looked))); (apply dw_pure; (· exact rfl); (· exact rfl); (· (intro G; (first | (refine step_wanted rfl rfl ?_; (apply s_indexAddr (j := k) (o' := k * 4); (· exact rfl); (· exact rfl); (· omega); (· omega); (· omega); (· exact rfl))) | (apply s_indexAddr (j := k) (o' := k * 4); (· exact rfl); (· exact rfl); (· omega); (· omega); (· omega); (· exact rfl)) | skip); exact looked))); (apply dw_pure; (· exact rfl); (· exact rfl); (· (intro G; exact looked))); (apply dw_pure; (· exact rfl); (· exact rfl); (· (intro G; exact looked))); (apply dw_look; (· exact rfl); (· exact rfl); (· (exact looked))); (apply dw_pure; (· exact rfl); (· exact rfl); (· (intro G; exact looked))); (apply dw_look; (· exact rfl); (· exact rfl); (· (exact looked))); (apply dw_pure; (· exact rfl); (· exact rfl); (· (intro G; exact looked))); (apply dw_pure; (· exact rfl); (· exact rfl); (· (intro G; exact looked))); (apply dw_pure; (· exact rfl); (· exact rfl); (· (intro G; exact looked))); (apply dw_pure; (· exact rfl); (· exact rfl); (· (intro G; exact looked))); (apply dw_pure; (· exact rfl); (· exact rfl); (· (intro G; exact looked))); (apply dw_pure; (· exact rfl); (· exact rfl); (· (intro G; exact looked))); (apply dw_pure; (· exact rfl); (· exact rfl); (· (intro G; exact looked))); (apply dw_pure; (· exact rfl); (· exact rfl); (· (intro G; exact looked))); (apply dw_pure; (· exact rfl); (· exact rfl); (· (intro G; exact looked))); (apply dw_pure; (· exact rfl); (· exact rfl); (· (intro G; (first | (refine step_wanted rfl rfl ?_; (apply s_indexAddr (j := 0) (o' := o); (· exact rfl); (· exact rfl); (· omega); (· omega); (· omega); (· exact rfl))) | (apply s_indexAddr (j := 0) (o' := o); (· exact rfl); (· exact rfl); (· omega); (· omega); (· omega); (· exact rfl)) | skip); exact looked))); (apply dw_look; (· exact rfl); (· exact rfl); (· (exact looked))); (apply dw_pure; (· exact rfl); (· exact rfl); (· (intro G; exact looked))); (apply dw_look; (· exact rfl); (· exact rfl); (· (exact looked))); (apply dw_pure; (· exact rfl); (· exact rfl); (· (intro G; exact looked))); (apply dw_pure; (· exact rfl); (· exact rfl); (· (intro G; exact looked))); (apply dw_pure; (· exact rfl); (· exact rfl); (· (intro G; exact looked))); refine dw_nil ?_)
        refine walk ?_
        (first | (apply retRD1 (G := (IdeAt x L + F)) (.inr rfl) rfl; (· first | (refine rv_tmp (v := .bool _) rfl) | exact rv_tmp rfl); (· exact Ent.auto)) | (apply retRD1 (G := (IdeAt x L + F)) (.inl rfl) rfl; (· first | (refine rv_tmp (v := .bool _) rfl) | exact rv_tmp rfl); (· exact Ent.auto)))
        exact ⟨Ent.refl _, rfl⟩
    · rw [decide_eq_false ha, Bool.false_and]
      refine fn_intro 50 Try.func39 rfl rfl rfl ?_
      refine walk ?_
      refine s_box (cs := nv n) rfl rfl rfl ?_
      intro b
      refine walk ?_
      refine s_call rfl (tRow (p := L.q) (T := L.I.tab) ok hK) rfl ?_
      rintro r _ rfl
      refine WPL.shape ?_
      rintro ao cap rfl hl1 hl2 hl3
      refine WPL.rd fun rd => ?_
      rw [hR] at rd ⊢
      obtain ⟨ao', cap', hv, _, _, hcc⟩ := (by unfold Rd at rd; exact rd)
      obtain ⟨bb, o, rfl, hcs⟩ := Rd.addr (k := 0) (by rw [zs_length, Nat.mul_one]) hcc (by simp)
      cases hv
      have hcell := hcs.cell (j := 0) rfl
      simp only [List.length_cons] at hl1 hl2 ⊢
      refine walk ?_
      (refine wp_draw [] (.look 0 (.look 1 (.look 2 (.look 3 (.look 4 (.look 5 (.look 6 (.look 7 (.look 8 (.look 9 (.look 10 (.look 11 (.look 12 (.look 13 (.look 14 (.look 15 (.look 16 (.look 17 (.look 18 (.look 19 (.look 20 (.look 21 (.look 22 (.look 23 (.look 24 (.look 25 (.look 26 (.look 27 (.look 28 (.look 29 (.look 30 (.look 31 (.look 32 (.look 33 (.look 34 (.look 35 (.look 36 (.look 37 (.look 38 (.look 39 .nil)))))))))))))))))))))))))))))))))))))))) (by kernel_rfl) ?_; (apply dw_pure; (· exact rfl); (· exact rfl); (· (intro G; exact looked))); (apply dw_pure; (· exact rfl); (· exact rfl); (· (intro G; exact looked))); (apply dw_pure; (· exact rfl); (· exact rfl); (· (intro G; exact looked))); (apply dw_look; (· exact rfl); (· exact rfl); (· (exact looked))); (apply dw_pure; (· exact rfl); (· exact rfl); (· (intro G; exact looked))); (apply dw_look; (· exact rfl); (· exact rfl); (· (exact looked))); (apply dw_pure; (· exact rfl); (· exact rfl); (· (intro G; (first | (refine step_wanted rfl rfl ?_; (apply s_indexAddr (j := k) (o' := k * 4); (· exact rfl); (· exact rfl); (· omega); (· omega); (· omega); (· exact rfl))) | (apply s_indexAddr (j := k) (o' := k * 4); (· exact rfl); (· exact rfl); (· omega); (· omega); (· omega); (· exact rfl)) | skip); exact looked))); (apply dw_pure; (· exact rfl); (· exact rfl); (· (intro G; exact looked))); (apply dw_pure; (· exact rfl); (· exact rfl); (· (intro G; exact looked))); (apply dw_look; (· exact rfl); (· exact rfl); (· (exact looked))); (apply dw_pure; (· exact rfl); (· exact rfl); (· (intro G; exact looked))); (apply dw_pure; (· exact rfl); (· exact rfl); (· (intro G; exact looked))); (apply dw_pure; (· exact rfl); (· exact rfl); (· (intro G; exact looked))); (apply dw_pure; (· exact rfl); (· exact rfl); (· (intro G; exact looked))); (apply dw_pure; (· exact rfl); (· exact rfl); (· (intro G; exact looked))); (apply dw_look; (· exact rfl); (· exact rfl); (· (exact looked))); (apply dw_pure; (· exact rfl); (· exact rfl); (· (intro G; exact looked))); (apply dw_look; (· exact rfl); (· exact rfl); (· (exact looked))); (apply dw_pure; (· exact rfl); (· exact rfl); (· (intro G; (first | (refine step_wanted rfl rfl ?_; (apply s_indexAddr (j := k) (o' := k * 4); (· exact rfl); (· exact rfl); (· omega); (· omega); (· omega); (· exact rfl))) | (apply s_indexAddr (j := k) (o' := k * 4); (· exact rfl); (· exact rfl); (· omega); (· omega); (· omega); (· exact rfl)) | skip); exact looked))); (apply dw_pure; (· exact rfl); (· exact rfl); (· (intro G; exact looked))); (apply dw_pure; (· exact rfl); (· exact rfl); (· (intro G; exact looked))); (apply dw_look; (· exact rfl); (· exact rfl); (· (exact looked))); (apply dw_pure; (· exact rfl); (· exact rfl); (· (intro G; exact looked))); (apply dw_look; (· exact rfl); (· exact rfl); (· (exact looked))); (apply dw_pure; (· exact rfl); (· exact rfl); (· (intro G; exact looked))); (apply dw_pure; (· exact rfl); (· exact rfl); (· (intro G; exact looked))); (apply dw_pure; (· exact rfl); (· exact rfl); (· (intro G; exact looked))); (apply dw_pure; (· exact rfl); (· exact rfl); (· (intro G; exact looked))); (apply dw_pure; (· exact rfl); (· exact rfl); (· (intro G; exact looked))); (apply dw_pure; (· exact rfl); (· exact rfl); (· (intro G; exact looked))); (apply dw_pure; (· exact rfl); (· exact rfl); (· (intro G; exact looked))); (apply dw_pure; (· exact rfl); (· exact rfl); (· (intro G; exact looked))); (apply dw_pure; (· exact rfl); (· exact rfl); (· (intro G; exact looked))); (apply dw_pure; (· exact rfl); (· exact rfl); (· (intro G; (first | (refine step_wanted rfl rfl ?_; (apply s_indexAddr (j := 0) (o' := o); (· exact rfl); (· exact rfl); (· omega); (· omega); (· omega); (· exact rfl))) | (apply s_indexAddr (j := 0) (o' := o); (· exact rfl); (· exact rfl); (· omega); (· omega); (· omega); (· exact rfl)) | skip); exact looked))); (apply dw_look; (· exact rfl); (· exact rfl); (· (exact looked))); (apply dw_pure; (· exact rfl); (· exact rfl); (· (intro G; exact looked))); (apply dw_look; (· exact rfl); (· exact rfl); (· (exact looked))); (apply dw_pure; (· exact rfl); (· exact rfl); (· (intro G; exact looked))); (apply dw_pure; (· exact rfl); (· exact rfl); (· (intro G; exact looked))); (apply dw_pure; (· exact rfl); (· exact rfl); (· (intro G; exact looked))); refine dw_nil ?_)
      refine walk ?_
      (first | (apply retRD1 (G := (IdeAt x L + F)) (.inr rfl) rfl; (· first | (refine rv_tmp (v := .bool _) rfl) | exact rv_tmp rfl); (· exact Ent.auto)) | (apply retRD1 (G := (IdeAt x L + F)) (.inl rfl) rfl; (· first | (refine rv_tmp (v := .bool _) rfl) | exact rv_tmp rfl); (· exact Ent.auto)))
      exact ⟨Ent.refl _, rfl⟩
end
end Go.Proofs.Ytlhnmbajbhaaoaa
