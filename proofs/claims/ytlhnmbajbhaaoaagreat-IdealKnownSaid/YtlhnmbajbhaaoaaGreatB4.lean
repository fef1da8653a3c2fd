/- What may be: each kind of notes, by its function. What may be: each kind of notes, the others. No condition. -/
import Derived.Test.YtlhnmbajbhaaoaaGreatSL2
import Derived.Test.YtlhnmbajbhaaoaaGreatB3
namespace Go.Proofs.YtlhnmbajbhaaoaaGreat
open Go Go.SL
set_option linter.unusedSimpArgs false
set_option linter.unusedVariables false
set_option maxRecDepth 10000
set_option maxHeartbeats 2000000
attribute [local irreducible] WP WPL QSeq QBlk QRet Does Cell Cells Rd Mine Ent Aside RV Yield TabAt SemAt IdeAt
section
variable {B : World} {H F G : HProp} {x : Nat} {L : IdL} {n : Nt} {m p a g s : Int} {k j : Nat} {K : Int}
theorem k6 [i : HasAt IdeAt H x L F] (hm : 0 ≤ n.m ∧ n.m < L.I.ms.length) : Does Tryz.prog B 72 [ptr x, noteV n] H fun r H' => H' = H ∧ r = .bool (runsB L.I n && decide (0 < L.I.count n.x)) := by
  have z0 : Cell B (IdeAt x L) x 0 (.int .i64 L.I.c.n) := ide_cell rfl
  have z3 : Cell B (IdeAt x L) x 3 (.int .i64 L.I.c.m) := ide_cell rfl
  have z6 : Cell B (IdeAt x L) x 6 (ptr L.q) := ide_cell rfl
  have z7 : Cell B (IdeAt x L) x 7 (ptr L.s) := ide_cell rfl
  have z8 : Cell B (IdeAt x L) x 8 (.slice (some ⟨L.bm, 0, none⟩) L.I.ms.length L.cm) := ide_cell rfl
  have z9 : Cell B (IdeAt x L) x 9 (.slice (some ⟨L.bp, 0, none⟩) L.I.ps.length L.cp) := ide_cell rfl
  rw [i.eq]
  refine Does.frame0 ?_
  cases hr : runsB L.I n with
  | false =>
    rw [Bool.false_and]
    refine fn_intro 18 Tryz.func72 rfl rfl rfl ?_
    refine walk ?_
    refine s_box (cs := nv n) rfl rfl rfl ?_
    intro b
    refine walk ?_
    (refine wp_draw [2, 10] (.look 0 (.look 1 (.act 2 (.look 3 (.look 4 (.look 5 (.look 6 (.look 7 (.look 8 (.look 9 (.act 10 (.look 11 (.look 12 (.look 13 .nil))) .stop)))))))) .stop))) (by kernel_rfl) ?_; refine dwP ?_; refine dwL ?_; skip)
    refine dw_do rfl rfl ?_ dw_stop
    refine s_call rfl (iRuns (n := n) (L := L) hm) rfl ?_
    rintro _ _ ⟨e_, rfl⟩
    obtain rfl := e_.symm
    rw [hr]
    refine wpl_nil (qone ⟨(by refine st_past (by kernel_rfl) ?_; exact st_nil), ?_⟩)
    (refine dwP ?_; refine dwP ?_; refine dwP ?_; refine dwP ?_; refine dwL ?_; refine dwP ?_; refine dwL ?_; skip)
    refine dw_do rfl rfl ?_ dw_stop
    (first | refine step_unwanted rfl rfl rfl rfl ?_ | refine step_unwantedU rfl rfl rfl ?_ | refine step_unwanted0 rfl rfl rfl ?_ | refine step_unwantedU0 rfl rfl ?_)
    refine wpl_nil (qone ⟨(by refine st_past (by kernel_rfl) ?_; refine st_past (by kernel_rfl) ?_; refine st_past (by kernel_rfl) ?_; exact st_nil), ?_⟩)
    (refine dwP ?_; refine dwP ?_; refine dwP ?_; refine dw_nil ?_; skip)
    refine walk ?_
    (first | (apply retRD1 (G := (IdeAt x L + F)) (.inr rfl) rfl; (· first | (refine rv_tmp (v := .bool _) rfl) | exact rv_tmp rfl); (· exact Ent.auto)) | (apply retRD1 (G := (IdeAt x L + F)) (.inl rfl) rfl; (· first | (refine rv_tmp (v := .bool _) rfl) | exact rv_tmp rfl); (· exact Ent.auto)))
    exact ⟨Ent.refl _, rfl⟩
  | true =>
    by_cases hc : 0 < L.I.count n.x
    · rw [decide_eq_true hc]
      refine fn_intro 18 Tryz.func72 rfl rfl rfl ?_
      refine walk ?_
      refine s_box (cs := nv n) rfl rfl rfl ?_
      intro b
      refine walk ?_
      (refine wp_draw [2, 10] (.look 0 (.look 1 (.act 2 (.look 3 (.look 4 (.look 5 (.look 6 (.look 7 (.look 8 (.look 9 (.act 10 (.look 11 (.look 12 (.look 13 .nil))) .stop)))))))) .stop))) (by kernel_rfl) ?_; refine dwP ?_; refine dwL ?_; skip)
      refine dw_do rfl rfl ?_ dw_stop
      refine s_call rfl (iRuns (n := n) (L := L) hm) rfl ?_
      rintro _ _ ⟨e_, rfl⟩
      obtain rfl := e_.symm
      rw [hr]
      refine wpl_nil (qone ⟨(by refine st_past (by kernel_rfl) ?_; exact st_nil), ?_⟩)
      (refine dwP ?_; refine dwP ?_; refine dwP ?_; refine dwP ?_; refine dwL ?_; refine dwP ?_; refine dwL ?_; skip)
      refine dw_do rfl rfl ?_ dw_stop
      refine step_wanted rfl rfl ?_
      refine s_call rfl (iCount (L := L) (x := x) (s := n.x)) rfl ?_
      rintro _ _ ⟨e_, rfl⟩
      obtain rfl := e_.symm
      refine wpl_nil (qone ⟨(by refine st_past (by kernel_rfl) ?_; refine st_past (by kernel_rfl) ?_; refine st_past (by kernel_rfl) ?_; exact st_nil), ?_⟩)
      (refine dwP ?_; refine dwP ?_; refine dwP ?_; refine dw_nil ?_; skip)
      refine walk ?_
      (first | (apply retRD1 (G := (IdeAt x L + F)) (.inr rfl) rfl; (· first | (refine rv_tmp (v := .bool _) rfl) | exact rv_tmp rfl); (· exact Ent.auto)) | (apply retRD1 (G := (IdeAt x L + F)) (.inl rfl) rfl; (· first | (refine rv_tmp (v := .bool _) rfl) | exact rv_tmp rfl); (· exact Ent.auto)))
      exact ⟨Ent.refl _, rfl⟩
    · rw [decide_eq_false hc]
      refine fn_intro 18 Tryz.func72 rfl rfl rfl ?_
      refine walk ?_
      refine s_box (cs := nv n) rfl rfl rfl ?_
      intro b
      refine walk ?_
      (refine wp_draw [2, 10] (.look 0 (.look 1 (.act 2 (.look 3 (.look 4 (.look 5 (.look 6 (.look 7 (.look 8 (.look 9 (.act 10 (.look 11 (.look 12 (.look 13 .nil))) .stop)))))))) .stop))) (by kernel_rfl) ?_; refine dwP ?_; refine dwL ?_; skip)
      refine dw_do rfl rfl ?_ dw_stop
      refine s_call rfl (iRuns (n := n) (L := L) hm) rfl ?_
      rintro _ _ ⟨e_, rfl⟩
      obtain rfl := e_.symm
      rw [hr]
      refine wpl_nil (qone ⟨(by refine st_past (by kernel_rfl) ?_; exact st_nil), ?_⟩)
      (refine dwP ?_; refine dwP ?_; refine dwP ?_; refine dwP ?_; refine dwL ?_; refine dwP ?_; refine dwL ?_; skip)
      refine dw_do rfl rfl ?_ dw_stop
      refine step_wanted rfl rfl ?_
      refine s_call rfl (iCount (L := L) (x := x) (s := n.x)) rfl ?_
      rintro _ _ ⟨e_, rfl⟩
      obtain rfl := e_.symm
      refine wpl_nil (qone ⟨(by refine st_past (by kernel_rfl) ?_; refine st_past (by kernel_rfl) ?_; refine st_past (by kernel_rfl) ?_; exact st_nil), ?_⟩)
      (refine dwP ?_; refine dwP ?_; refine dwP ?_; refine dw_nil ?_; skip)
      refine walk ?_
      (first | (apply retRD1 (G := (IdeAt x L + F)) (.inr rfl) rfl; (· first | (refine rv_tmp (v := .bool _) rfl) | exact rv_tmp rfl); (· exact Ent.auto)) | (apply retRD1 (G := (IdeAt x L + F)) (.inl rfl) rfl; (· first | (refine rv_tmp (v := .bool _) rfl) | exact rv_tmp rfl); (· exact Ent.auto)))
      exact ⟨Ent.refl _, rfl⟩
theorem k8 [i : HasAt IdeAt H x L F] (hm : 0 ≤ n.m ∧ n.m < L.I.ms.length) : Does Tryz.prog B 75 [ptr x, noteV n] H fun r H' => H' = H ∧ r = .bool (runsB L.I n && decide (L.I.count n.x = 0)) := by
  have z0 : Cell B (IdeAt x L) x 0 (.int .i64 L.I.c.n) := ide_cell rfl
  have z3 : Cell B (IdeAt x L) x 3 (.int .i64 L.I.c.m) := ide_cell rfl
  have z6 : Cell B (IdeAt x L) x 6 (ptr L.q) := ide_cell rfl
  have z7 : Cell B (IdeAt x L) x 7 (ptr L.s) := ide_cell rfl
  have z8 : Cell B (IdeAt x L) x 8 (.slice (some ⟨L.bm, 0, none⟩) L.I.ms.length L.cm) := ide_cell rfl
  have z9 : Cell B (IdeAt x L) x 9 (.slice (some ⟨L.bp, 0, none⟩) L.I.ps.length L.cp) := ide_cell rfl
  rw [i.eq]
  refine Does.frame0 ?_
  cases hr : runsB L.I n with
  | false =>
    rw [Bool.false_and]
    refine fn_intro 18 Tryz.func75 rfl rfl rfl ?_
    refine walk ?_
    refine s_box (cs := nv n) rfl rfl rfl ?_
    intro b
    refine walk ?_
    (refine wp_draw [2, 10] (.look 0 (.look 1 (.act 2 (.look 3 (.look 4 (.look 5 (.look 6 (.look 7 (.look 8 (.look 9 (.act 10 (.look 11 (.look 12 (.look 13 .nil))) .stop)))))))) .stop))) (by kernel_rfl) ?_; refine dwP ?_; refine dwL ?_; skip)
    refine dw_do rfl rfl ?_ dw_stop
    refine s_call rfl (iRuns (n := n) (L := L) hm) rfl ?_
    rintro _ _ ⟨e_, rfl⟩
    obtain rfl := e_.symm
    rw [hr]
    refine wpl_nil (qone ⟨(by refine st_past (by kernel_rfl) ?_; exact st_nil), ?_⟩)
    (refine dwP ?_; refine dwP ?_; refine dwP ?_; refine dwP ?_; refine dwL ?_; refine dwP ?_; refine dwL ?_; skip)
    refine dw_do rfl rfl ?_ dw_stop
    (first | refine step_unwanted rfl rfl rfl rfl ?_ | refine step_unwantedU rfl rfl rfl ?_ | refine step_unwanted0 rfl rfl rfl ?_ | refine step_unwantedU0 rfl rfl ?_)
    refine wpl_nil (qone ⟨(by refine st_past (by kernel_rfl) ?_; refine st_past (by kernel_rfl) ?_; refine st_past (by kernel_rfl) ?_; exact st_nil), ?_⟩)
    (refine dwP ?_; refine dwP ?_; refine dwP ?_; refine dw_nil ?_; skip)
    refine walk ?_
    (first | (apply retRD1 (G := (IdeAt x L + F)) (.inr rfl) rfl; (· first | (refine rv_tmp (v := .bool _) rfl) | exact rv_tmp rfl); (· exact Ent.auto)) | (apply retRD1 (G := (IdeAt x L + F)) (.inl rfl) rfl; (· first | (refine rv_tmp (v := .bool _) rfl) | exact rv_tmp rfl); (· exact Ent.auto)))
    exact ⟨Ent.refl _, rfl⟩
  | true =>
    by_cases hc : L.I.count n.x = 0
    · rw [decide_eq_true hc]
      refine fn_intro 18 Tryz.func75 rfl rfl rfl ?_
      refine walk ?_
      refine s_box (cs := nv n) rfl rfl rfl ?_
      intro b
      refine walk ?_
      (refine wp_draw [2, 10] (.look 0 (.look 1 (.act 2 (.look 3 (.look 4 (.look 5 (.look 6 (.look 7 (.look 8 (.look 9 (.act 10 (.look 11 (.look 12 (.look 13 .nil))) .stop)))))))) .stop))) (by kernel_rfl) ?_; refine dwP ?_; refine dwL ?_; skip)
      refine dw_do rfl rfl ?_ dw_stop
      refine s_call rfl (iRuns (n := n) (L := L) hm) rfl ?_
      rintro _ _ ⟨e_, rfl⟩
      obtain rfl := e_.symm
      rw [hr]
      refine wpl_nil (qone ⟨(by refine st_past (by kernel_rfl) ?_; exact st_nil), ?_⟩)
      (refine dwP ?_; refine dwP ?_; refine dwP ?_; refine dwP ?_; refine dwL ?_; refine dwP ?_; refine dwL ?_; skip)
      refine dw_do rfl rfl ?_ dw_stop
      refine step_wanted rfl rfl ?_
      refine s_call rfl (iCount (L := L) (x := x) (s := n.x)) rfl ?_
      rintro _ _ ⟨e_, rfl⟩
      obtain rfl := e_.symm
      refine wpl_nil (qone ⟨(by refine st_past (by kernel_rfl) ?_; refine st_past (by kernel_rfl) ?_; refine st_past (by kernel_rfl) ?_; exact st_nil), ?_⟩)
      (refine dwP ?_; refine dwP ?_; refine dwP ?_; refine dw_nil ?_; skip)
      refine walk ?_
      (first | (apply retRD1 (G := (IdeAt x L + F)) (.inr rfl) rfl; (· first | (refine rv_tmp (v := .bool _) rfl) | exact rv_tmp rfl); (· exact Ent.auto)) | (apply retRD1 (G := (IdeAt x L + F)) (.inl rfl) rfl; (· first | (refine rv_tmp (v := .bool _) rfl) | exact rv_tmp rfl); (· exact Ent.auto)))
      exact ⟨Ent.refl _, rfl⟩
    · rw [decide_eq_false hc]
      refine fn_intro 18 Tryz.func75 rfl rfl rfl ?_
      refine walk ?_
      refine s_box (cs := nv n) rfl rfl rfl ?_
      intro b
      refine walk ?_
      (refine wp_draw [2, 10] (.look 0 (.look 1 (.act 2 (.look 3 (.look 4 (.look 5 (.look 6 (.look 7 (.look 8 (.look 9 (.act 10 (.look 11 (.look 12 (.look 13 .nil))) .stop)))))))) .stop))) (by kernel_rfl) ?_; refine dwP ?_; refine dwL ?_; skip)
      refine dw_do rfl rfl ?_ dw_stop
      refine s_call rfl (iRuns (n := n) (L := L) hm) rfl ?_
      rintro _ _ ⟨e_, rfl⟩
      obtain rfl := e_.symm
      rw [hr]
      refine wpl_nil (qone ⟨(by refine st_past (by kernel_rfl) ?_; exact st_nil), ?_⟩)
      (refine dwP ?_; refine dwP ?_; refine dwP ?_; refine dwP ?_; refine dwL ?_; refine dwP ?_; refine dwL ?_; skip)
      refine dw_do rfl rfl ?_ dw_stop
      refine step_wanted rfl rfl ?_
      refine s_call rfl (iCount (L := L) (x := x) (s := n.x)) rfl ?_
      rintro _ _ ⟨e_, rfl⟩
      obtain rfl := e_.symm
      refine wpl_nil (qone ⟨(by refine st_past (by kernel_rfl) ?_; refine st_past (by kernel_rfl) ?_; refine st_past (by kernel_rfl) ?_; exact st_nil), ?_⟩)
      (refine dwP ?_; refine dwP ?_; refine dwP ?_; refine dw_nil ?_; skip)
      refine walk ?_
      (first | (apply retRD1 (G := (IdeAt x L + F)) (.inr rfl) rfl; (· first | (refine rv_tmp (v := .bool _) rfl) | exact rv_tmp rfl); (· exact Ent.auto)) | (apply retRD1 (G := (IdeAt x L + F)) (.inl rfl) rfl; (· first | (refine rv_tmp (v := .bool _) rfl) | exact rv_tmp rfl); (· exact Ent.auto)))
      exact ⟨Ent.refl _, rfl⟩
theorem k10 [i : HasAt IdeAt H x L F] (hm : 0 ≤ n.m ∧ n.m < L.I.ms.length) (hl : LOk L.I.sem) : Does Tryz.prog B 77 [ptr x, noteV n] H fun r H' => H' = H ∧ r = .bool (runsB L.I n && (L.I.first n.x (-1) && decide (L.I.count n.x < 1073741824))) := by
  have z0 : Cell B (IdeAt x L) x 0 (.int .i64 L.I.c.n) := ide_cell rfl
  have z3 : Cell B (IdeAt x L) x 3 (.int .i64 L.I.c.m) := ide_cell rfl
  have z6 : Cell B (IdeAt x L) x 6 (ptr L.q) := ide_cell rfl
  have z7 : Cell B (IdeAt x L) x 7 (ptr L.s) := ide_cell rfl
  have z8 : Cell B (IdeAt x L) x 8 (.slice (some ⟨L.bm, 0, none⟩) L.I.ms.length L.cm) := ide_cell rfl
  have z9 : Cell B (IdeAt x L) x 9 (.slice (some ⟨L.bp, 0, none⟩) L.I.ps.length L.cp) := ide_cell rfl
  rw [i.eq]
  refine Does.frame0 ?_
  cases hr : runsB L.I n with
  | false =>
    rw [Bool.false_and]
    refine fn_intro 24 Tryz.func77 rfl rfl rfl ?_
    refine walk ?_
    refine s_box (cs := nv n) rfl rfl rfl ?_
    intro b
    refine walk ?_
    (refine wp_draw [2, 7, 16] (.look 0 (.look 1 (.act 2 (.look 3 (.look 4 (.look 5 (.look 6 (.act 7 (.look 8 (.look 9 (.look 10 (.look 11 (.look 12 (.look 13 (.look 14 (.look 15 (.act 16 (.look 17 (.look 18 (.look 19 .nil))) .stop))))))))) .stop))))) .stop))) (by kernel_rfl) ?_; refine dwP ?_; refine dwL ?_; skip)
    refine dw_do rfl rfl ?_ dw_stop
    refine s_call rfl (iRuns (n := n) (L := L) hm) rfl ?_
    rintro _ _ ⟨e_, rfl⟩
    obtain rfl := e_.symm
    rw [hr]
    refine wpl_nil (qone ⟨(by refine st_past (by kernel_rfl) ?_; exact st_nil), ?_⟩)
    (refine dwP ?_; refine dwP ?_; refine dwP ?_; refine dwL ?_; skip)
    refine dw_do rfl rfl ?_ dw_stop
    (first | refine step_unwanted rfl rfl rfl rfl ?_ | refine step_unwantedU rfl rfl rfl ?_ | refine step_unwanted0 rfl rfl rfl ?_ | refine step_unwantedU0 rfl rfl ?_)
    refine wpl_nil (qone ⟨(by refine st_past (by kernel_rfl) ?_; refine st_past (by kernel_rfl) ?_; exact st_nil), ?_⟩)
    (refine dwP ?_; refine dwP ?_; refine dwP ?_; refine dwP ?_; refine dwP ?_; refine dwL ?_; refine dwP ?_; refine dwL ?_; skip)
    refine dw_do rfl rfl ?_ dw_stop
    (first | refine step_unwanted rfl rfl rfl rfl ?_ | refine step_unwantedU rfl rfl rfl ?_ | refine step_unwanted0 rfl rfl rfl ?_ | refine step_unwantedU0 rfl rfl ?_)
    refine wpl_nil (qone ⟨(by refine st_past (by kernel_rfl) ?_; refine st_past (by kernel_rfl) ?_; refine st_past (by kernel_rfl) ?_; refine st_past (by kernel_rfl) ?_; exact st_nil), ?_⟩)
    (refine dwP ?_; refine dwP ?_; refine dwP ?_; refine dw_nil ?_; skip)
    refine walk ?_
    (first | (apply retRD1 (G := (IdeAt x L + F)) (.inr rfl) rfl; (· first | (refine rv_tmp (v := .bool _) rfl) | exact rv_tmp rfl); (· exact Ent.auto)) | (apply retRD1 (G := (IdeAt x L + F)) (.inl rfl) rfl; (· first | (refine rv_tmp (v := .bool _) rfl) | exact rv_tmp rfl); (· exact Ent.auto)))
    exact ⟨Ent.refl _, rfl⟩
  | true =>
    cases hf : L.I.first n.x (-1) with
    | false =>
      rw [Bool.false_and]
      refine fn_intro 24 Tryz.func77 rfl rfl rfl ?_
      refine walk ?_
      refine s_box (cs := nv n) rfl rfl rfl ?_
      intro b
      refine walk ?_
      (refine wp_draw [2, 7, 16] (.look 0 (.look 1 (.act 2 (.look 3 (.look 4 (.look 5 (.look 6 (.act 7 (.look 8 (.look 9 (.look 10 (.look 11 (.look 12 (.look 13 (.look 14 (.look 15 (.act 16 (.look 17 (.look 18 (.look 19 .nil))) .stop))))))))) .stop))))) .stop))) (by kernel_rfl) ?_; refine dwP ?_; refine dwL ?_; skip)
      refine dw_do rfl rfl ?_ dw_stop
      refine s_call rfl (iRuns (n := n) (L := L) hm) rfl ?_
      rintro _ _ ⟨e_, rfl⟩
      obtain rfl := e_.symm
      rw [hr]
      refine wpl_nil (qone ⟨(by refine st_past (by kernel_rfl) ?_; exact st_nil), ?_⟩)
      (refine dwP ?_; refine dwP ?_; refine dwP ?_; refine dwL ?_; skip)
      refine dw_do rfl rfl ?_ dw_stop
      refine step_wanted rfl rfl ?_
      refine s_call rfl (iFirst (L := L) (x := x) (s := n.x) (g := -1) hl) rfl ?_
      rintro _ _ ⟨e_, rfl⟩
      obtain rfl := e_.symm
      rw [hf]
      refine wpl_nil (qone ⟨(by refine st_past (by kernel_rfl) ?_; refine st_past (by kernel_rfl) ?_; exact st_nil), ?_⟩)
      (refine dwP ?_; refine dwP ?_; refine dwP ?_; refine dwP ?_; refine dwP ?_; refine dwL ?_; refine dwP ?_; refine dwL ?_; skip)
      refine dw_do rfl rfl ?_ dw_stop
      (first | refine step_unwanted rfl rfl rfl rfl ?_ | refine step_unwantedU rfl rfl rfl ?_ | refine step_unwanted0 rfl rfl rfl ?_ | refine step_unwantedU0 rfl rfl ?_)
      refine wpl_nil (qone ⟨(by refine st_past (by kernel_rfl) ?_; refine st_past (by kernel_rfl) ?_; refine st_past (by kernel_rfl) ?_; refine st_past (by kernel_rfl) ?_; exact st_nil), ?_⟩)
      (refine dwP ?_; refine dwP ?_; refine dwP ?_; refine dw_nil ?_; skip)
      refine walk ?_
      (first | (apply retRD1 (G := (IdeAt x L + F)) (.inr rfl) rfl; (· first | (refine rv_tmp (v := .bool _) rfl) | exact rv_tmp rfl); (· exact Ent.auto)) | (apply retRD1 (G := (IdeAt x L + F)) (.inl rfl) rfl; (· first | (refine rv_tmp (v := .bool _) rfl) | exact rv_tmp rfl); (· exact Ent.auto)))
      exact ⟨Ent.refl _, rfl⟩
    | true =>
      by_cases hc : L.I.count n.x < 1073741824
      · rw [decide_eq_true hc]
        refine fn_intro 24 Tryz.func77 rfl rfl rfl ?_
        refine walk ?_
        refine s_box (cs := nv n) rfl rfl rfl ?_
        intro b
        refine walk ?_
        (refine wp_draw [2, 7, 16] (.look 0 (.look 1 (.act 2 (.look 3 (.look 4 (.look 5 (.look 6 (.act 7 (.look 8 (.look 9 (.look 10 (.look 11 (.look 12 (.look 13 (.look 14 (.look 15 (.act 16 (.look 17 (.look 18 (.look 19 .nil))) .stop))))))))) .stop))))) .stop))) (by kernel_rfl) ?_; refine dwP ?_; refine dwL ?_; skip)
        refine dw_do rfl rfl ?_ dw_stop
        refine s_call rfl (iRuns (n := n) (L := L) hm) rfl ?_
        rintro _ _ ⟨e_, rfl⟩
        obtain rfl := e_.symm
        rw [hr]
        refine wpl_nil (qone ⟨(by refine st_past (by kernel_rfl) ?_; exact st_nil), ?_⟩)
        (refine dwP ?_; refine dwP ?_; refine dwP ?_; refine dwL ?_; skip)
        refine dw_do rfl rfl ?_ dw_stop
        refine step_wanted rfl rfl ?_
        refine s_call rfl (iFirst (L := L) (x := x) (s := n.x) (g := -1) hl) rfl ?_
        rintro _ _ ⟨e_, rfl⟩
        obtain rfl := e_.symm
        rw [hf]
        refine wpl_nil (qone ⟨(by refine st_past (by kernel_rfl) ?_; refine st_past (by kernel_rfl) ?_; exact st_nil), ?_⟩)
        (refine dwP ?_; refine dwP ?_; refine dwP ?_; refine dwP ?_; refine dwP ?_; refine dwL ?_; refine dwP ?_; refine dwL ?_; skip)
        refine dw_do rfl rfl ?_ dw_stop
        refine step_wanted rfl rfl ?_
        refine s_call rfl (iCount (L := L) (x := x) (s := n.x)) rfl ?_
        rintro _ _ ⟨e_, rfl⟩
        obtain rfl := e_.symm
        refine wpl_nil (qone ⟨(by refine st_past (by kernel_rfl) ?_; refine st_past (by kernel_rfl) ?_; refine st_past (by kernel_rfl) ?_; refine st_past (by kernel_rfl) ?_; exact st_nil), ?_⟩)
        (refine dwP ?_; refine dwP ?_; refine dwP ?_; refine dw_nil ?_; skip)
        refine walk ?_
        (first | (apply retRD1 (G := (IdeAt x L + F)) (.inr rfl) rfl; (· first | (refine rv_tmp (v := .bool _) rfl) | exact rv_tmp rfl); (· exact Ent.auto)) | (apply retRD1 (G := (IdeAt x L + F)) (.inl rfl) rfl; (· first | (refine rv_tmp (v := .bool _) rfl) | exact rv_tmp rfl); (· exact Ent.auto)))
        exact ⟨Ent.refl _, rfl⟩
      · rw [decide_eq_false hc]
        refine fn_intro 24 Tryz.func77 rfl rfl rfl ?_
        refine walk ?_
        refine s_box (cs := nv n) rfl rfl rfl ?_
        intro b
        refine walk ?_
        (refine wp_draw [2, 7, 16] (.look 0 (.look 1 (.act 2 (.look 3 (.look 4 (.look 5 (.look 6 (.act 7 (.look 8 (.look 9 (.look 10 (.look 11 (.look 12 (.look 13 (.look 14 (.look 15 (.act 16 (.look 17 (.look 18 (.look 19 .nil))) .stop))))))))) .stop))))) .stop))) (by kernel_rfl) ?_; refine dwP ?_; refine dwL ?_; skip)
        refine dw_do rfl rfl ?_ dw_stop
        refine s_call rfl (iRuns (n := n) (L := L) hm) rfl ?_
        rintro _ _ ⟨e_, rfl⟩
        obtain rfl := e_.symm
        rw [hr]
        refine wpl_nil (qone ⟨(by refine st_past (by kernel_rfl) ?_; exact st_nil), ?_⟩)
        (refine dwP ?_; refine dwP ?_; refine dwP ?_; refine dwL ?_; skip)
        refine dw_do rfl rfl ?_ dw_stop
        refine step_wanted rfl rfl ?_
        refine s_call rfl (iFirst (L := L) (x := x) (s := n.x) (g := -1) hl) rfl ?_
        rintro _ _ ⟨e_, rfl⟩
        obtain rfl := e_.symm
        rw [hf]
        refine wpl_nil (qone ⟨(by refine st_past (by kernel_rfl) ?_; refine st_past (by kernel_rfl) ?_; exact st_nil), ?_⟩)
        (refine dwP ?_; refine dwP ?_; refine dwP ?_; refine dwP ?_; refine dwP ?_; refine dwL ?_; refine dwP ?_; refine dwL ?_; skip)
        refine dw_do rfl rfl ?_ dw_stop
        refine step_wanted rfl rfl ?_
        refine s_call rfl (iCount (L := L) (x := x) (s := n.x)) rfl ?_
        rintro _ _ ⟨e_, rfl⟩
        obtain rfl := e_.symm
        refine wpl_nil (qone ⟨(by refine st_past (by kernel_rfl) ?_; refine st_past (by kernel_rfl) ?_; refine st_past (by kernel_rfl) ?_; refine st_past (by kernel_rfl) ?_; exact st_nil), ?_⟩)
        (refine dwP ?_; refine dwP ?_; refine dwP ?_; refine dw_nil ?_; skip)
        refine walk ?_
        (first | (apply retRD1 (G := (IdeAt x L + F)) (.inr rfl) rfl; (· first | (refine rv_tmp (v := .bool _) rfl) | exact rv_tmp rfl); (· exact Ent.auto)) | (apply retRD1 (G := (IdeAt x L + F)) (.inl rfl) rfl; (· first | (refine rv_tmp (v := .bool _) rfl) | exact rv_tmp rfl); (· exact Ent.auto)))
        exact ⟨Ent.refl _, rfl⟩
theorem k12 [i : HasAt IdeAt H x L F] (hm : 0 ≤ n.m ∧ n.m < L.I.ms.length) (hl : LOk L.I.sem) : Does Tryz.prog B 81 [ptr x, noteV n] H fun r H' => H' = H ∧ r = .bool (decide ((L.I.mAt n.m).a = 2) && L.I.first n.x n.g) := by
  obtain ⟨k, hk, hm', hA⟩ := mAt_of hm
  rw [hA]
  have c0 := ide_m (B := B) (x := x) hk (j := 0) (by omega) rfl
  have z0 : Cell B (IdeAt x L) x 0 (.int .i64 L.I.c.n) := ide_cell rfl
  have z3 : Cell B (IdeAt x L) x 3 (.int .i64 L.I.c.m) := ide_cell rfl
  have z6 : Cell B (IdeAt x L) x 6 (ptr L.q) := ide_cell rfl
  have z7 : Cell B (IdeAt x L) x 7 (ptr L.s) := ide_cell rfl
  have z8 : Cell B (IdeAt x L) x 8 (.slice (some ⟨L.bm, 0, none⟩) L.I.ms.length L.cm) := ide_cell rfl
  have z9 : Cell B (IdeAt x L) x 9 (.slice (some ⟨L.bp, 0, none⟩) L.I.ps.length L.cp) := ide_cell rfl
  rw [i.eq]
  refine Does.frame0 ?_
  by_cases ha : L.I.ms[k].a = 2
  · rw [decide_eq_true ha]
    cases hf : L.I.first n.x n.g with
    | false =>
      refine fn_intro 24 Tryz.func81 rfl rfl rfl ?_
      refine walk ?_
      refine s_box (cs := nv n) rfl rfl rfl ?_
      intro b
      refine walk ?_
      (refine wp_draw [17] (.look 0 (.look 1 (.look 2 (.look 3 (.look 4 (.look 5 (.look 6 (.look 7 (.look 8 (.look 9 (.look 10 (.look 11 (.look 12 (.look 13 (.look 14 (.look 15 (.look 16 (.act 17 (.look 18 (.look 19 .nil)) .stop)))))))))))))))))) (by kernel_rfl) ?_; refine dwP ?_; refine dwP ?_; refine dwP ?_; refine dwL ?_; refine dwP ?_; refine dwL ?_; (apply dw_pure; (· exact rfl); (· exact rfl); (· (intro G; (first | (refine step_wanted rfl rfl ?_; (apply s_indexAddr (j := k) (o' := k * 4); (· exact rfl); (· exact rfl); (· omega); (· omega); (· omega); (· exact rfl))) | (apply s_indexAddr (j := k) (o' := k * 4); (· exact rfl); (· exact rfl); (· omega); (· omega); (· omega); (· exact rfl)) | skip); exact looked))); refine dwP ?_; refine dwP ?_; refine dwL ?_; refine dwP ?_; refine dwP ?_; refine dwP ?_; refine dwP ?_; refine dwL ?_; refine dwP ?_; refine dwL ?_; skip)
      refine dw_do rfl rfl ?_ dw_stop
      refine step_wanted rfl rfl ?_
      refine s_call rfl (iFirst (L := L) (x := x) (s := n.x) (g := n.g) hl) rfl ?_
      rintro _ _ ⟨e_, rfl⟩
      obtain rfl := e_.symm
      rw [hf]
      refine wpl_nil (qone ⟨(by refine st_past (by kernel_rfl) ?_; refine st_past (by kernel_rfl) ?_; refine st_past (by kernel_rfl) ?_; refine st_past (by kernel_rfl) ?_; refine st_past (by kernel_rfl) ?_; exact st_nil), ?_⟩)
      (refine dwP ?_; refine dwP ?_; refine dw_nil ?_; skip)
      refine walk ?_
      (first | (apply retRD1 (G := (IdeAt x L + F)) (.inr rfl) rfl; (· first | (refine rv_tmp (v := .bool _) rfl) | exact rv_tmp rfl); (· exact Ent.auto)) | (apply retRD1 (G := (IdeAt x L + F)) (.inl rfl) rfl; (· first | (refine rv_tmp (v := .bool _) rfl) | exact rv_tmp rfl); (· exact Ent.auto)))
      exact ⟨Ent.refl _, rfl⟩
    | true =>
      refine fn_intro 24 Tryz.func81 rfl rfl rfl ?_
      refine walk ?_
      refine s_box (cs := nv n) rfl rfl rfl ?_
      intro b
      refine walk ?_
      (refine wp_draw [17] (.look 0 (.look 1 (.look 2 (.look 3 (.look 4 (.look 5 (.look 6 (.look 7 (.look 8 (.look 9 (.look 10 (.look 11 (.look 12 (.look 13 (.look 14 (.look 15 (.look 16 (.act 17 (.look 18 (.look 19 .nil)) .stop)))))))))))))))))) (by kernel_rfl) ?_; refine dwP ?_; refine dwP ?_; refine dwP ?_; refine dwL ?_; refine dwP ?_; refine dwL ?_; (apply dw_pure; (· exact rfl); (· exact rfl); (· (intro G; (first | (refine step_wanted rfl rfl ?_; (apply s_indexAddr (j := k) (o' := k * 4); (· exact rfl); (· exact rfl); (· omega); (· omega); (· omega); (· exact rfl))) | (apply s_indexAddr (j := k) (o' := k * 4); (· exact rfl); (· exact rfl); (· omega); (· omega); (· omega); (· exact rfl)) | skip); exact looked))); refine dwP ?_; refine dwP ?_; refine dwL ?_; refine dwP ?_; refine dwP ?_; refine dwP ?_; refine dwP ?_; refine dwL ?_; refine dwP ?_; refine dwL ?_; skip)
      refine dw_do rfl rfl ?_ dw_stop
      refine step_wanted rfl rfl ?_
      refine s_call rfl (iFirst (L := L) (x := x) (s := n.x) (g := n.g) hl) rfl ?_
      rintro _ _ ⟨e_, rfl⟩
      obtain rfl := e_.symm
      rw [hf]
      refine wpl_nil (qone ⟨(by refine st_past (by kernel_rfl) ?_; refine st_past (by kernel_rfl) ?_; refine st_past (by kernel_rfl) ?_; refine st_past (by kernel_rfl) ?_; refine st_past (by kernel_rfl) ?_; exact st_nil), ?_⟩)
      (refine dwP ?_; refine dwP ?_; refine dw_nil ?_; skip)
      refine walk ?_
      (first | (apply retRD1 (G := (IdeAt x L + F)) (.inr rfl) rfl; (· first | (refine rv_tmp (v := .bool _) rfl) | exact rv_tmp rfl); (· exact Ent.auto)) | (apply retRD1 (G := (IdeAt x L + F)) (.inl rfl) rfl; (· first | (refine rv_tmp (v := .bool _) rfl) | exact rv_tmp rfl); (· exact Ent.auto)))
      exact ⟨Ent.refl _, rfl⟩
  · rw [decide_eq_false ha, Bool.false_and]
    refine fn_intro 24 Tryz.func81 rfl rfl rfl ?_
    refine walk ?_
    refine s_box (cs := nv n) rfl rfl rfl ?_
    intro b
    refine walk ?_
    (refine wp_draw [17] (.look 0 (.look 1 (.look 2 (.look 3 (.look 4 (.look 5 (.look 6 (.look 7 (.look 8 (.look 9 (.look 10 (.look 11 (.look 12 (.look 13 (.look 14 (.look 15 (.look 16 (.act 17 (.look 18 (.look 19 .nil)) .stop)))))))))))))))))) (by kernel_rfl) ?_; refine dwP ?_; refine dwP ?_; refine dwP ?_; refine dwL ?_; refine dwP ?_; refine dwL ?_; (apply dw_pure; (· exact rfl); (· exact rfl); (· (intro G; (first | (refine step_wanted rfl rfl ?_; (apply s_indexAddr (j := k) (o' := k * 4); (· exact rfl); (· exact rfl); (· omega); (· omega); (· omega); (· exact rfl))) | (apply s_indexAddr (j := k) (o' := k * 4); (· exact rfl); (· exact rfl); (· omega); (· omega); (· omega); (· exact rfl)) | skip); exact looked))); refine dwP ?_; refine dwP ?_; refine dwL ?_; refine dwP ?_; refine dwP ?_; refine dwP ?_; refine dwP ?_; refine dwL ?_; refine dwP ?_; refine dwL ?_; skip)
    refine dw_do rfl rfl ?_ dw_stop
    (first | refine step_unwanted rfl rfl rfl rfl ?_ | refine step_unwantedU rfl rfl rfl ?_ | refine step_unwanted0 rfl rfl rfl ?_ | refine step_unwantedU0 rfl rfl ?_)
    refine wpl_nil (qone ⟨(by refine st_past (by kernel_rfl) ?_; refine st_past (by kernel_rfl) ?_; refine st_past (by kernel_rfl) ?_; refine st_past (by kernel_rfl) ?_; refine st_past (by kernel_rfl) ?_; exact st_nil), ?_⟩)
    (refine dwP ?_; refine dwP ?_; refine dw_nil ?_; skip)
    refine walk ?_
    (first | (apply retRD1 (G := (IdeAt x L + F)) (.inr rfl) rfl; (· first | (refine rv_tmp (v := .bool _) rfl) | exact rv_tmp rfl); (· exact Ent.auto)) | (apply retRD1 (G := (IdeAt x L + F)) (.inl rfl) rfl; (· first | (refine rv_tmp (v := .bool _) rfl) | exact rv_tmp rfl); (· exact Ent.auto)))
    exact ⟨Ent.refl _, rfl⟩
theorem k15 [i : HasAt IdeAt H x L F] (hm : 0 ≤ n.m ∧ n.m < L.I.ms.length) (hb : L.I.c.n ≤ 8 ∧ 1 ≤ L.I.c.n ∧ L.I.c.m ≤ 16 ∧ L.I.c.n < L.I.c.m) (hl : L.I.ms.length ≤ 16) : Does Tryz.prog B 84 [ptr x, noteV n] H fun r H' => H' = H ∧ r = .bool (runsB L.I n && decide ((L.I.callers : Int) < L.I.c.m - L.I.c.n)) := by
  have z0 : Cell B (IdeAt x L) x 0 (.int .i64 L.I.c.n) := ide_cell rfl
  have z3 : Cell B (IdeAt x L) x 3 (.int .i64 L.I.c.m) := ide_cell rfl
  have z6 : Cell B (IdeAt x L) x 6 (ptr L.q) := ide_cell rfl
  have z7 : Cell B (IdeAt x L) x 7 (ptr L.s) := ide_cell rfl
  have z8 : Cell B (IdeAt x L) x 8 (.slice (some ⟨L.bm, 0, none⟩) L.I.ms.length L.cm) := ide_cell rfl
  have z9 : Cell B (IdeAt x L) x 9 (.slice (some ⟨L.bp, 0, none⟩) L.I.ps.length L.cp) := ide_cell rfl
  rw [i.eq]
  refine Does.frame0 ?_
  cases hr : runsB L.I n with
  | false =>
    rw [Bool.false_and]
    refine fn_intro 24 Tryz.func84 rfl rfl rfl ?_
    refine walk ?_
    refine s_box (cs := nv n) rfl rfl rfl ?_
    intro b
    refine walk ?_
    (refine wp_draw [2, 5] (.look 0 (.look 1 (.act 2 (.look 3 (.look 4 (.look 6 (.look 7 (.look 8 (.look 9 (.look 10 (.look 11 (.look 12 (.look 13 (.look 14 (.look 15 (.look 16 (.act 5 (.look 17 (.look 18 (.look 19 .nil))) .stop)))))))))))))) .stop))) (by kernel_rfl) ?_; refine dwP ?_; refine dwL ?_; skip)
    refine dw_do rfl rfl ?_ dw_stop
    refine s_call rfl (iRuns (n := n) (L := L) hm) rfl ?_
    rintro _ _ ⟨e_, rfl⟩
    obtain rfl := e_.symm
    rw [hr]
    refine wpl_nil (qone ⟨(by refine st_past (by kernel_rfl) ?_; exact st_nil), ?_⟩)
    (refine dwP ?_; refine dwP ?_; refine dwP ?_; refine dwP ?_; refine dwP ?_; refine dwP ?_; refine dwL ?_; refine dwP ?_; refine dwP ?_; refine dwP ?_; refine dwP ?_; refine dwL ?_; refine dwP ?_; skip)
    refine dw_do rfl rfl ?_ dw_stop
    (first | refine step_unwanted rfl rfl rfl rfl ?_ | refine step_unwantedU rfl rfl rfl ?_ | refine step_unwanted0 rfl rfl rfl ?_ | refine step_unwantedU0 rfl rfl ?_)
    refine wpl_nil (qone ⟨(by (refine st_again ?_ ?_; (· exact looked)); (refine st_again ?_ ?_; (· exact looked)); refine st_past (by kernel_rfl) ?_; exact st_nil), ?_⟩)
    (refine dwP ?_; refine dwP ?_; refine dwP ?_; refine dw_nil ?_; skip)
    refine walk ?_
    (first | (apply retRD1 (G := (IdeAt x L + F)) (.inr rfl) rfl; (· first | (refine rv_tmp (v := .bool _) rfl) | exact rv_tmp rfl); (· exact Ent.auto)) | (apply retRD1 (G := (IdeAt x L + F)) (.inl rfl) rfl; (· first | (refine rv_tmp (v := .bool _) rfl) | exact rv_tmp rfl); (· exact Ent.auto)))
    exact ⟨Ent.refl _, rfl⟩
  | true =>
    by_cases hc : (L.I.callers : Int) < L.I.c.m - L.I.c.n
    · rw [decide_eq_true hc]
      refine fn_intro 24 Tryz.func84 rfl rfl rfl ?_
      refine walk ?_
      refine s_box (cs := nv n) rfl rfl rfl ?_
      intro b
      refine walk ?_
      (refine wp_draw [2, 5] (.look 0 (.look 1 (.act 2 (.look 3 (.look 4 (.look 6 (.look 7 (.look 8 (.look 9 (.look 10 (.look 11 (.look 12 (.look 13 (.look 14 (.look 15 (.look 16 (.act 5 (.look 17 (.look 18 (.look 19 .nil))) .stop)))))))))))))) .stop))) (by kernel_rfl) ?_; refine dwP ?_; refine dwL ?_; skip)
      refine dw_do rfl rfl ?_ dw_stop
      refine s_call rfl (iRuns (n := n) (L := L) hm) rfl ?_
      rintro _ _ ⟨e_, rfl⟩
      obtain rfl := e_.symm
      rw [hr]
      refine wpl_nil (qone ⟨(by refine st_past (by kernel_rfl) ?_; exact st_nil), ?_⟩)
      (refine dwP ?_; refine dwP ?_; refine dwP ?_; refine dwP ?_; refine dwP ?_; refine dwP ?_; refine dwL ?_; refine dwP ?_; refine dwP ?_; refine dwP ?_; refine dwP ?_; refine dwL ?_; refine dwP ?_; skip)
      refine dw_do rfl rfl ?_ dw_stop
      refine step_wanted rfl rfl ?_
      refine s_call rfl (iCallers (L := L) (x := x) hl) rfl ?_
      rintro _ _ ⟨e_, rfl⟩
      obtain rfl := e_.symm
      refine wpl_nil (qone ⟨(by (refine st_again ?_ ?_; (· exact looked)); (refine st_again ?_ ?_; (· exact looked)); refine st_past (by kernel_rfl) ?_; exact st_nil), ?_⟩)
      (refine dwP ?_; refine dwP ?_; refine dwP ?_; refine dw_nil ?_; skip)
      refine walk ?_
      (first | (apply retRD1 (G := (IdeAt x L + F)) (.inr rfl) rfl; (· first | (refine rv_tmp (v := .bool _) rfl) | exact rv_tmp rfl); (· exact Ent.auto)) | (apply retRD1 (G := (IdeAt x L + F)) (.inl rfl) rfl; (· first | (refine rv_tmp (v := .bool _) rfl) | exact rv_tmp rfl); (· exact Ent.auto)))
      exact ⟨Ent.refl _, rfl⟩
    · rw [decide_eq_false hc]
      refine fn_intro 24 Tryz.func84 rfl rfl rfl ?_
      refine walk ?_
      refine s_box (cs := nv n) rfl rfl rfl ?_
      intro b
      refine walk ?_
      (refine wp_draw [2, 5] (.look 0 (.look 1 (.act 2 (.look 3 (.look 4 (.look 6 (.look 7 (.look 8 (.look 9 (.look 10 (.look 11 (.look 12 (.look 13 (.look 14 (.look 15 (.look 16 (.act 5 (.look 17 (.look 18 (.look 19 .nil))) .stop)))))))))))))) .stop))) (by kernel_rfl) ?_; refine dwP ?_; refine dwL ?_; skip)
      refine dw_do rfl rfl ?_ dw_stop
      refine s_call rfl (iRuns (n := n) (L := L) hm) rfl ?_
      rintro _ _ ⟨e_, rfl⟩
      obtain rfl := e_.symm
      rw [hr]
      refine wpl_nil (qone ⟨(by refine st_past (by kernel_rfl) ?_; exact st_nil), ?_⟩)
      (refine dwP ?_; refine dwP ?_; refine dwP ?_; refine dwP ?_; refine dwP ?_; refine dwP ?_; refine dwL ?_; refine dwP ?_; refine dwP ?_; refine dwP ?_; refine dwP ?_; refine dwL ?_; refine dwP ?_; skip)
      refine dw_do rfl rfl ?_ dw_stop
      refine step_wanted rfl rfl ?_
      refine s_call rfl (iCallers (L := L) (x := x) hl) rfl ?_
      rintro _ _ ⟨e_, rfl⟩
      obtain rfl := e_.symm
      refine wpl_nil (qone ⟨(by (refine st_again ?_ ?_; (· exact looked)); (refine st_again ?_ ?_; (· exact looked)); refine st_past (by kernel_rfl) ?_; exact st_nil), ?_⟩)
      (refine dwP ?_; refine dwP ?_; refine dwP ?_; refine dw_nil ?_; skip)
      refine walk ?_
      (first | (apply retRD1 (G := (IdeAt x L + F)) (.inr rfl) rfl; (· first | (refine rv_tmp (v := .bool _) rfl) | exact rv_tmp rfl); (· exact Ent.auto)) | (apply retRD1 (G := (IdeAt x L + F)) (.inl rfl) rfl; (· first | (refine rv_tmp (v := .bool _) rfl) | exact rv_tmp rfl); (· exact Ent.auto)))
      exact ⟨Ent.refl _, rfl⟩
theorem k17 [i : HasAt IdeAt H x L F] (hm : 0 ≤ n.m ∧ n.m < L.I.ms.length) : Does Tryz.prog B 88 [ptr x, noteV n] H fun r H' => H' = H ∧ r = .bool (callsB L.I n && decide ((L.I.mAt n.m).p < 0)) := by
  obtain ⟨k, hk, hm', hA⟩ := mAt_of hm
  rw [hA]
  have c1 := ide_m (B := B) (x := x) hk (j := 1) (by omega) rfl
  have z0 : Cell B (IdeAt x L) x 0 (.int .i64 L.I.c.n) := ide_cell rfl
  have z3 : Cell B (IdeAt x L) x 3 (.int .i64 L.I.c.m) := ide_cell rfl
  have z6 : Cell B (IdeAt x L) x 6 (ptr L.q) := ide_cell rfl
  have z7 : Cell B (IdeAt x L) x 7 (ptr L.s) := ide_cell rfl
  have z8 : Cell B (IdeAt x L) x 8 (.slice (some ⟨L.bm, 0, none⟩) L.I.ms.length L.cm) := ide_cell rfl
  have z9 : Cell B (IdeAt x L) x 9 (.slice (some ⟨L.bp, 0, none⟩) L.I.ps.length L.cp) := ide_cell rfl
  rw [i.eq]
  refine Does.frame0 ?_
  cases hc : callsB L.I n with
  | false =>
    rw [Bool.false_and]
    refine fn_intro 21 Tryz.func88 rfl rfl rfl ?_
    refine walk ?_
    refine s_box (cs := nv n) rfl rfl rfl ?_
    intro b
    refine walk ?_
    (refine wp_draw [2] (.look 0 (.look 1 (.act 2 (.look 3 (.look 4 (.look 5 (.look 6 (.look 7 (.look 8 (.look 9 (.look 10 (.look 11 (.look 12 (.look 13 (.look 14 (.look 15 (.look 16 .nil)))))))))))))) .stop))) (by kernel_rfl) ?_; refine dwP ?_; refine dwL ?_; skip)
    refine dw_do rfl rfl ?_ dw_stop
    refine s_call rfl (iCalls (n := n) (L := L) hm) rfl ?_
    rintro _ _ ⟨e_, rfl⟩
    obtain rfl := e_.symm
    rw [hc]
    refine wpl_nil (qone ⟨(by refine st_past (by kernel_rfl) ?_; exact st_nil), ?_⟩)
    (refine dwP ?_; refine dwP ?_; refine dwP ?_; refine dwP ?_; refine dwL ?_; refine dwP ?_; refine dwL ?_; (apply dw_pure; (· exact rfl); (· exact rfl); (· (intro G; (first | (refine step_wanted rfl rfl ?_; (apply s_indexAddr (j := k) (o' := k * 4); (· exact rfl); (· exact rfl); (· omega); (· omega); (· omega); (· exact rfl))) | (apply s_indexAddr (j := k) (o' := k * 4); (· exact rfl); (· exact rfl); (· omega); (· omega); (· omega); (· exact rfl)) | skip); exact looked))); refine dwP ?_; refine dwP ?_; refine dwL ?_; refine dwP ?_; refine dwP ?_; refine dwP ?_; refine dw_nil ?_; skip)
    refine walk ?_
    (first | (apply retRD1 (G := (IdeAt x L + F)) (.inr rfl) rfl; (· first | (refine rv_tmp (v := .bool _) rfl) | exact rv_tmp rfl); (· exact Ent.auto)) | (apply retRD1 (G := (IdeAt x L + F)) (.inl rfl) rfl; (· first | (refine rv_tmp (v := .bool _) rfl) | exact rv_tmp rfl); (· exact Ent.auto)))
    exact ⟨Ent.refl _, rfl⟩
  | true =>
    by_cases hp : L.I.ms[k].p < 0
    · rw [decide_eq_true hp]
      refine fn_intro 21 Tryz.func88 rfl rfl rfl ?_
      refine walk ?_
      refine s_box (cs := nv n) rfl rfl rfl ?_
      intro b
      refine walk ?_
      (refine wp_draw [2] (.look 0 (.look 1 (.act 2 (.look 3 (.look 4 (.look 5 (.look 6 (.look 7 (.look 8 (.look 9 (.look 10 (.look 11 (.look 12 (.look 13 (.look 14 (.look 15 (.look 16 .nil)))))))))))))) .stop))) (by kernel_rfl) ?_; refine dwP ?_; refine dwL ?_; skip)
      refine dw_do rfl rfl ?_ dw_stop
      refine s_call rfl (iCalls (n := n) (L := L) hm) rfl ?_
      rintro _ _ ⟨e_, rfl⟩
      obtain rfl := e_.symm
      rw [hc]
      refine wpl_nil (qone ⟨(by refine st_past (by kernel_rfl) ?_; exact st_nil), ?_⟩)
      (refine dwP ?_; refine dwP ?_; refine dwP ?_; refine dwP ?_; refine dwL ?_; refine dwP ?_; refine dwL ?_; (apply dw_pure; (· exact rfl); (· exact rfl); (· (intro G; (first | (refine step_wanted rfl rfl ?_; (apply s_indexAddr (j := k) (o' := k * 4); (· exact rfl); (· exact rfl); (· omega); (· omega); (· omega); (· exact rfl))) | (apply s_indexAddr (j := k) (o' := k * 4); (· exact rfl); (· exact rfl); (· omega); (· omega); (· omega); (· exact rfl)) | skip); exact looked))); refine dwP ?_; refine dwP ?_; refine dwL ?_; refine dwP ?_; refine dwP ?_; refine dwP ?_; refine dw_nil ?_; skip)
      refine walk ?_
      (first | (apply retRD1 (G := (IdeAt x L + F)) (.inr rfl) rfl; (· first | (refine rv_tmp (v := .bool _) rfl) | exact rv_tmp rfl); (· exact Ent.auto)) | (apply retRD1 (G := (IdeAt x L + F)) (.inl rfl) rfl; (· first | (refine rv_tmp (v := .bool _) rfl) | exact rv_tmp rfl); (· exact Ent.auto)))
      exact ⟨Ent.refl _, rfl⟩
    · rw [decide_eq_false hp]
      refine fn_intro 21 Tryz.func88 rfl rfl rfl ?_
      refine walk ?_
      refine s_box (cs := nv n) rfl rfl rfl ?_
      intro b
      refine walk ?_
      (refine wp_draw [2] (.look 0 (.look 1 (.act 2 (.look 3 (.look 4 (.look 5 (.look 6 (.look 7 (.look 8 (.look 9 (.look 10 (.look 11 (.look 12 (.look 13 (.look 14 (.look 15 (.look 16 .nil)))))))))))))) .stop))) (by kernel_rfl) ?_; refine dwP ?_; refine dwL ?_; skip)
      refine dw_do rfl rfl ?_ dw_stop
      refine s_call rfl (iCalls (n := n) (L := L) hm) rfl ?_
      rintro _ _ ⟨e_, rfl⟩
      obtain rfl := e_.symm
      rw [hc]
      refine wpl_nil (qone ⟨(by refine st_past (by kernel_rfl) ?_; exact st_nil), ?_⟩)
      (refine dwP ?_; refine dwP ?_; refine dwP ?_; refine dwP ?_; refine dwL ?_; refine dwP ?_; refine dwL ?_; (apply dw_pure; (· exact rfl); (· exact rfl); (· (intro G; (first | (refine step_wanted rfl rfl ?_; (apply s_indexAddr (j := k) (o' := k * 4); (· exact rfl); (· exact rfl); (· omega); (· omega); (· omega); (· exact rfl))) | (apply s_indexAddr (j := k) (o' := k * 4); (· exact rfl); (· exact rfl); (· omega); (· omega); (· omega); (· exact rfl)) | skip); exact looked))); refine dwP ?_; refine dwP ?_; refine dwL ?_; refine dwP ?_; refine dwP ?_; refine dwP ?_; refine dw_nil ?_; skip)
      refine walk ?_
      (first | (apply retRD1 (G := (IdeAt x L + F)) (.inr rfl) rfl; (· first | (refine rv_tmp (v := .bool _) rfl) | exact rv_tmp rfl); (· exact Ent.auto)) | (apply retRD1 (G := (IdeAt x L + F)) (.inl rfl) rfl; (· first | (refine rv_tmp (v := .bool _) rfl) | exact rv_tmp rfl); (· exact Ent.auto)))
      exact ⟨Ent.refl _, rfl⟩
theorem k19 [i : HasAt IdeAt H x L F] (hm : 0 ≤ n.m ∧ n.m < L.I.ms.length) (hp : 0 ≤ n.p ∧ n.p < L.I.ps.length) (hx : 0 ≤ n.x ∧ n.x < 2) : Does Tryz.prog B 92 [ptr x, noteV n] H fun r H' => H' = H ∧ r = .bool (decide ((L.I.mAt n.m).a = 0) && decide (L.I.pAt n.p = n.x - 2)) := by
  obtain ⟨k, hk, hm', hA⟩ := mAt_of hm
  rw [hA]
  have c0 := ide_m (B := B) (x := x) hk (j := 0) (by omega) rfl
  obtain ⟨kp, hkp, hp', hB⟩ := pAt_of hp
  rw [hB]
  have cp := ide_p (B := B) (x := x) hkp
  have z0 : Cell B (IdeAt x L) x 0 (.int .i64 L.I.c.n) := ide_cell rfl
  have z3 : Cell B (IdeAt x L) x 3 (.int .i64 L.I.c.m) := ide_cell rfl
  have z6 : Cell B (IdeAt x L) x 6 (ptr L.q) := ide_cell rfl
  have z7 : Cell B (IdeAt x L) x 7 (ptr L.s) := ide_cell rfl
  have z8 : Cell B (IdeAt x L) x 8 (.slice (some ⟨L.bm, 0, none⟩) L.I.ms.length L.cm) := ide_cell rfl
  have z9 : Cell B (IdeAt x L) x 9 (.slice (some ⟨L.bp, 0, none⟩) L.I.ps.length L.cp) := ide_cell rfl
  rw [i.eq]
  refine Does.frame0 ?_
  obtain ⟨jx, v, hix, hj, hv, hvx⟩ : ∃ (jx : Nat) (v : Int), n.x = (jx : Int) ∧ jx < 2 ∧ [Value.int .i64 (-2), .int .i64 (-1)][jx]? = some (.int .i64 v) ∧ v = n.x - 2 := by
    rcases (by omega : n.x = 0 ∨ n.x = 1) with h | h
    · exact ⟨0, -2, by omega, by omega, rfl, by omega⟩
    · exact ⟨1, -1, by omega, by omega, rfl, by omega⟩
  by_cases ha : L.I.ms[k].a = 0
  · rw [decide_eq_true ha]
    by_cases hq : L.I.ps[kp] = n.x - 2
    · rw [decide_eq_true hq]
      refine fn_intro 31 Tryz.func92 rfl rfl rfl ?_
      refine walk ?_
      refine s_box (cs := nv n) rfl rfl rfl ?_
      intro b
      refine walk ?_
      (refine wp_draw [] (.look 0 (.look 1 (.look 2 (.look 3 (.look 4 (.look 5 (.look 6 (.look 7 (.look 8 (.look 9 (.look 10 (.look 11 (.look 12 (.look 13 (.look 14 (.look 15 (.look 16 (.look 17 (.look 18 (.look 19 (.look 20 (.look 21 (.look 22 (.look 23 (.look 24 (.look 25 (.look 26 .nil))))))))))))))))))))))))))) (by kernel_rfl) ?_; refine dwP ?_; refine dwP ?_; refine dwP ?_; refine dwL ?_; refine dwP ?_; refine dwL ?_; (apply dw_pure; (· exact rfl); (· exact rfl); (· (intro G; (first | (refine step_wanted rfl rfl ?_; (apply s_indexAddr (j := k) (o' := k * 4); (· exact rfl); (· exact rfl); (· omega); (· omega); (· omega); (· exact rfl))) | (apply s_indexAddr (j := k) (o' := k * 4); (· exact rfl); (· exact rfl); (· omega); (· omega); (· omega); (· exact rfl)) | skip); exact looked))); refine dwP ?_; refine dwP ?_; refine dwL ?_; refine dwP ?_; refine dwP ?_; refine dwP ?_; refine dwP ?_; refine dwP ?_; refine dwL ?_; refine dwP ?_; refine dwL ?_; (apply dw_pure; (· exact rfl); (· exact rfl); (· (intro G; (first | (refine step_wanted rfl rfl ?_; (apply s_indexAddr (j := kp) (o' := kp); (· exact rfl); (· exact rfl); (· omega); (· omega); (· omega); (· exact rfl))) | (apply s_indexAddr (j := kp) (o' := kp); (· exact rfl); (· exact rfl); (· omega); (· omega); (· omega); (· exact rfl)) | skip); exact looked))); refine dwL ?_; (apply dw_pure; (· exact rfl); (· exact rfl); (· (intro G; (first | (refine step_wanted rfl rfl ?_; refine s_buildA (cs := [.int .i64 (-2), .int .i64 (-1)]) rfl rfl ?_) | skip); exact looked))); refine dwP ?_; refine dwL ?_; (apply dw_pure; (· exact rfl); (· exact rfl); (· (intro G; (first | (refine step_wanted rfl rfl ?_; refine s_indexV rfl rfl hix hj hv rfl ?_) | skip); exact looked))); refine dwP ?_; refine dwP ?_; refine dwP ?_; refine dw_nil ?_)
      refine walk ?_
      (first | (apply retRD1 (G := (IdeAt x L + F)) (.inr rfl) rfl; (· first | (refine rv_tmp (v := .bool _) rfl) | exact rv_tmp rfl); (· exact Ent.auto)) | (apply retRD1 (G := (IdeAt x L + F)) (.inl rfl) rfl; (· first | (refine rv_tmp (v := .bool _) rfl) | exact rv_tmp rfl); (· exact Ent.auto)))
      exact ⟨Ent.refl _, rfl⟩
    · rw [decide_eq_false hq]
      refine fn_intro 31 Tryz.func92 rfl rfl rfl ?_
      refine walk ?_
      refine s_box (cs := nv n) rfl rfl rfl ?_
      intro b
      refine walk ?_
      (refine wp_draw [] (.look 0 (.look 1 (.look 2 (.look 3 (.look 4 (.look 5 (.look 6 (.look 7 (.look 8 (.look 9 (.look 10 (.look 11 (.look 12 (.look 13 (.look 14 (.look 15 (.look 16 (.look 17 (.look 18 (.look 19 (.look 20 (.look 21 (.look 22 (.look 23 (.look 24 (.look 25 (.look 26 .nil))))))))))))))))))))))))))) (by kernel_rfl) ?_; refine dwP ?_; refine dwP ?_; refine dwP ?_; refine dwL ?_; refine dwP ?_; refine dwL ?_; (apply dw_pure; (· exact rfl); (· exact rfl); (· (intro G; (first | (refine step_wanted rfl rfl ?_; (apply s_indexAddr (j := k) (o' := k * 4); (· exact rfl); (· exact rfl); (· omega); (· omega); (· omega); (· exact rfl))) | (apply s_indexAddr (j := k) (o' := k * 4); (· exact rfl); (· exact rfl); (· omega); (· omega); (· omega); (· exact rfl)) | skip); exact looked))); refine dwP ?_; refine dwP ?_; refine dwL ?_; refine dwP ?_; refine dwP ?_; refine dwP ?_; refine dwP ?_; refine dwP ?_; refine dwL ?_; refine dwP ?_; refine dwL ?_; (apply dw_pure; (· exact rfl); (· exact rfl); (· (intro G; (first | (refine step_wanted rfl rfl ?_; (apply s_indexAddr (j := kp) (o' := kp); (· exact rfl); (· exact rfl); (· omega); (· omega); (· omega); (· exact rfl))) | (apply s_indexAddr (j := kp) (o' := kp); (· exact rfl); (· exact rfl); (· omega); (· omega); (· omega); (· exact rfl)) | skip); exact looked))); refine dwL ?_; (apply dw_pure; (· exact rfl); (· exact rfl); (· (intro G; (first | (refine step_wanted rfl rfl ?_; refine s_buildA (cs := [.int .i64 (-2), .int .i64 (-1)]) rfl rfl ?_) | skip); exact looked))); refine dwP ?_; refine dwL ?_; (apply dw_pure; (· exact rfl); (· exact rfl); (· (intro G; (first | (refine step_wanted rfl rfl ?_; refine s_indexV rfl rfl hix hj hv rfl ?_) | skip); exact looked))); refine dwP ?_; refine dwP ?_; refine dwP ?_; refine dw_nil ?_)
      refine walk ?_
      (first | (apply retRD1 (G := (IdeAt x L + F)) (.inr rfl) rfl; (· first | (refine rv_tmp (v := .bool _) rfl) | exact rv_tmp rfl); (· exact Ent.auto)) | (apply retRD1 (G := (IdeAt x L + F)) (.inl rfl) rfl; (· first | (refine rv_tmp (v := .bool _) rfl) | exact rv_tmp rfl); (· exact Ent.auto)))
      exact ⟨Ent.refl _, rfl⟩
  · rw [decide_eq_false ha, Bool.false_and]
    refine fn_intro 31 Tryz.func92 rfl rfl rfl ?_
    refine walk ?_
    refine s_box (cs := nv n) rfl rfl rfl ?_
    intro b
    refine walk ?_
    (refine wp_draw [] (.look 0 (.look 1 (.look 2 (.look 3 (.look 4 (.look 5 (.look 6 (.look 7 (.look 8 (.look 9 (.look 10 (.look 11 (.look 12 (.look 13 (.look 14 (.look 15 (.look 16 (.look 17 (.look 18 (.look 19 (.look 20 (.look 21 (.look 22 (.look 23 (.look 24 (.look 25 (.look 26 .nil))))))))))))))))))))))))))) (by kernel_rfl) ?_; refine dwP ?_; refine dwP ?_; refine dwP ?_; refine dwL ?_; refine dwP ?_; refine dwL ?_; (apply dw_pure; (· exact rfl); (· exact rfl); (· (intro G; (first | (refine step_wanted rfl rfl ?_; (apply s_indexAddr (j := k) (o' := k * 4); (· exact rfl); (· exact rfl); (· omega); (· omega); (· omega); (· exact rfl))) | (apply s_indexAddr (j := k) (o' := k * 4); (· exact rfl); (· exact rfl); (· omega); (· omega); (· omega); (· exact rfl)) | skip); exact looked))); refine dwP ?_; refine dwP ?_; refine dwL ?_; refine dwP ?_; refine dwP ?_; refine dwP ?_; refine dwP ?_; refine dwP ?_; refine dwL ?_; refine dwP ?_; refine dwL ?_; (apply dw_pure; (· exact rfl); (· exact rfl); (· (intro G; (first | (refine step_wanted rfl rfl ?_; (apply s_indexAddr (j := kp) (o' := kp); (· exact rfl); (· exact rfl); (· omega); (· omega); (· omega); (· exact rfl))) | (apply s_indexAddr (j := kp) (o' := kp); (· exact rfl); (· exact rfl); (· omega); (· omega); (· omega); (· exact rfl)) | skip); exact looked))); refine dwL ?_; (apply dw_pure; (· exact rfl); (· exact rfl); (· (intro G; (first | (refine step_wanted rfl rfl ?_; refine s_buildA (cs := [.int .i64 (-2), .int .i64 (-1)]) rfl rfl ?_) | skip); exact looked))); refine dwP ?_; refine dwL ?_; (apply dw_pure; (· exact rfl); (· exact rfl); (· (intro G; (first | (refine step_wanted rfl rfl ?_; refine s_indexV rfl rfl hix hj hv rfl ?_) | skip); exact looked))); refine dwP ?_; refine dwP ?_; refine dwP ?_; refine dw_nil ?_)
    refine walk ?_
    (first | (apply retRD1 (G := (IdeAt x L + F)) (.inr rfl) rfl; (· first | (refine rv_tmp (v := .bool _) rfl) | exact rv_tmp rfl); (· exact Ent.auto)) | (apply retRD1 (G := (IdeAt x L + F)) (.inl rfl) rfl; (· first | (refine rv_tmp (v := .bool _) rfl) | exact rv_tmp rfl); (· exact Ent.auto)))
    exact ⟨Ent.refl _, rfl⟩
theorem k22 [i : HasAt IdeAt H x L F] (hp : 0 ≤ n.p ∧ n.p < L.I.ps.length) (hv : L.I.pAt n.p < L.I.ms.length) : Does Tryz.prog B 95 [ptr x, noteV n] H fun r H' => H' = H ∧ r = .bool (L.I.kept n.p) := by
  have z0 : Cell B (IdeAt x L) x 0 (.int .i64 L.I.c.n) := ide_cell rfl
  have z3 : Cell B (IdeAt x L) x 3 (.int .i64 L.I.c.m) := ide_cell rfl
  have z6 : Cell B (IdeAt x L) x 6 (ptr L.q) := ide_cell rfl
  have z7 : Cell B (IdeAt x L) x 7 (ptr L.s) := ide_cell rfl
  have z8 : Cell B (IdeAt x L) x 8 (.slice (some ⟨L.bm, 0, none⟩) L.I.ms.length L.cm) := ide_cell rfl
  have z9 : Cell B (IdeAt x L) x 9 (.slice (some ⟨L.bp, 0, none⟩) L.I.ps.length L.cp) := ide_cell rfl
  rw [i.eq]
  refine Does.frame0 ?_
  refine fn_intro 9 Tryz.func95 rfl rfl rfl ?_
  refine walk ?_
  refine s_box (cs := nv n) rfl rfl rfl ?_
  intro b
  refine walk ?_
  refine s_call rfl (iKept (L := L) (x := x) (p := n.p) hp hv) rfl ?_
  rintro _ _ ⟨e_, rfl⟩
  obtain rfl := e_.symm
  refine walk ?_
  refine walk ?_
  (first | (apply retRD1 (G := (IdeAt x L + F)) (.inr rfl) rfl; (· first | (refine rv_tmp (v := .bool _) rfl) | exact rv_tmp rfl); (· exact Ent.auto)) | (apply retRD1 (G := (IdeAt x L + F)) (.inl rfl) rfl; (· first | (refine rv_tmp (v := .bool _) rfl) | exact rv_tmp rfl); (· exact Ent.auto)))
  exact ⟨Ent.refl _, rfl⟩
theorem k24 [i : HasAt IdeAt H x L F]  : Does Tryz.prog B 99 [ptr x, noteV n] H fun r H' => H' = H ∧ r = .bool (true) := by
  have z0 : Cell B (IdeAt x L) x 0 (.int .i64 L.I.c.n) := ide_cell rfl
  have z3 : Cell B (IdeAt x L) x 3 (.int .i64 L.I.c.m) := ide_cell rfl
  have z6 : Cell B (IdeAt x L) x 6 (ptr L.q) := ide_cell rfl
  have z7 : Cell B (IdeAt x L) x 7 (ptr L.s) := ide_cell rfl
  have z8 : Cell B (IdeAt x L) x 8 (.slice (some ⟨L.bm, 0, none⟩) L.I.ms.length L.cm) := ide_cell rfl
  have z9 : Cell B (IdeAt x L) x 9 (.slice (some ⟨L.bp, 0, none⟩) L.I.ps.length L.cp) := ide_cell rfl
  rw [i.eq]
  refine Does.frame0 ?_
  refine fn_intro 5 Tryz.func99 rfl rfl rfl ?_
  refine walk ?_
  refine s_box (cs := nv n) rfl rfl rfl ?_
  intro b
  refine walk ?_
  refine walk ?_
  (first | (apply retRD1 (G := (IdeAt x L + F)) (.inr rfl) rfl; (· first | (refine rv_tmp (v := .bool _) rfl) | exact rv_tmp rfl); (· exact Ent.auto)) | (apply retRD1 (G := (IdeAt x L + F)) (.inl rfl) rfl; (· first | (refine rv_tmp (v := .bool _) rfl) | exact rv_tmp rfl); (· exact Ent.auto)))
  exact ⟨Ent.refl _, rfl⟩
theorem k4 [i : HasAt IdeAt H x L F] (hm : 0 ≤ n.m ∧ n.m < L.I.ms.length) : Does Tryz.prog B 68 [ptr x, noteV n] H fun r H' => H' = H ∧ r = .bool (searchesB L.I n && decide (L.I.stat n.g = 1)) := by
  have z0 : Cell B (IdeAt x L) x 0 (.int .i64 L.I.c.n) := ide_cell rfl
  have z3 : Cell B (IdeAt x L) x 3 (.int .i64 L.I.c.m) := ide_cell rfl
  have z6 : Cell B (IdeAt x L) x 6 (ptr L.q) := ide_cell rfl
  have z7 : Cell B (IdeAt x L) x 7 (ptr L.s) := ide_cell rfl
  have z8 : Cell B (IdeAt x L) x 8 (.slice (some ⟨L.bm, 0, none⟩) L.I.ms.length L.cm) := ide_cell rfl
  have z9 : Cell B (IdeAt x L) x 9 (.slice (some ⟨L.bp, 0, none⟩) L.I.ps.length L.cp) := ide_cell rfl
  rw [i.eq]
  refine Does.frame0 ?_
  cases hr : searchesB L.I n with
  | false =>
    rw [Bool.false_and]
    refine fn_intro 24 Tryz.func68 rfl rfl rfl ?_
    refine walk ?_
    refine s_box (cs := nv n) rfl rfl rfl ?_
    intro b
    refine walk ?_
    (refine wp_draw [6] (.look 0 (.look 1 (.look 2 (.look 3 (.look 4 (.look 5 (.act 6 (.look 7 (.look 8 (.look 9 (.look 10 (.look 11 .nil))))) .stop))))))) (by kernel_rfl) ?_; refine dwP ?_; refine dwP ?_; refine dwP ?_; refine dwL ?_; refine dwP ?_; refine dwL ?_; skip)
    refine dw_do rfl rfl ?_ dw_stop
    refine s_call rfl (iStat (L := L) (x := x) (g := n.g)) rfl ?_
    rintro _ _ ⟨e_, rfl⟩
    obtain rfl := e_.symm
    refine wpl_nil (qone ⟨(by refine st_past (by kernel_rfl) ?_; refine st_past (by kernel_rfl) ?_; exact st_nil), ?_⟩)
    (refine dwP ?_; refine dwP ?_; refine dwP ?_; refine dwP ?_; refine dwP ?_; refine dw_nil ?_; skip)
    refine walk ?_
    refine s_call rfl (iSearches (n := n) (L := L) hm) rfl ?_
    rintro _ _ ⟨e_, rfl⟩
    obtain rfl := e_.symm
    rw [hr]
    refine walk ?_
    (first | (apply retRD1 (G := (IdeAt x L + F)) (.inr rfl) rfl; (· first | (refine rv_tmp (v := .bool _) rfl) | exact rv_tmp rfl); (· exact Ent.auto)) | (apply retRD1 (G := (IdeAt x L + F)) (.inl rfl) rfl; (· first | (refine rv_tmp (v := .bool _) rfl) | exact rv_tmp rfl); (· exact Ent.auto)))
    exact ⟨Ent.refl _, rfl⟩
  | true =>
    by_cases hc : L.I.stat n.g = 1
    · rw [decide_eq_true hc]
      refine fn_intro 24 Tryz.func68 rfl rfl rfl ?_
      refine walk ?_
      refine s_box (cs := nv n) rfl rfl rfl ?_
      intro b
      refine walk ?_
      (refine wp_draw [6] (.look 0 (.look 1 (.look 2 (.look 3 (.look 4 (.look 5 (.act 6 (.look 7 (.look 8 (.look 9 (.look 10 (.look 11 .nil))))) .stop))))))) (by kernel_rfl) ?_; refine dwP ?_; refine dwP ?_; refine dwP ?_; refine dwL ?_; refine dwP ?_; refine dwL ?_; skip)
      refine dw_do rfl rfl ?_ dw_stop
      refine s_call rfl (iStat (L := L) (x := x) (g := n.g)) rfl ?_
      rintro _ _ ⟨e_, rfl⟩
      obtain rfl := e_.symm
      refine wpl_nil (qone ⟨(by refine st_past (by kernel_rfl) ?_; refine st_past (by kernel_rfl) ?_; exact st_nil), ?_⟩)
      (refine dwP ?_; refine dwP ?_; refine dwP ?_; refine dwP ?_; refine dwP ?_; refine dw_nil ?_; skip)
      refine walk ?_
      refine s_call rfl (iSearches (n := n) (L := L) hm) rfl ?_
      rintro _ _ ⟨e_, rfl⟩
      obtain rfl := e_.symm
      rw [hr]
      refine walk ?_
      (first | (apply retRD1 (G := (IdeAt x L + F)) (.inr rfl) rfl; (· first | (refine rv_tmp (v := .bool _) rfl) | exact rv_tmp rfl); (· exact Ent.auto)) | (apply retRD1 (G := (IdeAt x L + F)) (.inl rfl) rfl; (· first | (refine rv_tmp (v := .bool _) rfl) | exact rv_tmp rfl); (· exact Ent.auto)))
      exact ⟨Ent.refl _, rfl⟩
    · rw [decide_eq_false hc]
      refine fn_intro 24 Tryz.func68 rfl rfl rfl ?_
      refine walk ?_
      refine s_box (cs := nv n) rfl rfl rfl ?_
      intro b
      refine walk ?_
      (refine wp_draw [6] (.look 0 (.look 1 (.look 2 (.look 3 (.look 4 (.look 5 (.act 6 (.look 7 (.look 8 (.look 9 (.look 10 (.look 11 .nil))))) .stop))))))) (by kernel_rfl) ?_; refine dwP ?_; refine dwP ?_; refine dwP ?_; refine dwL ?_; refine dwP ?_; refine dwL ?_; skip)
      refine dw_do rfl rfl ?_ dw_stop
      refine s_call rfl (iStat (L := L) (x := x) (g := n.g)) rfl ?_
      rintro _ _ ⟨e_, rfl⟩
      obtain rfl := e_.symm
      refine wpl_nil (qone ⟨(by refine st_past (by kernel_rfl) ?_; refine st_past (by kernel_rfl) ?_; exact st_nil), ?_⟩)
      (refine dwP ?_; refine dwP ?_; refine dwP ?_; refine dwP ?_; refine dwP ?_; refine dw_nil ?_; skip)
      refine walk ?_
      refine s_call rfl (iSearches (n := n) (L := L) hm) rfl ?_
      rintro _ _ ⟨e_, rfl⟩
      obtain rfl := e_.symm
      rw [hr]
      refine walk ?_
      (first | (apply retRD1 (G := (IdeAt x L + F)) (.inr rfl) rfl; (· first | (refine rv_tmp (v := .bool _) rfl) | exact rv_tmp rfl); (· exact Ent.auto)) | (apply retRD1 (G := (IdeAt x L + F)) (.inl rfl) rfl; (· first | (refine rv_tmp (v := .bool _) rfl) | exact rv_tmp rfl); (· exact Ent.auto)))
      exact ⟨Ent.refl _, rfl⟩
end
end Go.Proofs.YtlhnmbajbhaaoaaGreat
namespace Go.Proofs.YtlhnmbajbhaaoaaGreat
open Go Go.SL
set_option linter.unusedSimpArgs false
set_option linter.unusedVariables false
set_option maxRecDepth 10000
set_option maxHeartbeats 2000000
attribute [local irreducible] WP WPL QSeq QBlk QRet Does Cell Cells Rd Mine Ent Aside RV Yield TabAt SemAt IdeAt
section
variable {B : World} {H F G : HProp} {x : Nat} {L : IdL} {n : Nt} {m p a g s : Int} {k j : Nat} {K : Int}
theorem kBack [i : HasAt IdeAt H x L F] (hm : 0 ≤ n.m ∧ n.m < L.I.ms.length) (hp : 0 ≤ n.p ∧ n.p < L.I.ps.length) (hv : L.I.pAt n.p < L.I.ms.length) : Does Tryz.prog B 86 [ptr x, noteV n] H fun r H' => H' = H ∧ r = .bool (if n.x = 1 then callsB L.I n && (decide ((L.I.mAt n.m).b = n.p) && L.I.kept n.p) else callsB L.I n && (decide ((L.I.mAt n.m).p < 0) && decide (L.I.pAt n.p = -1))) := by
  obtain ⟨k, hk, hm', hA⟩ := mAt_of hm
  obtain ⟨kp, hkp, hp', hB⟩ := pAt_of hp
  rw [hA]
  have c1 := ide_m (B := B) (x := x) hk (j := 1) (by omega) rfl
  have c3 := ide_m (B := B) (x := x) hk (j := 3) (by omega) rfl
  have cp := ide_p (B := B) (x := x) hkp
  have z0 : Cell B (IdeAt x L) x 0 (.int .i64 L.I.c.n) := ide_cell rfl
  have z3 : Cell B (IdeAt x L) x 3 (.int .i64 L.I.c.m) := ide_cell rfl
  have z6 : Cell B (IdeAt x L) x 6 (ptr L.q) := ide_cell rfl
  have z7 : Cell B (IdeAt x L) x 7 (ptr L.s) := ide_cell rfl
  have z8 : Cell B (IdeAt x L) x 8 (.slice (some ⟨L.bm, 0, none⟩) L.I.ms.length L.cm) := ide_cell rfl
  have z9 : Cell B (IdeAt x L) x 9 (.slice (some ⟨L.bp, 0, none⟩) L.I.ps.length L.cp) := ide_cell rfl
  rw [i.eq]
  refine Does.frame0 ?_
  by_cases hx : n.x = 1
  · rw [if_pos hx]
    cases hc : callsB L.I n with
    | false =>
      rw [Bool.false_and]
      refine fn_intro 58 Tryz.func86 rfl rfl rfl ?_
      refine walk ?_
      refine s_box (cs := nv n) rfl rfl rfl ?_
      intro b
      refine walk ?_
      (refine wp_draw [2, 21] (.look 0 (.look 1 (.act 2 (.look 3 (.look 4 (.look 5 (.look 6 (.look 7 (.look 8 (.look 9 (.look 10 (.look 11 (.look 12 (.look 13 (.look 14 (.look 15 (.look 16 (.look 17 (.look 18 (.look 19 (.look 20 (.act 21 (.look 22 (.look 23 .nil)) .stop))))))))))))))))))) .stop))) (by kernel_rfl) ?_; refine dwP ?_; refine dwL ?_; skip)
      refine dw_do rfl rfl ?_ dw_stop
      refine s_call rfl (iCalls (n := n) (L := L) hm) rfl ?_
      rintro _ _ ⟨e_, rfl⟩
      obtain rfl := e_.symm
      rw [hc]
      refine wpl_nil (qone ⟨(by refine st_past (by kernel_rfl) ?_; exact st_nil), ?_⟩)
      (refine dwP ?_; refine dwP ?_; refine dwP ?_; refine dwP ?_; refine dwL ?_; refine dwP ?_; refine dwL ?_; (apply dw_pure; (· exact rfl); (· exact rfl); (· (intro G; (first | (refine step_wanted rfl rfl ?_; (apply s_indexAddr (j := k) (o' := k * 4); (· exact rfl); (· exact rfl); (· omega); (· omega); (· omega); (· exact rfl))) | (apply s_indexAddr (j := k) (o' := k * 4); (· exact rfl); (· exact rfl); (· omega); (· omega); (· omega); (· exact rfl)) | skip); exact looked))); refine dwP ?_; refine dwL ?_; refine dwP ?_; refine dwL ?_; refine dwP ?_; refine dwP ?_; refine dwP ?_; refine dwP ?_; refine dwP ?_; refine dwL ?_; skip)
      refine dw_do rfl rfl ?_ dw_stop
      (first | refine step_unwanted rfl rfl rfl rfl ?_ | refine step_unwantedU rfl rfl rfl ?_ | refine step_unwanted0 rfl rfl rfl ?_ | refine step_unwantedU0 rfl rfl ?_)
      refine wpl_nil (qone ⟨(by refine st_past (by kernel_rfl) ?_; refine st_past (by kernel_rfl) ?_; refine st_past (by kernel_rfl) ?_; refine st_past (by kernel_rfl) ?_; refine st_past (by kernel_rfl) ?_; refine st_past (by kernel_rfl) ?_; exact st_nil), ?_⟩)
      (refine dwP ?_; refine dwP ?_; refine dw_nil ?_; skip)
      refine walk ?_
      (first | (apply retRD1 (G := (IdeAt x L + F)) (.inr rfl) rfl; (· first | (refine rv_tmp (v := .bool _) rfl) | exact rv_tmp rfl); (· exact Ent.auto)) | (apply retRD1 (G := (IdeAt x L + F)) (.inl rfl) rfl; (· first | (refine rv_tmp (v := .bool _) rfl) | exact rv_tmp rfl); (· exact Ent.auto)))
      exact ⟨Ent.refl _, rfl⟩
    | true =>
      by_cases hb : L.I.ms[k].b = n.p
      · rw [decide_eq_true hb]
        cases hkk : L.I.kept n.p with
        | false =>
          refine fn_intro 58 Tryz.func86 rfl rfl rfl ?_
          refine walk ?_
          refine s_box (cs := nv n) rfl rfl rfl ?_
          intro b
          refine walk ?_
          (refine wp_draw [2, 21] (.look 0 (.look 1 (.act 2 (.look 3 (.look 4 (.look 5 (.look 6 (.look 7 (.look 8 (.look 9 (.look 10 (.look 11 (.look 12 (.look 13 (.look 14 (.look 15 (.look 16 (.look 17 (.look 18 (.look 19 (.look 20 (.act 21 (.look 22 (.look 23 .nil)) .stop))))))))))))))))))) .stop))) (by kernel_rfl) ?_; refine dwP ?_; refine dwL ?_; skip)
          refine dw_do rfl rfl ?_ dw_stop
          refine s_call rfl (iCalls (n := n) (L := L) hm) rfl ?_
          rintro _ _ ⟨e_, rfl⟩
          obtain rfl := e_.symm
          rw [hc]
          refine wpl_nil (qone ⟨(by refine st_past (by kernel_rfl) ?_; exact st_nil), ?_⟩)
          (refine dwP ?_; refine dwP ?_; refine dwP ?_; refine dwP ?_; refine dwL ?_; refine dwP ?_; refine dwL ?_; (apply dw_pure; (· exact rfl); (· exact rfl); (· (intro G; (first | (refine step_wanted rfl rfl ?_; (apply s_indexAddr (j := k) (o' := k * 4); (· exact rfl); (· exact rfl); (· omega); (· omega); (· omega); (· exact rfl))) | (apply s_indexAddr (j := k) (o' := k * 4); (· exact rfl); (· exact rfl); (· omega); (· omega); (· omega); (· exact rfl)) | skip); exact looked))); refine dwP ?_; refine dwL ?_; refine dwP ?_; refine dwL ?_; refine dwP ?_; refine dwP ?_; refine dwP ?_; refine dwP ?_; refine dwP ?_; refine dwL ?_; skip)
          refine dw_do rfl rfl ?_ dw_stop
          refine step_wanted rfl rfl ?_
          refine s_call rfl (iKept (L := L) (x := x) (p := n.p) hp hv) rfl ?_
          rintro _ _ ⟨e_, rfl⟩
          obtain rfl := e_.symm
          rw [hkk]
          refine wpl_nil (qone ⟨(by refine st_past (by kernel_rfl) ?_; refine st_past (by kernel_rfl) ?_; refine st_past (by kernel_rfl) ?_; refine st_past (by kernel_rfl) ?_; refine st_past (by kernel_rfl) ?_; refine st_past (by kernel_rfl) ?_; exact st_nil), ?_⟩)
          (refine dwP ?_; refine dwP ?_; refine dw_nil ?_; skip)
          refine walk ?_
          (first | (apply retRD1 (G := (IdeAt x L + F)) (.inr rfl) rfl; (· first | (refine rv_tmp (v := .bool _) rfl) | exact rv_tmp rfl); (· exact Ent.auto)) | (apply retRD1 (G := (IdeAt x L + F)) (.inl rfl) rfl; (· first | (refine rv_tmp (v := .bool _) rfl) | exact rv_tmp rfl); (· exact Ent.auto)))
          exact ⟨Ent.refl _, rfl⟩
        | true =>
          refine fn_intro 58 Tryz.func86 rfl rfl rfl ?_
          refine walk ?_
          refine s_box (cs := nv n) rfl rfl rfl ?_
          intro b
          refine walk ?_
          (refine wp_draw [2, 21] (.look 0 (.look 1 (.act 2 (.look 3 (.look 4 (.look 5 (.look 6 (.look 7 (.look 8 (.look 9 (.look 10 (.look 11 (.look 12 (.look 13 (.look 14 (.look 15 (.look 16 (.look 17 (.look 18 (.look 19 (.look 20 (.act 21 (.look 22 (.look 23 .nil)) .stop))))))))))))))))))) .stop))) (by kernel_rfl) ?_; refine dwP ?_; refine dwL ?_; skip)
          refine dw_do rfl rfl ?_ dw_stop
          refine s_call rfl (iCalls (n := n) (L := L) hm) rfl ?_
          rintro _ _ ⟨e_, rfl⟩
          obtain rfl := e_.symm
          rw [hc]
          refine wpl_nil (qone ⟨(by refine st_past (by kernel_rfl) ?_; exact st_nil), ?_⟩)
          (refine dwP ?_; refine dwP ?_; refine dwP ?_; refine dwP ?_; refine dwL ?_; refine dwP ?_; refine dwL ?_; (apply dw_pure; (· exact rfl); (· exact rfl); (· (intro G; (first | (refine step_wanted rfl rfl ?_; (apply s_indexAddr (j := k) (o' := k * 4); (· exact rfl); (· exact rfl); (· omega); (· omega); (· omega); (· exact rfl))) | (apply s_indexAddr (j := k) (o' := k * 4); (· exact rfl); (· exact rfl); (· omega); (· omega); (· omega); (· exact rfl)) | skip); exact looked))); refine dwP ?_; refine dwL ?_; refine dwP ?_; refine dwL ?_; refine dwP ?_; refine dwP ?_; refine dwP ?_; refine dwP ?_; refine dwP ?_; refine dwL ?_; skip)
          refine dw_do rfl rfl ?_ dw_stop
          refine step_wanted rfl rfl ?_
          refine s_call rfl (iKept (L := L) (x := x) (p := n.p) hp hv) rfl ?_
          rintro _ _ ⟨e_, rfl⟩
          obtain rfl := e_.symm
          rw [hkk]
          refine wpl_nil (qone ⟨(by refine st_past (by kernel_rfl) ?_; refine st_past (by kernel_rfl) ?_; refine st_past (by kernel_rfl) ?_; refine st_past (by kernel_rfl) ?_; refine st_past (by kernel_rfl) ?_; refine st_past (by kernel_rfl) ?_; exact st_nil), ?_⟩)
          (refine dwP ?_; refine dwP ?_; refine dw_nil ?_; skip)
          refine walk ?_
          (first | (apply retRD1 (G := (IdeAt x L + F)) (.inr rfl) rfl; (· first | (refine rv_tmp (v := .bool _) rfl) | exact rv_tmp rfl); (· exact Ent.auto)) | (apply retRD1 (G := (IdeAt x L + F)) (.inl rfl) rfl; (· first | (refine rv_tmp (v := .bool _) rfl) | exact rv_tmp rfl); (· exact Ent.auto)))
          exact ⟨Ent.refl _, rfl⟩
      · rw [decide_eq_false hb, Bool.false_and]
        refine fn_intro 58 Tryz.func86 rfl rfl rfl ?_
        refine walk ?_
        refine s_box (cs := nv n) rfl rfl rfl ?_
        intro b
        refine walk ?_
        (refine wp_draw [2, 21] (.look 0 (.look 1 (.act 2 (.look 3 (.look 4 (.look 5 (.look 6 (.look 7 (.look 8 (.look 9 (.look 10 (.look 11 (.look 12 (.look 13 (.look 14 (.look 15 (.look 16 (.look 17 (.look 18 (.look 19 (.look 20 (.act 21 (.look 22 (.look 23 .nil)) .stop))))))))))))))))))) .stop))) (by kernel_rfl) ?_; refine dwP ?_; refine dwL ?_; skip)
        refine dw_do rfl rfl ?_ dw_stop
        refine s_call rfl (iCalls (n := n) (L := L) hm) rfl ?_
        rintro _ _ ⟨e_, rfl⟩
        obtain rfl := e_.symm
        rw [hc]
        refine wpl_nil (qone ⟨(by refine st_past (by kernel_rfl) ?_; exact st_nil), ?_⟩)
        (refine dwP ?_; refine dwP ?_; refine dwP ?_; refine dwP ?_; refine dwL ?_; refine dwP ?_; refine dwL ?_; (apply dw_pure; (· exact rfl); (· exact rfl); (· (intro G; (first | (refine step_wanted rfl rfl ?_; (apply s_indexAddr (j := k) (o' := k * 4); (· exact rfl); (· exact rfl); (· omega); (· omega); (· omega); (· exact rfl))) | (apply s_indexAddr (j := k) (o' := k * 4); (· exact rfl); (· exact rfl); (· omega); (· omega); (· omega); (· exact rfl)) | skip); exact looked))); refine dwP ?_; refine dwL ?_; refine dwP ?_; refine dwL ?_; refine dwP ?_; refine dwP ?_; refine dwP ?_; refine dwP ?_; refine dwP ?_; refine dwL ?_; skip)
        refine dw_do rfl rfl ?_ dw_stop
        (first | refine step_unwanted rfl rfl rfl rfl ?_ | refine step_unwantedU rfl rfl rfl ?_ | refine step_unwanted0 rfl rfl rfl ?_ | refine step_unwantedU0 rfl rfl ?_)
        refine wpl_nil (qone ⟨(by refine st_past (by kernel_rfl) ?_; refine st_past (by kernel_rfl) ?_; refine st_past (by kernel_rfl) ?_; refine st_past (by kernel_rfl) ?_; refine st_past (by kernel_rfl) ?_; refine st_past (by kernel_rfl) ?_; exact st_nil), ?_⟩)
        (refine dwP ?_; refine dwP ?_; refine dw_nil ?_; skip)
        refine walk ?_
        (first | (apply retRD1 (G := (IdeAt x L + F)) (.inr rfl) rfl; (· first | (refine rv_tmp (v := .bool _) rfl) | exact rv_tmp rfl); (· exact Ent.auto)) | (apply retRD1 (G := (IdeAt x L + F)) (.inl rfl) rfl; (· first | (refine rv_tmp (v := .bool _) rfl) | exact rv_tmp rfl); (· exact Ent.auto)))
        exact ⟨Ent.refl _, rfl⟩
  · rw [if_neg hx, hB]
    cases hc : callsB L.I n with
    | false =>
      rw [Bool.false_and]
      refine fn_intro 58 Tryz.func86 rfl rfl rfl ?_
      refine walk ?_
      refine s_box (cs := nv n) rfl rfl rfl ?_
      intro b
      refine walk ?_
      (refine wp_draw [2] (.look 0 (.look 1 (.act 2 (.look 3 (.look 4 (.look 5 (.look 6 (.look 7 (.look 8 (.look 9 (.look 10 (.look 11 (.look 12 (.look 13 (.look 14 (.look 15 (.look 16 (.look 17 (.look 18 (.look 19 (.look 20 (.look 21 (.look 22 (.look 23 (.look 24 (.look 25 (.look 26 (.look 27 .nil))))))))))))))))))))))))) .stop))) (by kernel_rfl) ?_; refine dwP ?_; refine dwL ?_; skip)
      refine dw_do rfl rfl ?_ dw_stop
      refine s_call rfl (iCalls (n := n) (L := L) hm) rfl ?_
      rintro _ _ ⟨e_, rfl⟩
      obtain rfl := e_.symm
      rw [hc]
      refine wpl_nil (qone ⟨(by refine st_past (by kernel_rfl) ?_; exact st_nil), ?_⟩)
      (refine dwP ?_; refine dwP ?_; refine dwP ?_; refine dwP ?_; refine dwL ?_; refine dwP ?_; refine dwL ?_; (apply dw_pure; (· exact rfl); (· exact rfl); (· (intro G; (first | (refine step_wanted rfl rfl ?_; (apply s_indexAddr (j := k) (o' := k * 4); (· exact rfl); (· exact rfl); (· omega); (· omega); (· omega); (· exact rfl))) | (apply s_indexAddr (j := k) (o' := k * 4); (· exact rfl); (· exact rfl); (· omega); (· omega); (· omega); (· exact rfl)) | skip); exact looked))); refine dwP ?_; refine dwP ?_; refine dwL ?_; refine dwP ?_; refine dwP ?_; refine dwP ?_; refine dwP ?_; refine dwP ?_; refine dwP ?_; refine dwL ?_; refine dwP ?_; refine dwL ?_; (apply dw_pure; (· exact rfl); (· exact rfl); (· (intro G; (first | (refine step_wanted rfl rfl ?_; (apply s_indexAddr (j := kp) (o' := kp); (· exact rfl); (· exact rfl); (· omega); (· omega); (· omega); (· exact rfl))) | (apply s_indexAddr (j := kp) (o' := kp); (· exact rfl); (· exact rfl); (· omega); (· omega); (· omega); (· exact rfl)) | skip); exact looked))); refine dwL ?_; refine dwP ?_; refine dwP ?_; refine dwP ?_; refine dw_nil ?_; skip)
      refine walk ?_
      (first | (apply retRD1 (G := (IdeAt x L + F)) (.inr rfl) rfl; (· first | (refine rv_tmp (v := .bool _) rfl) | exact rv_tmp rfl); (· exact Ent.auto)) | (apply retRD1 (G := (IdeAt x L + F)) (.inl rfl) rfl; (· first | (refine rv_tmp (v := .bool _) rfl) | exact rv_tmp rfl); (· exact Ent.auto)))
      exact ⟨Ent.refl _, rfl⟩
    | true =>
      by_cases hb : L.I.ms[k].p < 0
      · rw [decide_eq_true hb]
        by_cases hq : L.I.ps[kp] = -1
        · rw [decide_eq_true hq]
          refine fn_intro 58 Tryz.func86 rfl rfl rfl ?_
          refine walk ?_
          refine s_box (cs := nv n) rfl rfl rfl ?_
          intro b
          refine walk ?_
          (refine wp_draw [2] (.look 0 (.look 1 (.act 2 (.look 3 (.look 4 (.look 5 (.look 6 (.look 7 (.look 8 (.look 9 (.look 10 (.look 11 (.look 12 (.look 13 (.look 14 (.look 15 (.look 16 (.look 17 (.look 18 (.look 19 (.look 20 (.look 21 (.look 22 (.look 23 (.look 24 (.look 25 (.look 26 (.look 27 .nil))))))))))))))))))))))))) .stop))) (by kernel_rfl) ?_; refine dwP ?_; refine dwL ?_; skip)
          refine dw_do rfl rfl ?_ dw_stop
          refine s_call rfl (iCalls (n := n) (L := L) hm) rfl ?_
          rintro _ _ ⟨e_, rfl⟩
          obtain rfl := e_.symm
          rw [hc]
          refine wpl_nil (qone ⟨(by refine st_past (by kernel_rfl) ?_; exact st_nil), ?_⟩)
          (refine dwP ?_; refine dwP ?_; refine dwP ?_; refine dwP ?_; refine dwL ?_; refine dwP ?_; refine dwL ?_; (apply dw_pure; (· exact rfl); (· exact rfl); (· (intro G; (first | (refine step_wanted rfl rfl ?_; (apply s_indexAddr (j := k) (o' := k * 4); (· exact rfl); (· exact rfl); (· omega); (· omega); (· omega); (· exact rfl))) | (apply s_indexAddr (j := k) (o' := k * 4); (· exact rfl); (· exact rfl); (· omega); (· omega); (· omega); (· exact rfl)) | skip); exact looked))); refine dwP ?_; refine dwP ?_; refine dwL ?_; refine dwP ?_; refine dwP ?_; refine dwP ?_; refine dwP ?_; refine dwP ?_; refine dwP ?_; refine dwL ?_; refine dwP ?_; refine dwL ?_; (apply dw_pure; (· exact rfl); (· exact rfl); (· (intro G; (first | (refine step_wanted rfl rfl ?_; (apply s_indexAddr (j := kp) (o' := kp); (· exact rfl); (· exact rfl); (· omega); (· omega); (· omega); (· exact rfl))) | (apply s_indexAddr (j := kp) (o' := kp); (· exact rfl); (· exact rfl); (· omega); (· omega); (· omega); (· exact rfl)) | skip); exact looked))); refine dwL ?_; refine dwP ?_; refine dwP ?_; refine dwP ?_; refine dw_nil ?_; skip)
          refine walk ?_
          (first | (apply retRD1 (G := (IdeAt x L + F)) (.inr rfl) rfl; (· first | (refine rv_tmp (v := .bool _) rfl) | exact rv_tmp rfl); (· exact Ent.auto)) | (apply retRD1 (G := (IdeAt x L + F)) (.inl rfl) rfl; (· first | (refine rv_tmp (v := .bool _) rfl) | exact rv_tmp rfl); (· exact Ent.auto)))
          exact ⟨Ent.refl _, rfl⟩
        · rw [decide_eq_false hq]
          refine fn_intro 58 Tryz.func86 rfl rfl rfl ?_
          refine walk ?_
          refine s_box (cs := nv n) rfl rfl rfl ?_
          intro b
          refine walk ?_
          (refine wp_draw [2] (.look 0 (.look 1 (.act 2 (.look 3 (.look 4 (.look 5 (.look 6 (.look 7 (.look 8 (.look 9 (.look 10 (.look 11 (.look 12 (.look 13 (.look 14 (.look 15 (.look 16 (.look 17 (.look 18 (.look 19 (.look 20 (.look 21 (.look 22 (.look 23 (.look 24 (.look 25 (.look 26 (.look 27 .nil))))))))))))))))))))))))) .stop))) (by kernel_rfl) ?_; refine dwP ?_; refine dwL ?_; skip)
          refine dw_do rfl rfl ?_ dw_stop
          refine s_call rfl (iCalls (n := n) (L := L) hm) rfl ?_
          rintro _ _ ⟨e_, rfl⟩
          obtain rfl := e_.symm
          rw [hc]
          refine wpl_nil (qone ⟨(by refine st_past (by kernel_rfl) ?_; exact st_nil), ?_⟩)
          (refine dwP ?_; refine dwP ?_; refine dwP ?_; refine dwP ?_; refine dwL ?_; refine dwP ?_; refine dwL ?_; (apply dw_pure; (· exact rfl); (· exact rfl); (· (intro G; (first | (refine step_wanted rfl rfl ?_; (apply s_indexAddr (j := k) (o' := k * 4); (· exact rfl); (· exact rfl); (· omega); (· omega); (· omega); (· exact rfl))) | (apply s_indexAddr (j := k) (o' := k * 4); (· exact rfl); (· exact rfl); (· omega); (· omega); (· omega); (· exact rfl)) | skip); exact looked))); refine dwP ?_; refine dwP ?_; refine dwL ?_; refine dwP ?_; refine dwP ?_; refine dwP ?_; refine dwP ?_; refine dwP ?_; refine dwP ?_; refine dwL ?_; refine dwP ?_; refine dwL ?_; (apply dw_pure; (· exact rfl); (· exact rfl); (· (intro G; (first | (refine step_wanted rfl rfl ?_; (apply s_indexAddr (j := kp) (o' := kp); (· exact rfl); (· exact rfl); (· omega); (· omega); (· omega); (· exact rfl))) | (apply s_indexAddr (j := kp) (o' := kp); (· exact rfl); (· exact rfl); (· omega); (· omega); (· omega); (· exact rfl)) | skip); exact looked))); refine dwL ?_; refine dwP ?_; refine dwP ?_; refine dwP ?_; refine dw_nil ?_; skip)
          refine walk ?_
          (first | (apply retRD1 (G := (IdeAt x L + F)) (.inr rfl) rfl; (· first | (refine rv_tmp (v := .bool _) rfl) | exact rv_tmp rfl); (· exact Ent.auto)) | (apply retRD1 (G := (IdeAt x L + F)) (.inl rfl) rfl; (· first | (refine rv_tmp (v := .bool _) rfl) | exact rv_tmp rfl); (· exact Ent.auto)))
          exact ⟨Ent.refl _, rfl⟩
      · rw [decide_eq_false hb, Bool.false_and]
        refine fn_intro 58 Tryz.func86 rfl rfl rfl ?_
        refine walk ?_
        refine s_box (cs := nv n) rfl rfl rfl ?_
        intro b
        refine walk ?_
        (refine wp_draw [2] (.look 0 (.look 1 (.act 2 (.look 3 (.look 4 (.look 5 (.look 6 (.look 7 (.look 8 (.look 9 (.look 10 (.look 11 (.look 12 (.look 13 (.look 14 (.look 15 (.look 16 (.look 17 (.look 18 (.look 19 (.look 20 (.look 21 (.look 22 (.look 23 (.look 24 (.look 25 (.look 26 (.look 27 .nil))))))))))))))))))))))))) .stop))) (by kernel_rfl) ?_; refine dwP ?_; refine dwL ?_; skip)
        refine dw_do rfl rfl ?_ dw_stop
        refine s_call rfl (iCalls (n := n) (L := L) hm) rfl ?_
        rintro _ _ ⟨e_, rfl⟩
        obtain rfl := e_.symm
        rw [hc]
        refine wpl_nil (qone ⟨(by refine st_past (by kernel_rfl) ?_; exact st_nil), ?_⟩)
        (refine dwP ?_; refine dwP ?_; refine dwP ?_; refine dwP ?_; refine dwL ?_; refine dwP ?_; refine dwL ?_; (apply dw_pure; (· exact rfl); (· exact rfl); (· (intro G; (first | (refine step_wanted rfl rfl ?_; (apply s_indexAddr (j := k) (o' := k * 4); (· exact rfl); (· exact rfl); (· omega); (· omega); (· omega); (· exact rfl))) | (apply s_indexAddr (j := k) (o' := k * 4); (· exact rfl); (· exact rfl); (· omega); (· omega); (· omega); (· exact rfl)) | skip); exact looked))); refine dwP ?_; refine dwP ?_; refine dwL ?_; refine dwP ?_; refine dwP ?_; refine dwP ?_; refine dwP ?_; refine dwP ?_; refine dwP ?_; refine dwL ?_; refine dwP ?_; refine dwL ?_; (apply dw_pure; (· exact rfl); (· exact rfl); (· (intro G; (first | (refine step_wanted rfl rfl ?_; (apply s_indexAddr (j := kp) (o' := kp); (· exact rfl); (· exact rfl); (· omega); (· omega); (· omega); (· exact rfl))) | (apply s_indexAddr (j := kp) (o' := kp); (· exact rfl); (· exact rfl); (· omega); (· omega); (· omega); (· exact rfl)) | skip); exact looked))); refine dwL ?_; refine dwP ?_; refine dwP ?_; refine dwP ?_; refine dw_nil ?_; skip)
        refine walk ?_
        (first | (apply retRD1 (G := (IdeAt x L + F)) (.inr rfl) rfl; (· first | (refine rv_tmp (v := .bool _) rfl) | exact rv_tmp rfl); (· exact Ent.auto)) | (apply retRD1 (G := (IdeAt x L + F)) (.inl rfl) rfl; (· first | (refine rv_tmp (v := .bool _) rfl) | exact rv_tmp rfl); (· exact Ent.auto)))
        exact ⟨Ent.refl _, rfl⟩
theorem k2 [i : HasAt IdeAt H x L F] (hm : 0 ≤ n.m ∧ n.m < L.I.ms.length) (ok : L.I.tab.ok K) (hK : K ≤ 100000) : Does Tryz.prog B 65 [ptr x, noteV n] H fun r H' => H' = H ∧ r = .bool (decide ((L.I.mAt n.m).a = 2) && (decide ((L.I.mAt n.m).g = n.x) && decide (L.I.tab.row[0]? = some n.g))) := by
  obtain ⟨k, hk, hm', hA⟩ := mAt_of hm
  rw [hA]
  have c0 := ide_m (B := B) (x := x) hk (j := 0) (by omega) rfl
  have c2 := ide_m (B := B) (x := x) hk (j := 2) (by omega) rfl
  have z0 : Cell B (IdeAt x L) x 0 (.int .i64 L.I.c.n) := ide_cell rfl
  have z3 : Cell B (IdeAt x L) x 3 (.int .i64 L.I.c.m) := ide_cell rfl
  have z6 : Cell B (IdeAt x L) x 6 (ptr L.q) := ide_cell rfl
  have z7 : Cell B (IdeAt x L) x 7 (ptr L.s) := ide_cell rfl
  have z8 : Cell B (IdeAt x L) x 8 (.slice (some ⟨L.bm, 0, none⟩) L.I.ms.length L.cm) := ide_cell rfl
  have z9 : Cell B (IdeAt x L) x 9 (.slice (some ⟨L.bp, 0, none⟩) L.I.ps.length L.cp) := ide_cell rfl
  rw [i.eq]
  refine Does.frame0 ?_
  obtain ⟨R, hR⟩ : ∃ R, L.I.tab.row = R := ⟨_, rfl⟩
  rw [hR]
  cases R with
  | nil =>
    by_cases ha : L.I.ms[k].a = 2
    · rw [decide_eq_true ha]
      by_cases hg : L.I.ms[k].g = n.x
      · rw [decide_eq_true hg]
        rw [show decide (([] : List Int)[0]? = some n.g) = false by simp]
        refine fn_intro 50 Tryz.func65 rfl rfl rfl ?_
        refine walk ?_
        refine s_box (cs := nv n) rfl rfl rfl ?_
        intro b
        refine walk ?_
        refine s_call rfl (tRow (p := L.q) (T := L.I.tab) ok hK) rfl ?_
        rintro r _ rfl
        refine WPL.shape ?_
        rintro ao cap rfl hl1 hl2 hl3
        refine WPL.rd fun rd => ?_
        rw [hR] at rd ⊢
        simp only [List.length_nil] at hl1 hl2 ⊢
        refine walk ?_
        (refine wp_draw [] (.look 0 (.look 1 (.look 2 (.look 3 (.look 4 (.look 5 (.look 6 (.look 7 (.look 8 (.look 9 (.look 10 (.look 11 (.look 12 (.look 13 (.look 14 (.look 15 (.look 16 (.look 17 (.look 18 (.look 19 (.look 20 (.look 21 (.look 22 (.look 23 (.look 24 (.look 25 (.look 26 (.look 27 (.look 28 (.look 29 (.look 30 (.look 31 (.look 32 (.look 33 (.look 34 (.look 35 (.look 36 (.look 37 (.look 38 (.look 39 .nil)))))))))))))))))))))))))))))))))))))))) (by kernel_rfl) ?_; refine dwP ?_; refine dwP ?_; refine dwP ?_; refine dwL ?_; refine dwP ?_; refine dwL ?_; (apply dw_pure; (· exact rfl); (· exact rfl); (· (intro G; (first | (refine step_wanted rfl rfl ?_; (apply s_indexAddr (j := k) (o' := k * 4); (· exact rfl); (· exact rfl); (· omega); (· omega); (· omega); (· exact rfl))) | (apply s_indexAddr (j := k) (o' := k * 4); (· exact rfl); (· exact rfl); (· omega); (· omega); (· omega); (· exact rfl)) | skip); exact looked))); refine dwP ?_; refine dwP ?_; refine dwL ?_; refine dwP ?_; refine dwP ?_; refine dwP ?_; refine dwP ?_; refine dwP ?_; refine dwL ?_; refine dwP ?_; refine dwL ?_; (apply dw_pure; (· exact rfl); (· exact rfl); (· (intro G; (first | (refine step_wanted rfl rfl ?_; (apply s_indexAddr (j := k) (o' := k * 4); (· exact rfl); (· exact rfl); (· omega); (· omega); (· omega); (· exact rfl))) | (apply s_indexAddr (j := k) (o' := k * 4); (· exact rfl); (· exact rfl); (· omega); (· omega); (· omega); (· exact rfl)) | skip); exact looked))); refine dwP ?_; refine dwP ?_; refine dwL ?_; refine dwP ?_; refine dwL ?_; refine dwP ?_; refine dwP ?_; refine dwP ?_; refine dwP ?_; refine dwP ?_; refine dwP ?_; refine dwP ?_; refine dwP ?_; refine dwP ?_; (apply dw_pure; (· exact rfl); (· exact rfl); (· (intro G; (first | (refine step_wanted rfl rfl ?_; (apply s_indexAddr (j := 0) (o' := o); (· exact rfl); (· exact rfl); (· omega); (· omega); (· omega); (· exact rfl))) | (apply s_indexAddr (j := 0) (o' := o); (· exact rfl); (· exact rfl); (· omega); (· omega); (· omega); (· exact rfl)) | skip); exact looked))); refine dwL ?_; refine dwP ?_; refine dwL ?_; refine dwP ?_; refine dwP ?_; refine dwP ?_; refine dw_nil ?_)
        refine walk ?_
        (first | (apply retRD1 (G := (IdeAt x L + F)) (.inr rfl) rfl; (· first | (refine rv_tmp (v := .bool _) rfl) | exact rv_tmp rfl); (· exact Ent.auto)) | (apply retRD1 (G := (IdeAt x L + F)) (.inl rfl) rfl; (· first | (refine rv_tmp (v := .bool _) rfl) | exact rv_tmp rfl); (· exact Ent.auto)))
        exact ⟨Ent.refl _, rfl⟩
      · rw [decide_eq_false hg, Bool.false_and]
        refine fn_intro 50 Tryz.func65 rfl rfl rfl ?_
        refine walk ?_
        refine s_box (cs := nv n) rfl rfl rfl ?_
        intro b
        refine walk ?_
        refine s_call rfl (tRow (p := L.q) (T := L.I.tab) ok hK) rfl ?_
        rintro r _ rfl
        refine WPL.shape ?_
        rintro ao cap rfl hl1 hl2 hl3
        refine WPL.rd fun rd => ?_
        rw [hR] at rd ⊢
        simp only [List.length_nil] at hl1 hl2 ⊢
        refine walk ?_
        (refine wp_draw [] (.look 0 (.look 1 (.look 2 (.look 3 (.look 4 (.look 5 (.look 6 (.look 7 (.look 8 (.look 9 (.look 10 (.look 11 (.look 12 (.look 13 (.look 14 (.look 15 (.look 16 (.look 17 (.look 18 (.look 19 (.look 20 (.look 21 (.look 22 (.look 23 (.look 24 (.look 25 (.look 26 (.look 27 (.look 28 (.look 29 (.look 30 (.look 31 (.look 32 (.look 33 (.look 34 (.look 35 (.look 36 (.look 37 (.look 38 (.look 39 .nil)))))))))))))))))))))))))))))))))))))))) (by kernel_rfl) ?_; refine dwP ?_; refine dwP ?_; refine dwP ?_; refine dwL ?_; refine dwP ?_; refine dwL ?_; (apply dw_pure; (· exact rfl); (· exact rfl); (· (intro G; (first | (refine step_wanted rfl rfl ?_; (apply s_indexAddr (j := k) (o' := k * 4); (· exact rfl); (· exact rfl); (· omega); (· omega); (· omega); (· exact rfl))) | (apply s_indexAddr (j := k) (o' := k * 4); (· exact rfl); (· exact rfl); (· omega); (· omega); (· omega); (· exact rfl)) | skip); exact looked))); refine dwP ?_; refine dwP ?_; refine dwL ?_; refine dwP ?_; refine dwP ?_; refine dwP ?_; refine dwP ?_; refine dwP ?_; refine dwL ?_; refine dwP ?_; refine dwL ?_; (apply dw_pure; (· exact rfl); (· exact rfl); (· (intro G; (first | (refine step_wanted rfl rfl ?_; (apply s_indexAddr (j := k) (o' := k * 4); (· exact rfl); (· exact rfl); (· omega); (· omega); (· omega); (· exact rfl))) | (apply s_indexAddr (j := k) (o' := k * 4); (· exact rfl); (· exact rfl); (· omega); (· omega); (· omega); (· exact rfl)) | skip); exact looked))); refine dwP ?_; refine dwP ?_; refine dwL ?_; refine dwP ?_; refine dwL ?_; refine dwP ?_; refine dwP ?_; refine dwP ?_; refine dwP ?_; refine dwP ?_; refine dwP ?_; refine dwP ?_; refine dwP ?_; refine dwP ?_; (apply dw_pure; (· exact rfl); (· exact rfl); (· (intro G; (first | (refine step_wanted rfl rfl ?_; (apply s_indexAddr (j := 0) (o' := o); (· exact rfl); (· exact rfl); (· omega); (· omega); (· omega); (· exact rfl))) | (apply s_indexAddr (j := 0) (o' := o); (· exact rfl); (· exact rfl); (· omega); (· omega); (· omega); (· exact rfl)) | skip); exact looked))); refine dwL ?_; refine dwP ?_; refine dwL ?_; refine dwP ?_; refine dwP ?_; refine dwP ?_; refine dw_nil ?_)
        refine walk ?_
        (first | (apply retRD1 (G := (IdeAt x L + F)) (.inr rfl) rfl; (· first | (refine rv_tmp (v := .bool _) rfl) | exact rv_tmp rfl); (· exact Ent.auto)) | (apply retRD1 (G := (IdeAt x L + F)) (.inl rfl) rfl; (· first | (refine rv_tmp (v := .bool _) rfl) | exact rv_tmp rfl); (· exact Ent.auto)))
        exact ⟨Ent.refl _, rfl⟩
    · rw [decide_eq_false ha, Bool.false_and]
      refine fn_intro 50 Tryz.func65 rfl rfl rfl ?_
      refine walk ?_
      refine s_box (cs := nv n) rfl rfl rfl ?_
      intro b
      refine walk ?_
      refine s_call rfl (tRow (p := L.q) (T := L.I.tab) ok hK) rfl ?_
      rintro r _ rfl
      refine WPL.shape ?_
      rintro ao cap rfl hl1 hl2 hl3
      refine WPL.rd fun rd => ?_
      rw [hR] at rd ⊢
      simp only [List.length_nil] at hl1 hl2 ⊢
      refine walk ?_
      (refine wp_draw [] (.look 0 (.look 1 (.look 2 (.look 3 (.look 4 (.look 5 (.look 6 (.look 7 (.look 8 (.look 9 (.look 10 (.look 11 (.look 12 (.look 13 (.look 14 (.look 15 (.look 16 (.look 17 (.look 18 (.look 19 (.look 20 (.look 21 (.look 22 (.look 23 (.look 24 (.look 25 (.look 26 (.look 27 (.look 28 (.look 29 (.look 30 (.look 31 (.look 32 (.look 33 (.look 34 (.look 35 (.look 36 (.look 37 (.look 38 (.look 39 .nil)))))))))))))))))))))))))))))))))))))))) (by kernel_rfl) ?_; refine dwP ?_; refine dwP ?_; refine dwP ?_; refine dwL ?_; refine dwP ?_; refine dwL ?_; (apply dw_pure; (· exact rfl); (· exact rfl); (· (intro G; (first | (refine step_wanted rfl rfl ?_; (apply s_indexAddr (j := k) (o' := k * 4); (· exact rfl); (· exact rfl); (· omega); (· omega); (· omega); (· exact rfl))) | (apply s_indexAddr (j := k) (o' := k * 4); (· exact rfl); (· exact rfl); (· omega); (· omega); (· omega); (· exact rfl)) | skip); exact looked))); refine dwP ?_; refine dwP ?_; refine dwL ?_; refine dwP ?_; refine dwP ?_; refine dwP ?_; refine dwP ?_; refine dwP ?_; refine dwL ?_; refine dwP ?_; refine dwL ?_; (apply dw_pure; (· exact rfl); (· exact rfl); (· (intro G; (first | (refine step_wanted rfl rfl ?_; (apply s_indexAddr (j := k) (o' := k * 4); (· exact rfl); (· exact rfl); (· omega); (· omega); (· omega); (· exact rfl))) | (apply s_indexAddr (j := k) (o' := k * 4); (· exact rfl); (· exact rfl); (· omega); (· omega); (· omega); (· exact rfl)) | skip); exact looked))); refine dwP ?_; refine dwP ?_; refine dwL ?_; refine dwP ?_; refine dwL ?_; refine dwP ?_; refine dwP ?_; refine dwP ?_; refine dwP ?_; refine dwP ?_; refine dwP ?_; refine dwP ?_; refine dwP ?_; refine dwP ?_; (apply dw_pure; (· exact rfl); (· exact rfl); (· (intro G; (first | (refine step_wanted rfl rfl ?_; (apply s_indexAddr (j := 0) (o' := o); (· exact rfl); (· exact rfl); (· omega); (· omega); (· omega); (· exact rfl))) | (apply s_indexAddr (j := 0) (o' := o); (· exact rfl); (· exact rfl); (· omega); (· omega); (· omega); (· exact rfl)) | skip); exact looked))); refine dwL ?_; refine dwP ?_; refine dwL ?_; refine dwP ?_; refine dwP ?_; refine dwP ?_; refine dw_nil ?_)
      refine walk ?_
      (first | (apply retRD1 (G := (IdeAt x L + F)) (.inr rfl) rfl; (· first | (refine rv_tmp (v := .bool _) rfl) | exact rv_tmp rfl); (· exact Ent.auto)) | (apply retRD1 (G := (IdeAt x L + F)) (.inl rfl) rfl; (· first | (refine rv_tmp (v := .bool _) rfl) | exact rv_tmp rfl); (· exact Ent.auto)))
      exact ⟨Ent.refl _, rfl⟩
  | cons y R =>
    by_cases ha : L.I.ms[k].a = 2
    · rw [decide_eq_true ha]
      by_cases hg : L.I.ms[k].g = n.x
      · rw [decide_eq_true hg]
        by_cases hy : y = n.g
        · rw [show decide ((y :: R)[0]? = some n.g) = true by simp [hy]]
          refine fn_intro 50 Tryz.func65 rfl rfl rfl ?_
          refine walk ?_
          refine s_box (cs := nv n) rfl rfl rfl ?_
          intro b
          refine walk ?_
          refine s_call rfl (tRow (p := L.q) (T := L.I.tab) ok hK) rfl ?_
          rintro r _ rfl
          refine WPL.shape ?_
          rintro ao cap rfl hl1 hl2 hl3
          refine WPL.rd fun rd => ?_
          rw [hR] at rd ⊢
          obtain ⟨ao', cap', hv, _, _, hcc⟩ := (by unfold Rd at rd; exact rd)
          obtain ⟨bb, o, rfl, hcs⟩ := Rd.addr (k := 0) (by rw [zs_length, Nat.mul_one]) hcc (by simp)
          cases hv
          have hcell := hcs.cell (j := 0) rfl
          simp only [List.length_cons] at hl1 hl2 ⊢
          refine walk ?_
          (refine wp_draw [] (.look 0 (.look 1 (.look 2 (.look 3 (.look 4 (.look 5 (.look 6 (.look 7 (.look 8 (.look 9 (.look 10 (.look 11 (.look 12 (.look 13 (.look 14 (.look 15 (.look 16 (.look 17 (.look 18 (.look 19 (.look 20 (.look 21 (.look 22 (.look 23 (.look 24 (.look 25 (.look 26 (.look 27 (.look 28 (.look 29 (.look 30 (.look 31 (.look 32 (.look 33 (.look 34 (.look 35 (.look 36 (.look 37 (.look 38 (.look 39 .nil)))))))))))))))))))))))))))))))))))))))) (by kernel_rfl) ?_; refine dwP ?_; refine dwP ?_; refine dwP ?_; refine dwL ?_; refine dwP ?_; refine dwL ?_; (apply dw_pure; (· exact rfl); (· exact rfl); (· (intro G; (first | (refine step_wanted rfl rfl ?_; (apply s_indexAddr (j := k) (o' := k * 4); (· exact rfl); (· exact rfl); (· omega); (· omega); (· omega); (· exact rfl))) | (apply s_indexAddr (j := k) (o' := k * 4); (· exact rfl); (· exact rfl); (· omega); (· omega); (· omega); (· exact rfl)) | skip); exact looked))); refine dwP ?_; refine dwP ?_; refine dwL ?_; refine dwP ?_; refine dwP ?_; refine dwP ?_; refine dwP ?_; refine dwP ?_; refine dwL ?_; refine dwP ?_; refine dwL ?_; (apply dw_pure; (· exact rfl); (· exact rfl); (· (intro G; (first | (refine step_wanted rfl rfl ?_; (apply s_indexAddr (j := k) (o' := k * 4); (· exact rfl); (· exact rfl); (· omega); (· omega); (· omega); (· exact rfl))) | (apply s_indexAddr (j := k) (o' := k * 4); (· exact rfl); (· exact rfl); (· omega); (· omega); (· omega); (· exact rfl)) | skip); exact looked))); refine dwP ?_; refine dwP ?_; refine dwL ?_; refine dwP ?_; refine dwL ?_; refine dwP ?_; refine dwP ?_; refine dwP ?_; refine dwP ?_; refine dwP ?_; refine dwP ?_; refine dwP ?_; refine dwP ?_; refine dwP ?_; (apply dw_pure; (· exact rfl); (· exact rfl); (· (intro G; (first | (refine step_wanted rfl rfl ?_; (apply s_indexAddr (j := 0) (o' := o); (· exact rfl); (· exact rfl); (· omega); (· omega); (· omega); (· exact rfl))) | (apply s_indexAddr (j := 0) (o' := o); (· exact rfl); (· exact rfl); (· omega); (· omega); (· omega); (· exact rfl)) | skip); exact looked))); refine dwL ?_; refine dwP ?_; refine dwL ?_; refine dwP ?_; refine dwP ?_; refine dwP ?_; refine dw_nil ?_)
          refine walk ?_
          (first | (apply retRD1 (G := (IdeAt x L + F)) (.inr rfl) rfl; (· first | (refine rv_tmp (v := .bool _) rfl) | exact rv_tmp rfl); (· exact Ent.auto)) | (apply retRD1 (G := (IdeAt x L + F)) (.inl rfl) rfl; (· first | (refine rv_tmp (v := .bool _) rfl) | exact rv_tmp rfl); (· exact Ent.auto)))
          exact ⟨Ent.refl _, rfl⟩
        · rw [show decide ((y :: R)[0]? = some n.g) = false by simp [hy]]
          refine fn_intro 50 Tryz.func65 rfl rfl rfl ?_
          refine walk ?_
          refine s_box (cs := nv n) rfl rfl rfl ?_
          intro b
          refine walk ?_
          refine s_call rfl (tRow (p := L.q) (T := L.I.tab) ok hK) rfl ?_
          rintro r _ rfl
          refine WPL.shape ?_
          rintro ao cap rfl hl1 hl2 hl3
          refine WPL.rd fun rd => ?_
          rw [hR] at rd ⊢
          obtain ⟨ao', cap', hv, _, _, hcc⟩ := (by unfold Rd at rd; exact rd)
          obtain ⟨bb, o, rfl, hcs⟩ := Rd.addr (k := 0) (by rw [zs_length, Nat.mul_one]) hcc (by simp)
          cases hv
          have hcell := hcs.cell (j := 0) rfl
          simp only [List.length_cons] at hl1 hl2 ⊢
          refine walk ?_
          (refine wp_draw [] (.look 0 (.look 1 (.look 2 (.look 3 (.look 4 (.look 5 (.look 6 (.look 7 (.look 8 (.look 9 (.look 10 (.look 11 (.look 12 (.look 13 (.look 14 (.look 15 (.look 16 (.look 17 (.look 18 (.look 19 (.look 20 (.look 21 (.look 22 (.look 23 (.look 24 (.look 25 (.look 26 (.look 27 (.look 28 (.look 29 (.look 30 (.look 31 (.look 32 (.look 33 (.look 34 (.look 35 (.look 36 (.look 37 (.look 38 (.look 39 .nil)))))))))))))))))))))))))))))))))))))))) (by kernel_rfl) ?_; refine dwP ?_; refine dwP ?_; refine dwP ?_; refine dwL ?_; refine dwP ?_; refine dwL ?_; (apply dw_pure; (· exact rfl); (· exact rfl); (· (intro G; (first | (refine step_wanted rfl rfl ?_; (apply s_indexAddr (j := k) (o' := k * 4); (· exact rfl); (· exact rfl); (· omega); (· omega); (· omega); (· exact rfl))) | (apply s_indexAddr (j := k) (o' := k * 4); (· exact rfl); (· exact rfl); (· omega); (· omega); (· omega); (· exact rfl)) | skip); exact looked))); refine dwP ?_; refine dwP ?_; refine dwL ?_; refine dwP ?_; refine dwP ?_; refine dwP ?_; refine dwP ?_; refine dwP ?_; refine dwL ?_; refine dwP ?_; refine dwL ?_; (apply dw_pure; (· exact rfl); (· exact rfl); (· (intro G; (first | (refine step_wanted rfl rfl ?_; (apply s_indexAddr (j := k) (o' := k * 4); (· exact rfl); (· exact rfl); (· omega); (· omega); (· omega); (· exact rfl))) | (apply s_indexAddr (j := k) (o' := k * 4); (· exact rfl); (· exact rfl); (· omega); (· omega); (· omega); (· exact rfl)) | skip); exact looked))); refine dwP ?_; refine dwP ?_; refine dwL ?_; refine dwP ?_; refine dwL ?_; refine dwP ?_; refine dwP ?_; refine dwP ?_; refine dwP ?_; refine dwP ?_; refine dwP ?_; refine dwP ?_; refine dwP ?_; refine dwP ?_; (apply dw_pure; (· exact rfl); (· exact rfl); (· (intro G; (first | (refine step_wanted rfl rfl ?_; (apply s_indexAddr (j := 0) (o' := o); (· exact rfl); (· exact rfl); (· omega); (· omega); (· omega); (· exact rfl))) | (apply s_indexAddr (j := 0) (o' := o); (· exact rfl); (· exact rfl); (· omega); (· omega); (· omega); (· exact rfl)) | skip); exact looked))); refine dwL ?_; refine dwP ?_; refine dwL ?_; refine dwP ?_; refine dwP ?_; refine dwP ?_; refine dw_nil ?_)
          refine walk ?_
          (first | (apply retRD1 (G := (IdeAt x L + F)) (.inr rfl) rfl; (· first | (refine rv_tmp (v := .bool _) rfl) | exact rv_tmp rfl); (· exact Ent.auto)) | (apply retRD1 (G := (IdeAt x L + F)) (.inl rfl) rfl; (· first | (refine rv_tmp (v := .bool _) rfl) | exact rv_tmp rfl); (· exact Ent.auto)))
          exact ⟨Ent.refl _, rfl⟩
      · rw [decide_eq_false hg, Bool.false_and]
        refine fn_intro 50 Tryz.func65 rfl rfl rfl ?_
        refine walk ?_
        refine s_box (cs := nv n) rfl rfl rfl ?_
        intro b
        refine walk ?_
        refine s_call rfl (tRow (p := L.q) (T := L.I.tab) ok hK) rfl ?_
        rintro r _ rfl
        refine WPL.shape ?_
        rintro ao cap rfl hl1 hl2 hl3
        refine WPL.rd fun rd => ?_
        rw [hR] at rd ⊢
        obtain ⟨ao', cap', hv, _, _, hcc⟩ := (by unfold Rd at rd; exact rd)
        obtain ⟨bb, o, rfl, hcs⟩ := Rd.addr (k := 0) (by rw [zs_length, Nat.mul_one]) hcc (by simp)
        cases hv
        have hcell := hcs.cell (j := 0) rfl
        simp only [List.length_cons] at hl1 hl2 ⊢
        refine walk ?_
        (refine wp_draw [] (.look 0 (.look 1 (.look 2 (.look 3 (.look 4 (.look 5 (.look 6 (.look 7 (.look 8 (.look 9 (.look 10 (.look 11 (.look 12 (.look 13 (.look 14 (.look 15 (.look 16 (.look 17 (.look 18 (.look 19 (.look 20 (.look 21 (.look 22 (.look 23 (.look 24 (.look 25 (.look 26 (.look 27 (.look 28 (.look 29 (.look 30 (.look 31 (.look 32 (.look 33 (.look 34 (.look 35 (.look 36 (.look 37 (.look 38 (.look 39 .nil)))))))))))))))))))))))))))))))))))))))) (by kernel_rfl) ?_; refine dwP ?_; refine dwP ?_; refine dwP ?_; refine dwL ?_; refine dwP ?_; refine dwL ?_; (apply dw_pure; (· exact rfl); (· exact rfl); (· (intro G; (first | (refine step_wanted rfl rfl ?_; (apply s_indexAddr (j := k) (o' := k * 4); (· exact rfl); (· exact rfl); (· omega); (· omega); (· omega); (· exact rfl))) | (apply s_indexAddr (j := k) (o' := k * 4); (· exact rfl); (· exact rfl); (· omega); (· omega); (· omega); (· exact rfl)) | skip); exact looked))); refine dwP ?_; refine dwP ?_; refine dwL ?_; refine dwP ?_; refine dwP ?_; refine dwP ?_; refine dwP ?_; refine dwP ?_; refine dwL ?_; refine dwP ?_; refine dwL ?_; (apply dw_pure; (· exact rfl); (· exact rfl); (· (intro G; (first | (refine step_wanted rfl rfl ?_; (apply s_indexAddr (j := k) (o' := k * 4); (· exact rfl); (· exact rfl); (· omega); (· omega); (· omega); (· exact rfl))) | (apply s_indexAddr (j := k) (o' := k * 4); (· exact rfl); (· exact rfl); (· omega); (· omega); (· omega); (· exact rfl)) | skip); exact looked))); refine dwP ?_; refine dwP ?_; refine dwL ?_; refine dwP ?_; refine dwL ?_; refine dwP ?_; refine dwP ?_; refine dwP ?_; refine dwP ?_; refine dwP ?_; refine dwP ?_; refine dwP ?_; refine dwP ?_; refine dwP ?_; (apply dw_pure; (· exact rfl); (· exact rfl); (· (intro G; (first | (refine step_wanted rfl rfl ?_; (apply s_indexAddr (j := 0) (o' := o); (· exact rfl); (· exact rfl); (· omega); (· omega); (· omega); (· exact rfl))) | (apply s_indexAddr (j := 0) (o' := o); (· exact rfl); (· exact rfl); (· omega); (· omega); (· omega); (· exact rfl)) | skip); exact looked))); refine dwL ?_; refine dwP ?_; refine dwL ?_; refine dwP ?_; refine dwP ?_; refine dwP ?_; refine dw_nil ?_)
        refine walk ?_
        (first | (apply retRD1 (G := (IdeAt x L + F)) (.inr rfl) rfl; (· first | (refine rv_tmp (v := .bool _) rfl) | exact rv_tmp rfl); (· exact Ent.auto)) | (apply retRD1 (G := (IdeAt x L + F)) (.inl rfl) rfl; (· first | (refine rv_tmp (v := .bool _) rfl) | exact rv_tmp rfl); (· exact Ent.auto)))
        exact ⟨Ent.refl _, rfl⟩
    · rw [decide_eq_false ha, Bool.false_and]
      refine fn_intro 50 Tryz.func65 rfl rfl rfl ?_
      refine walk ?_
      refine s_box (cs := nv n) rfl rfl rfl ?_
      intro b
      refine walk ?_
      refine s_call rfl (tRow (p := L.q) (T := L.I.tab) ok hK) rfl ?_
      rintro r _ rfl
      refine WPL.shape ?_
      rintro ao cap rfl hl1 hl2 hl3
      refine WPL.rd fun rd => ?_
      rw [hR] at rd ⊢
      obtain ⟨ao', cap', hv, _, _, hcc⟩ := (by unfold Rd at rd; exact rd)
      obtain ⟨bb, o, rfl, hcs⟩ := Rd.addr (k := 0) (by rw [zs_length, Nat.mul_one]) hcc (by simp)
      cases hv
      have hcell := hcs.cell (j := 0) rfl
      simp only [List.length_cons] at hl1 hl2 ⊢
      refine walk ?_
      (refine wp_draw [] (.look 0 (.look 1 (.look 2 (.look 3 (.look 4 (.look 5 (.look 6 (.look 7 (.look 8 (.look 9 (.look 10 (.look 11 (.look 12 (.look 13 (.look 14 (.look 15 (.look 16 (.look 17 (.look 18 (.look 19 (.look 20 (.look 21 (.look 22 (.look 23 (.look 24 (.look 25 (.look 26 (.look 27 (.look 28 (.look 29 (.look 30 (.look 31 (.look 32 (.look 33 (.look 34 (.look 35 (.look 36 (.look 37 (.look 38 (.look 39 .nil)))))))))))))))))))))))))))))))))))))))) (by kernel_rfl) ?_; refine dwP ?_; refine dwP ?_; refine dwP ?_; refine dwL ?_; refine dwP ?_; refine dwL ?_; (apply dw_pure; (· exact rfl); (· exact rfl); (· (intro G; (first | (refine step_wanted rfl rfl ?_; (apply s_indexAddr (j := k) (o' := k * 4); (· exact rfl); (· exact rfl); (· omega); (· omega); (· omega); (· exact rfl))) | (apply s_indexAddr (j := k) (o' := k * 4); (· exact rfl); (· exact rfl); (· omega); (· omega); (· omega); (· exact rfl)) | skip); exact looked))); refine dwP ?_; refine dwP ?_; refine dwL ?_; refine dwP ?_; refine dwP ?_; refine dwP ?_; refine dwP ?_; refine dwP ?_; refine dwL ?_; refine dwP ?_; refine dwL ?_; (apply dw_pure; (· exact rfl); (· exact rfl); (· (intro G; (first | (refine step_wanted rfl rfl ?_; (apply s_indexAddr (j := k) (o' := k * 4); (· exact rfl); (· exact rfl); (· omega); (· omega); (· omega); (· exact rfl))) | (apply s_indexAddr (j := k) (o' := k * 4); (· exact rfl); (· exact rfl); (· omega); (· omega); (· omega); (· exact rfl)) | skip); exact looked))); refine dwP ?_; refine dwP ?_; refine dwL ?_; refine dwP ?_; refine dwL ?_; refine dwP ?_; refine dwP ?_; refine dwP ?_; refine dwP ?_; refine dwP ?_; refine dwP ?_; refine dwP ?_; refine dwP ?_; refine dwP ?_; (apply dw_pure; (· exact rfl); (· exact rfl); (· (intro G; (first | (refine step_wanted rfl rfl ?_; (apply s_indexAddr (j := 0) (o' := o); (· exact rfl); (· exact rfl); (· omega); (· omega); (· omega); (· exact rfl))) | (apply s_indexAddr (j := 0) (o' := o); (· exact rfl); (· exact rfl); (· omega); (· omega); (· omega); (· exact rfl)) | skip); exact looked))); refine dwL ?_; refine dwP ?_; refine dwL ?_; refine dwP ?_; refine dwP ?_; refine dwP ?_; refine dw_nil ?_)
      refine walk ?_
      (first | (apply retRD1 (G := (IdeAt x L + F)) (.inr rfl) rfl; (· first | (refine rv_tmp (v := .bool _) rfl) | exact rv_tmp rfl); (· exact Ent.auto)) | (apply retRD1 (G := (IdeAt x L + F)) (.inl rfl) rfl; (· first | (refine rv_tmp (v := .bool _) rfl) | exact rv_tmp rfl); (· exact Ent.auto)))
      exact ⟨Ent.refl _, rfl⟩
end
end Go.Proofs.YtlhnmbajbhaaoaaGreat
