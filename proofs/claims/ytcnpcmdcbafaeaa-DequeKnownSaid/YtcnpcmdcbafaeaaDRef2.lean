/- The document's rooms and moves, walked. No condition. -/
import Derived.Test.YtcnpcmdcbafaeaaDRef1
namespace Go.Proofs.Ytcnpcmdcbafaeaa
open Go Go.SL
set_option linter.unusedSimpArgs false
set_option linter.unusedVariables false
set_option maxRecDepth 10000
set_option maxHeartbeats 2000000
section
variable {P : Program} {B : World} {fn : Func} {R : Value → HProp → Prop} {e : Exit} {fr : Fr} {H : HProp}
theorem retR4 {r s t z : ResultVar} {v u x y : Value} (he : e = .normal ∨ e = .ret) (hr : fn.results = #[r, s, t, z]) (h1 : RV P B fr H r v) (h2 : RV P B fr H s u) (h3 : RV P B fr H t x) (h4 : RV P B fr H z y) (h : R (.tuple #[v, u, x, y]) H) (hds : fr.ds = [] := by rfl) : QRet P B fn R e fr H :=
  ⟨he, _, H, H, by rw [hds]; unfold marks; rw [HProp.emp_add]; exact Ent.refl _, fun a w ha hw => by rw [results_rv, hr]; simp [Array.mapM_eq_mapM_toList, h1 a w ha hw, h2 a w ha hw, h3 a w ha hw, h4 a w ha hw], Ent.refl _, h⟩
end
attribute [local irreducible] WP WPL QSeq QBlk QRet Does Cell Cells Rd Mine Ent Aside RV DqX DqAt Yield
section
variable {B : World} {F H G : HProp} {p : Nat} {x y L : List Int} {g : Int} {r : Value}
theorem rRoom2 {q : Int} : Does Try.prog B 37 [.int .i64 q] H fun r H' => H' = H ∧ r = .bool (decide (0 ≤ q) && isRoom q.toNat) := by
  refine Does.frame0 ?_
  refine fn_intro 11 Try.func37 rfl rfl rfl ?_
  refine walk ?_
  refine wp_loopR (α := Nat) [2, 3, 4, 5, 6, 7, 8, 9, 10] (fun k => [(3, .int .i64 k)]) (fun k => ∃ j, j ≤ 16 ∧ k = 2 ^ (j + 1) ∧ ∀ i, i < j → q ≠ ((2 ^ (i + 1) : Nat) : Int)) (fun k => 131073 - k) 2 agreed ⟨0, by omega, rfl, fun i h => absurd h (Nat.not_lt_zero i)⟩ ?_
  rintro k g0 ⟨j, hj, hk, hq⟩
  simp only [putAll]
  have hk17 : k ≤ 131072 := by rw [hk]; exact Nat.pow_le_pow_right (by omega) (show j + 1 ≤ 17 by omega)
  have hk2 : 2 ≤ k := by
    have := Nat.pow_le_pow_right (n := 2) (by omega) (show 1 ≤ j + 1 by omega)
    rw [Nat.pow_one, ← hk] at this
    exact this
  by_cases hle : k ≤ 65536
  · have hj15 : j ≤ 15 := by
      by_cases h : j = 16
      · subst h; omega
      · omega
    by_cases he : (k : Int) = q
    · refine walk ?_
      refine ret1 (v := .bool _) (.inr rfl) rfl rfl ⟨Ent.refl _, ?_⟩
      have h1 : isRoom q.toNat = true := by
        rw [← he, Int.toNat_natCast, hk]
        exact isRoom_pow (by omega) (by omega)
      rw [h1, decide_eq_true (show 0 ≤ q by omega)]
      rfl
    · refine walk ?_
      refine ⟨k * 2, asided, agreed, Ent.refl _, ⟨j + 1, by omega, by rw [hk]; exact (Nat.pow_succ ..).symm, fun i hi => ?_⟩, by omega⟩
      by_cases hij : i = j
      · subst hij
        rw [← hk]
        omega
      · exact hq i (by omega)
  · have hj16 : j = 16 := by
      by_cases h : j = 16
      · exact h
      · have : k ≤ 65536 := by rw [hk]; exact Nat.pow_le_pow_right (by omega) (show j + 1 ≤ 16 by omega)
        omega
    refine walk ?_
    refine ret1 (v := .bool _) (.inr rfl) rfl rfl ⟨Ent.refl _, ?_⟩
    congr 1
    symm
    rw [Bool.and_eq_false_iff]
    by_cases h0 : 0 ≤ q
    · right
      cases hr : isRoom q.toNat with
      | false => rfl
      | true =>
        obtain ⟨m, h1, h2, h3⟩ := room_pow hr
        have := hq (m - 1) (by omega)
        rw [show m - 1 + 1 = m by omega, ← h3] at this
        omega
    · left
      exact decide_eq_false h0
theorem rRoom {q : Int} : Does Try.prog B 19 [.int .i64 q] H fun r H' => H' = H ∧ r = .bool (decide (0 ≤ q) && isRoom q.toNat) := by
  refine fn_intro 5 Try.func19 rfl rfl rfl ?_
  refine walk ?_
  refine s_call rfl (rRoom2) rfl ?_
  rintro _ _ ⟨e_, rfl⟩
  obtain rfl := e_.symm
  refine walk ?_
  exact ret1 (v := .bool _) (.inr rfl) rfl rfl ⟨rfl, rfl⟩
/-- What the document's move does. -/
def moveQ (q2 : Nat) (L1 L2 : List Int) : List Int × List Int × Int × Bool :=
  match L1, L2 with
  | g :: rest, [] => ((g :: rest).drop (older (g :: rest)), (((g :: rest).take (older (g :: rest))).drop 1).take q2, g, true)
  | _, _ => (L1, L2, 0, false)
theorem rMove {q1 q2 : Nat} {L1 L2 : List Int} {r1 r2 : Value} (h1 : RefQ B G r1 q1 L1) (h2 : RefQ B G r2 q2 L2) [InH G H] (hq : q2 ≤ 65536) (hlen : L2.length ≤ q2) : Does Try.prog B 43 [r1, r2] H fun v H' =>
    ∃ X a b, H' = X + H ∧ v = .tuple #[a, b, .int .i64 (moveQ q2 L1 L2).2.2.1, .bool (moveQ q2 L1 L2).2.2.2] ∧ RefQ B (X + G) a q1 (moveQ q2 L1 L2).1 ∧ RefQ B (X + G) b q2 (moveQ q2 L1 L2).2.1 := by
  refine Does.weak (R := fun v H' => ∃ X a b, Ent H' (X + H) ∧ v = .tuple #[a, b, .int .i64 (moveQ q2 L1 L2).2.2.1, .bool (moveQ q2 L1 L2).2.2.2] ∧ RefQ B (X + G) a q1 (moveQ q2 L1 L2).1 ∧ RefQ B (X + G) b q2 (moveQ q2 L1 L2).2.1) ?_
    fun v H1 ⟨X, a, b, e, hv⟩ => ⟨X + H, e, X, a, b, rfl, hv⟩
  have h1' := h1
  have h2' := h2
  obtain ⟨ao, cap, rfl, hc, hm, hs⟩ := h1
  obtain ⟨bo, bcap, rfl, hbc, hbm, hbs⟩ := h2
  refine fn_intro 41 Try.func43 rfl rfl rfl ?_
  refine walk ?_
  refine s_box (cs := [.int .i64 q1, .slice ao L1.length cap]) rfl rfl rfl ?_
  intro b1
  refine s_box (cs := [.int .i64 q2, .slice bo L2.length bcap]) rfl rfl rfl ?_
  intro b2
  refine s_alloc rfl ?_
  intro b3
  refine walk ?_
  refine s_alloc rfl ?_
  intro b4
  by_cases hn1 : L1.length = 0
  · have e : moveQ q2 L1 L2 = (L1, L2, 0, false) := by
      cases L1 with
      | nil => rfl
      | cons y l => simp at hn1
    rw [e]
    refine walk ?_
    (refine wp_draw [2, 3] (.look 0 (.look 1 (.act 2 (.act 3 (.look 4 (.look 5 .nil)) .stop) .stop))) (by kernel_rfl) ?_; (apply dw_look; (· exact rfl); (· exact rfl); (· exact looked)); (apply dw_look; (· exact rfl); (· exact rfl); (· exact looked)); skip)
    refine dw_do0 rfl rfl ?_ dw_stop
    refine s_storeA (vs := [.int .i64 q1, .slice ao L1.length cap]) rfl rfl rfl rfl (Nat.le_refl _) rfl ?_
    refine wpl_nil (qone0 ⟨(by (refine st_again ?_ ?_; (· exact looked)); refine st_past (by kernel_rfl) ?_; exact st_nil), ?_⟩)
    (skip)
    refine dw_do0 rfl rfl ?_ dw_stop
    refine s_storeA (vs := [.int .i64 q2, .slice bo L2.length bcap]) rfl rfl rfl rfl (Nat.le_refl _) rfl ?_
    refine wpl_nil (qone0 ⟨(by refine st_past (by kernel_rfl) ?_; refine st_past (by kernel_rfl) ?_; exact st_nil), ?_⟩)
    ((apply dw_pure; (· exact rfl); (· exact rfl); (· (intro G; exact looked))); (apply dw_pure; (· exact rfl); (· exact rfl); (· (intro G; exact looked))); refine dw_nil ?_; skip)
    refine walk ?_
    refine retR4 (.inr rfl) rfl (rv_cellA rfl Cells.blk0 rfl) (rv_cellA rfl Cells.blk0 rfl) (rv_tmp (v := .int _ _) rfl) (rv_tmp (v := .bool _) rfl) ⟨emp, _, _, ?_, rfl, ?_, ?_⟩
    · rw [HProp.emp_add]
      exact Ent.auto
    · rw [HProp.emp_add]; exact h1'
    · rw [HProp.emp_add]; exact h2'
  · by_cases hn2 : L2.length = 0
    · obtain ⟨g, rest, hL⟩ : ∃ g rest, L1 = g :: rest := by
        cases L1 with
        | nil => simp at hn1
        | cons y l => exact ⟨y, l, rfl⟩
      have hL2 : L2 = [] := List.length_eq_zero_iff.1 hn2
      have e : moveQ q2 L1 L2 = (L1.drop (older L1), ((L1.take (older L1)).drop 1).take q2, g, true) := by
        rw [hL, hL2]; rfl
      rw [e]
      have ho1 : 1 ≤ older L1 ∧ older L1 ≤ L1.length := by unfold older; omega
      refine walk ?_
      refine s_call rfl (rSteal (G := G) h1') rfl ?_
      rintro _ _ ⟨rfl, r', ao', cap', rfl, hoc, hcap', hr', hrd⟩
      have hr'' := hr'
      obtain ⟨a3, c3, rfl, hc3, hm3, hs3⟩ := hr'
      have hrd' := hrd
      unfold Rd at hrd'
      obtain ⟨_, _, hv, hl3, _, ha3⟩ := hrd'
      cases hv
      obtain ⟨bm, om, rfl, hcm⟩ := Rd.addr hl3 ha3 (show 0 < older L1 by omega)
      have hg0 : (L1.take (older L1))[0]? = some g := by
        rw [List.getElem?_take_of_lt (show 0 < older L1 by omega)]
        generalize older L1 = m
        rw [hL]
        exact List.getElem?_cons_zero ..
      have hcell := hcm.cell (show (zs (L1.take (older L1)))[0]? = some (.int .i64 g) by unfold zs; rw [List.getElem?_map, hg0]; rfl)
      rw [Nat.add_zero] at hcell
      have hdr := Rd.sliceL 1 hrd (by omega) hoc
      rw [Nat.mul_one, zs_drop] at hdr
      have hml : older L1 - 1 = ((L1.take (older L1)).drop 1).length := by rw [List.length_drop, List.length_take]; omega
      generalize hMM : (L1.take (older L1)).drop 1 = M at hdr hml
      have hlay : ∀ {H : HProp} [InH G H], Does Try.prog B 40 [.agg [.int .i64 q2, .slice bo L2.length bcap].toArray, .slice (partAddr (some ⟨bm, om, none⟩) cap' 1 1) (older L1 - 1) (cap' - 1)] H fun v H' =>
          ∃ X r', H' = X + H ∧ v = .tuple #[r', .int .i64 (min (older L1 - 1) (q2 - L2.length) : Nat)] ∧ RefQ B (X + G) r' q2 (L2 ++ M.take (q2 - L2.length)) := by
        intro H _
        rw [hml] at hdr ⊢
        exact rLay (G := G) h2' hdr hq hlen (by omega)
      have eL : L2 ++ M.take (q2 - L2.length) = M.take q2 := by rw [hL2]; rfl
      rw [eL] at hlay
      refine walk ?_
      refine s_alloc rfl ?_
      intro b5
      refine walk ?_
      refine s_storeA (vs := [.int .i64 q1, .slice a3 (L1.drop (older L1)).length c3]) rfl rfl rfl rfl (Nat.le_refl _) rfl ?_
      refine walk ?_
      (refine wp_draw [3, 7, 8] (.look 0 (.look 1 (.look 2 (.act 3 (.look 4 (.look 5 (.look 6 (.act 7 (.act 8 (.look 9 .nil) .stop) .stop)))) (.act 7 (.act 3 (.look 4 (.look 5 (.look 6 (.act 8 (.look 9 .nil) .stop)))) .stop) .stop))))) (by kernel_rfl) ?_; (apply dw_look; (· exact rfl); (· exact rfl); (· exact looked)); (apply dw_pure; (· exact rfl); (· exact rfl); (· (intro G; exact looked))); (apply dw_pure; (· exact rfl); (· exact rfl); (· (intro G; (apply s_sliceL (l := 1); (· exact rfl); (· exact rfl); (· omega); (· omega); (· exact rfl)); exact looked))); skip)
      refine dw_do rfl rfl ?_ (dw_do rfl rfl ?_ dw_stop)
      · skip
        refine s_call rfl hlay rfl ?_
        rintro _ _ ⟨X, r3, rfl, rfl, hr3⟩
        obtain ⟨a4, c4, rfl, hc4, hm4, hs4⟩ := hr3
        refine wpl_nil (qone ⟨(by refine st_past (by kernel_rfl) ?_; exact st_nil), ?_⟩)
        ((apply dw_pure; (· exact rfl); (· exact rfl); (· (intro G; exact looked))); (apply dw_pure; (· exact rfl); (· exact rfl); (· (intro G; exact looked))); (apply dw_pure; (· exact rfl); (· exact rfl); (· (intro G; exact looked))); skip)
        refine dw_do rfl rfl ?_ dw_stop
        refine s_alloc rfl ?_
        intro b6
        refine wpl_nil (qone ⟨(by (refine st_again ?_ ?_; (· exact looked)); exact st_nil), ?_⟩)
        (skip)
        refine dw_do0 rfl rfl ?_ dw_stop
        refine s_storeA (vs := [.int .i64 q2, .slice a4 (M.take q2).length c4]) rfl rfl rfl rfl (Nat.le_refl _) rfl ?_
        refine wpl_nil (qone0 ⟨(by refine st_past (by kernel_rfl) ?_; exact st_nil), ?_⟩)
        ((apply dw_pure; (· exact rfl); (· exact rfl); (· (intro G; exact looked))); refine dw_nil ?_; skip)
        refine walk ?_
        (refine wp_draw [5, 6] (.look 0 (.look 1 (.look 2 (.look 3 (.look 4 (.act 5 (.act 6 (.look 7 (.look 8 .nil)) .stop) .stop)))))) (by kernel_rfl) ?_; (apply dw_look; (· exact rfl); (· exact rfl); (· exact looked)); (apply dw_look; (· exact rfl); (· exact rfl); (· exact looked)); (apply dw_pure; (· exact rfl); (· exact rfl); (· (intro G; exact looked))); (apply dw_pure; (· exact rfl); (· exact rfl); (· (intro G; (apply s_indexAddr (j := 0) (o' := om); (· exact rfl); (· exact rfl); (· omega); (· omega); (· omega); (· exact rfl)); exact looked))); (apply dw_look; (· exact rfl); (· exact rfl); (· exact looked)); skip)
        refine dw_do0 rfl rfl ?_ dw_stop
        refine s_storeA (vs := [.int .i64 q1, .slice a3 (L1.drop (older L1)).length c3]) rfl rfl rfl rfl (Nat.le_refl _) rfl ?_
        refine wpl_nil (qone0 ⟨(by (refine st_again ?_ ?_; (· exact looked)); (refine st_again ?_ ?_; (· exact looked)); refine st_past (by kernel_rfl) ?_; exact st_nil), ?_⟩)
        (skip)
        refine dw_do0 rfl rfl ?_ dw_stop
        refine s_storeA (vs := [.int .i64 q2, .slice a4 (M.take q2).length c4]) rfl rfl rfl rfl (Nat.le_refl _) rfl ?_
        refine wpl_nil (qone0 ⟨(by (refine st_again ?_ ?_; (· exact looked)); refine st_past (by kernel_rfl) ?_; refine st_past (by kernel_rfl) ?_; exact st_nil), ?_⟩)
        ((apply dw_pure; (· exact rfl); (· exact rfl); (· (intro G; exact looked))); (apply dw_pure; (· exact rfl); (· exact rfl); (· (intro G; exact looked))); refine dw_nil ?_; skip)
        refine walk ?_
        refine retR4 (.inr rfl) rfl (rv_cellA rfl Cells.blk0 rfl) (rv_cellA rfl Cells.blk0 rfl) (rv_tmp (v := .int _ _) rfl) (rv_tmp (v := .bool _) rfl) ⟨X, _, _, ?_, rfl, hr''.ent (Ent.drop_left _ _), a4, c4, rfl, hc4, hm4, hs4⟩
        exact Ent.auto
      · skip
        refine s_alloc rfl ?_
        intro b6
        refine wpl_nil (qone ⟨(by (refine st_again ?_ ?_; (· exact looked)); exact st_nil), ?_⟩)
        (skip)
        refine dw_do rfl rfl ?_ dw_stop
        refine s_call rfl hlay rfl ?_
        rintro _ _ ⟨X, r3, rfl, rfl, hr3⟩
        obtain ⟨a4, c4, rfl, hc4, hm4, hs4⟩ := hr3
        refine wpl_nil (qone ⟨(by refine st_past (by kernel_rfl) ?_; exact st_nil), ?_⟩)
        ((apply dw_pure; (· exact rfl); (· exact rfl); (· (intro G; exact looked))); (apply dw_pure; (· exact rfl); (· exact rfl); (· (intro G; exact looked))); (apply dw_pure; (· exact rfl); (· exact rfl); (· (intro G; exact looked))); skip)
        refine dw_do0 rfl rfl ?_ dw_stop
        refine s_storeA (vs := [.int .i64 q2, .slice a4 (M.take q2).length c4]) rfl rfl rfl rfl (Nat.le_refl _) rfl ?_
        refine wpl_nil (qone0 ⟨(by refine st_past (by kernel_rfl) ?_; exact st_nil), ?_⟩)
        ((apply dw_pure; (· exact rfl); (· exact rfl); (· (intro G; exact looked))); refine dw_nil ?_; skip)
        refine walk ?_
        (refine wp_draw [5, 6] (.look 0 (.look 1 (.look 2 (.look 3 (.look 4 (.act 5 (.act 6 (.look 7 (.look 8 .nil)) .stop) .stop)))))) (by kernel_rfl) ?_; (apply dw_look; (· exact rfl); (· exact rfl); (· exact looked)); (apply dw_look; (· exact rfl); (· exact rfl); (· exact looked)); (apply dw_pure; (· exact rfl); (· exact rfl); (· (intro G; exact looked))); (apply dw_pure; (· exact rfl); (· exact rfl); (· (intro G; (apply s_indexAddr (j := 0) (o' := om); (· exact rfl); (· exact rfl); (· omega); (· omega); (· omega); (· exact rfl)); exact looked))); (apply dw_look; (· exact rfl); (· exact rfl); (· exact looked)); skip)
        refine dw_do0 rfl rfl ?_ dw_stop
        refine s_storeA (vs := [.int .i64 q1, .slice a3 (L1.drop (older L1)).length c3]) rfl rfl rfl rfl (Nat.le_refl _) rfl ?_
        refine wpl_nil (qone0 ⟨(by (refine st_again ?_ ?_; (· exact looked)); (refine st_again ?_ ?_; (· exact looked)); refine st_past (by kernel_rfl) ?_; exact st_nil), ?_⟩)
        (skip)
        refine dw_do0 rfl rfl ?_ dw_stop
        refine s_storeA (vs := [.int .i64 q2, .slice a4 (M.take q2).length c4]) rfl rfl rfl rfl (Nat.le_refl _) rfl ?_
        refine wpl_nil (qone0 ⟨(by (refine st_again ?_ ?_; (· exact looked)); refine st_past (by kernel_rfl) ?_; refine st_past (by kernel_rfl) ?_; exact st_nil), ?_⟩)
        ((apply dw_pure; (· exact rfl); (· exact rfl); (· (intro G; exact looked))); (apply dw_pure; (· exact rfl); (· exact rfl); (· (intro G; exact looked))); refine dw_nil ?_; skip)
        refine walk ?_
        refine retR4 (.inr rfl) rfl (rv_cellA rfl Cells.blk0 rfl) (rv_cellA rfl Cells.blk0 rfl) (rv_tmp (v := .int _ _) rfl) (rv_tmp (v := .bool _) rfl) ⟨X, _, _, ?_, rfl, hr''.ent (Ent.drop_left _ _), a4, c4, rfl, hc4, hm4, hs4⟩
        exact Ent.auto
    · have e : moveQ q2 L1 L2 = (L1, L2, 0, false) := by
        cases L1 with
        | nil => rfl
        | cons y l =>
          cases L2 with
          | nil => simp at hn2
          | cons z m => rfl
      rw [e]
      refine walk ?_
      (refine wp_draw [2, 3] (.look 0 (.look 1 (.act 2 (.act 3 (.look 4 (.look 5 .nil)) .stop) .stop))) (by kernel_rfl) ?_; (apply dw_look; (· exact rfl); (· exact rfl); (· exact looked)); (apply dw_look; (· exact rfl); (· exact rfl); (· exact looked)); skip)
      refine dw_do0 rfl rfl ?_ dw_stop
      refine s_storeA (vs := [.int .i64 q1, .slice ao L1.length cap]) rfl rfl rfl rfl (Nat.le_refl _) rfl ?_
      refine wpl_nil (qone0 ⟨(by (refine st_again ?_ ?_; (· exact looked)); refine st_past (by kernel_rfl) ?_; exact st_nil), ?_⟩)
      (skip)
      refine dw_do0 rfl rfl ?_ dw_stop
      refine s_storeA (vs := [.int .i64 q2, .slice bo L2.length bcap]) rfl rfl rfl rfl (Nat.le_refl _) rfl ?_
      refine wpl_nil (qone0 ⟨(by refine st_past (by kernel_rfl) ?_; refine st_past (by kernel_rfl) ?_; exact st_nil), ?_⟩)
      ((apply dw_pure; (· exact rfl); (· exact rfl); (· (intro G; exact looked))); (apply dw_pure; (· exact rfl); (· exact rfl); (· (intro G; exact looked))); refine dw_nil ?_; skip)
      refine walk ?_
      refine retR4 (.inr rfl) rfl (rv_cellA rfl Cells.blk0 rfl) (rv_cellA rfl Cells.blk0 rfl) (rv_tmp (v := .int _ _) rfl) (rv_tmp (v := .bool _) rfl) ⟨emp, _, _, ?_, rfl, ?_, ?_⟩
      · rw [HProp.emp_add]
        exact Ent.auto
      · rw [HProp.emp_add]; exact h1'
      · rw [HProp.emp_add]; exact h2'
end
end Go.Proofs.Ytcnpcmdcbafaeaa
