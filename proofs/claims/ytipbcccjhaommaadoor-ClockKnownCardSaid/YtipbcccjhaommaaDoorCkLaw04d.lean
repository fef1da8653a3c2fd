/- Whatever is done to a clock. No condition. -/
import Derived.Test.YtipbcccjhaommaaDoorCkLaw04c
namespace Go.Proofs.YtipbcccjhaommaaDoor
open Go Go.SL Go.SL.Flo
set_option linter.unusedSimpArgs false
set_option linter.unusedVariables false
set_option maxRecDepth 10000
set_option maxHeartbeats 4000000
def actV (a : Act) : Value := .agg #[.int .i64 a.k, .int .i64 a.n, a.s]
theorem step_add {c : Clk} {a : Act} (h : a.k = 0 ∨ a.k = 1) : (if a.n < 0 then c else addC c a.n) = stepC c a := by
  unfold stepC; rw [if_pos h]
theorem step_now {c : Clk} {a : Act} (h : a.k = 0 ∨ a.k = 1) : (if a.n < 0 then c.now else sumI [c.now, a.n]) = (stepC c a).now := by
  rw [← step_add h]
  split <;> rfl
theorem step_mil {c : Clk} {a : Act} (h : a.k = 2) : (milGo c 0 a.fs).1 = stepC c a := by
  unfold stepC; rw [if_neg (by omega), if_pos h]
theorem step_mark {c : Clk} {a : Act} (h : a.k = 3) : markC c = stepC c a := by
  unfold stepC; rw [if_neg (by omega), if_neg (by omega), if_pos h]
theorem step_none {c : Clk} {a : Act} (h0 : a.k ≠ 0) (h1 : a.k ≠ 1) (h2 : a.k ≠ 2) (h3 : a.k ≠ 3) : stepC c a = c := by
  unfold stepC; rw [if_neg (by omega), if_neg (by omega), if_neg (by omega)]
attribute [local irreducible] WP WPL QSeq QBlk QRet Does Cell Cells Rd Mine Ent Aside RV e0 Slid QScp ClkAt sumI clampI sinceC markC addC milGo stepC
section
variable {B : World} {F H : HProp} {b : Nat} {n t d now : Int} {c : Clk} {s : Value} {ao : Option Addr} {cap m : Nat} {l : List Act} {a : Act}
theorem does_add (h : a.k = 0 ∨ a.k = 1) [i : HasAt ClkAt H b c F] :
    Does Tryd.prog B 17 [.pointer (some ⟨b, 0, none⟩), rC c.now (.slice ao m cap), actV a] H fun r H' => H' = ClkAt b (stepC c a) + F ∧ r = .tuple #[rC (stepC c a).now (.slice ao m cap), .bool true] := by
  have e2 := step_now (c := c) h
  have e1 := step_add (c := c) h
  unfold actV rC
  rcases h with h | h
  · generalize hkk : a.k = kk at *
    subst h
    refine fn_intro 73 Tryd.func17 rfl rfl rfl ?_
    refine walk ?_
    refine s_box (cs := [.int .i64 c.now, .slice ao m cap]) rfl rfl rfl ?_
    intro b1
    refine s_box (cs := [.int .i64 _, .int .i64 a.n, a.s]) rfl rfl rfl ?_
    intro b2
    refine s_alloc rfl ?_
    intro b3
    refine walk ?_
    refine s_call rfl (rAdd (now := c.now) (ao := ao) (m := m) (cap := cap) (n := a.n)) rfl ?_
    rintro _ _ ⟨e_, rfl⟩
    obtain rfl := e_.symm
    rw [e2]
    unfold rC
    refine walk ?_
    refine s_alloc rfl ?_
    intro b4
    refine walk ?_
    refine s_storeV (vs := [.int .i64 (stepC c a).now, .slice ao m cap]) rfl rfl rfl rfl rfl ?_
    refine walk ?_
    (refine wp_draw [4, 7] (.look 0 (.look 1 (.look 2 (.look 3 (.look 5 (.act 4 (.look 6 (.act 7 (.look 8 .nil) .stop)) .stop)))))) (by kernel_rfl) ?_; (apply dw_look; (· exact rfl); (· exact rfl); (· (exact looked))); (apply dw_pure; (· exact rfl); (· exact rfl); (· (intro G; exact looked))); (apply dw_pure; (· exact rfl); (· exact rfl); (· (intro G; exact looked))); (apply dw_look; (· exact rfl); (· exact rfl); (· (exact looked))); (apply dw_pure; (· exact rfl); (· exact rfl); (· (intro G; exact looked))); skip)
    refine dw_do rfl rfl ?_ dw_stop
    refine s_call rfl (cAddE (b := b) (c := c) (n := a.n) (x := stepC c a) (e := if a.n < 0 then 2 else 0) e1 rfl) rfl ?_
    rintro _ _ ⟨rfl, rfl⟩
    refine wpl_nil (qone ⟨(by refine st_past (by kernel_rfl) ?_; (refine st_again ?_ ?_; (· exact looked)); exact st_nil), ?_⟩)
    ((apply dw_pure; (· exact rfl); (· exact rfl); (· (intro G; exact looked))); skip)
    refine dw_do0 rfl rfl ?_ dw_stop
    refine s_storeV (vs := [.int .i64 (stepC c a).now, .slice ao m cap]) rfl rfl rfl rfl rfl ?_
    refine wpl_nil (qone0 ⟨(by refine st_past (by kernel_rfl) ?_; refine st_past (by kernel_rfl) ?_; exact st_nil), ?_⟩)
    ((apply dw_pure; (· exact rfl); (· exact rfl); (· (intro G; exact looked))); refine dw_nil ?_; skip)
    refine walk ?_
    (first | (apply retRD2 (G := ClkAt b (stepC c a) + F) (.inr rfl) rfl; (· first | (refine rv_cell (v := .agg _) rfl (Cell.blk rfl)) | exact rv_cellA rfl Cells.blk0 rfl | (apply rv_cell; (· exact rfl); (· assumption)) | (apply rv_cellA; (· exact rfl); (· assumption); (· exact rfl))); (· first | (refine rv_tmp (v := .bool _) rfl) | exact rv_tmp rfl); (· exact Ent.auto)) | (apply retRD2 (G := ClkAt b (stepC c a) + F) (.inl rfl) rfl; (· first | (refine rv_cell (v := .agg _) rfl (Cell.blk rfl)) | exact rv_cellA rfl Cells.blk0 rfl | (apply rv_cell; (· exact rfl); (· assumption)) | (apply rv_cellA; (· exact rfl); (· assumption); (· exact rfl))); (· first | (refine rv_tmp (v := .bool _) rfl) | exact rv_tmp rfl); (· exact Ent.auto)))
    exact ⟨rfl, rfl⟩
  · generalize hkk : a.k = kk at *
    subst h
    refine fn_intro 73 Tryd.func17 rfl rfl rfl ?_
    refine walk ?_
    refine s_box (cs := [.int .i64 c.now, .slice ao m cap]) rfl rfl rfl ?_
    intro b1
    refine s_box (cs := [.int .i64 _, .int .i64 a.n, a.s]) rfl rfl rfl ?_
    intro b2
    refine s_alloc rfl ?_
    intro b3
    refine walk ?_
    refine s_call rfl (rAdd (now := c.now) (ao := ao) (m := m) (cap := cap) (n := a.n)) rfl ?_
    rintro _ _ ⟨e_, rfl⟩
    obtain rfl := e_.symm
    rw [e2]
    unfold rC
    refine walk ?_
    refine s_alloc rfl ?_
    intro b4
    refine walk ?_
    refine s_storeV (vs := [.int .i64 (stepC c a).now, .slice ao m cap]) rfl rfl rfl rfl rfl ?_
    refine walk ?_
    (refine wp_draw [4, 7] (.look 0 (.look 1 (.look 2 (.look 3 (.look 5 (.act 4 (.look 6 (.act 7 (.look 8 .nil) .stop)) .stop)))))) (by kernel_rfl) ?_; (apply dw_look; (· exact rfl); (· exact rfl); (· (exact looked))); (apply dw_pure; (· exact rfl); (· exact rfl); (· (intro G; exact looked))); (apply dw_pure; (· exact rfl); (· exact rfl); (· (intro G; exact looked))); (apply dw_look; (· exact rfl); (· exact rfl); (· (exact looked))); (apply dw_pure; (· exact rfl); (· exact rfl); (· (intro G; exact looked))); skip)
    refine dw_do rfl rfl ?_ dw_stop
    refine s_call rfl (cAddE (b := b) (c := c) (n := a.n) (x := stepC c a) (e := if a.n < 0 then 2 else 0) e1 rfl) rfl ?_
    rintro _ _ ⟨rfl, rfl⟩
    refine wpl_nil (qone ⟨(by refine st_past (by kernel_rfl) ?_; (refine st_again ?_ ?_; (· exact looked)); exact st_nil), ?_⟩)
    ((apply dw_pure; (· exact rfl); (· exact rfl); (· (intro G; exact looked))); skip)
    refine dw_do0 rfl rfl ?_ dw_stop
    refine s_storeV (vs := [.int .i64 (stepC c a).now, .slice ao m cap]) rfl rfl rfl rfl rfl ?_
    refine wpl_nil (qone0 ⟨(by refine st_past (by kernel_rfl) ?_; refine st_past (by kernel_rfl) ?_; exact st_nil), ?_⟩)
    ((apply dw_pure; (· exact rfl); (· exact rfl); (· (intro G; exact looked))); refine dw_nil ?_; skip)
    refine walk ?_
    (first | (apply retRD2 (G := ClkAt b (stepC c a) + F) (.inr rfl) rfl; (· first | (refine rv_cell (v := .agg _) rfl (Cell.blk rfl)) | exact rv_cellA rfl Cells.blk0 rfl | (apply rv_cell; (· exact rfl); (· assumption)) | (apply rv_cellA; (· exact rfl); (· assumption); (· exact rfl))); (· first | (refine rv_tmp (v := .bool _) rfl) | exact rv_tmp rfl); (· exact Ent.auto)) | (apply retRD2 (G := ClkAt b (stepC c a) + F) (.inl rfl) rfl; (· first | (refine rv_cell (v := .agg _) rfl (Cell.blk rfl)) | exact rv_cellA rfl Cells.blk0 rfl | (apply rv_cell; (· exact rfl); (· assumption)) | (apply rv_cellA; (· exact rfl); (· assumption); (· exact rfl))); (· first | (refine rv_tmp (v := .bool _) rfl) | exact rv_tmp rfl); (· exact Ent.auto)))
    exact ⟨rfl, rfl⟩
theorem does_none (h0 : a.k ≠ 0) (h1 : a.k ≠ 1) (h2 : a.k ≠ 2) (h3 : a.k ≠ 3) [i : HasAt ClkAt H b c F] :
    Does Tryd.prog B 17 [.pointer (some ⟨b, 0, none⟩), rC c.now (.slice ao m cap), actV a] H fun r H' => H' = ClkAt b (stepC c a) + F ∧ r = .tuple #[rC (stepC c a).now (.slice ao m cap), .bool true] := by
  rw [step_none h0 h1 h2 h3, ← i.eq]
  unfold actV rC
  refine fn_intro 73 Tryd.func17 rfl rfl rfl ?_
  refine walk ?_
  refine s_box (cs := [.int .i64 c.now, .slice ao m cap]) rfl rfl rfl ?_
  intro b1
  refine s_box (cs := [.int .i64 a.k, .int .i64 a.n, a.s]) rfl rfl rfl ?_
  intro b2
  refine s_alloc rfl ?_
  intro b3
  refine walk ?_
  refine s_storeV (vs := [.int .i64 c.now, .slice ao m cap]) rfl rfl rfl rfl rfl ?_
  refine walk ?_
  (first | (apply retRD2 (G := H) (.inr rfl) rfl; (· first | (refine rv_cell (v := .agg _) rfl (Cell.blk rfl)) | exact rv_cellA rfl Cells.blk0 rfl | (apply rv_cell; (· exact rfl); (· assumption)) | (apply rv_cellA; (· exact rfl); (· assumption); (· exact rfl))); (· first | (refine rv_tmp (v := .bool _) rfl) | exact rv_tmp rfl); (· exact Ent.auto)) | (apply retRD2 (G := H) (.inl rfl) rfl; (· first | (refine rv_cell (v := .agg _) rfl (Cell.blk rfl)) | exact rv_cellA rfl Cells.blk0 rfl | (apply rv_cell; (· exact rfl); (· assumption)) | (apply rv_cellA; (· exact rfl); (· assumption); (· exact rfl))); (· first | (refine rv_tmp (v := .bool _) rfl) | exact rv_tmp rfl); (· exact Ent.auto)))
  exact ⟨rfl, rfl⟩
theorem does_mil (h : a.k = 2) (hs : Rd B F 1 a.s a.fs.length (a.fs.map flt)) (hf : ∀ f ∈ a.fs, f < 2 ^ 64) (hl : a.fs.length ≤ 20) [i : HasAt ClkAt H b c F] :
    Does Tryd.prog B 17 [.pointer (some ⟨b, 0, none⟩), rC c.now (.slice ao m cap), actV a] H fun r H' => H' = ClkAt b (stepC c a) + F ∧ r = .tuple #[rC (stepC c a).now (.slice ao m cap), .bool true] := by
  have e1 := step_mil (c := c) h
  unfold actV rC
  generalize hkk : a.k = kk at *
  subst h
  generalize a.s = s at *
  generalize a.fs = fs at *
  obtain ⟨sa, sc, hsv⟩ : ∃ sa sc, s = .slice sa fs.length sc := by
    have := hs
    unfold Rd at this
    obtain ⟨sa, sc, e, _⟩ := this
    exact ⟨sa, sc, e⟩
  subst hsv
  have hsH : Rd B H 1 (.slice sa fs.length sc) fs.length (fs.map flt) := by rw [i.eq]; exact hs.ent InH.ent
  have hm : milGo c 0 fs = (stepC c a, (milGo c 0 fs).2.1, (milGo c 0 fs).2.2) := by rw [← e1]
  generalize hx : (milGo c 0 fs).2.1 = x at *
  generalize hy : (milGo c 0 fs).2.2 = y at *
  refine fn_intro 73 Tryd.func17 rfl rfl rfl ?_
  refine walk ?_
  refine s_box (cs := [.int .i64 c.now, .slice ao m cap]) rfl rfl rfl ?_
  intro b1
  refine s_box (cs := [.int .i64 2, .int .i64 a.n, .slice sa fs.length sc]) rfl rfl rfl ?_
  intro b2
  refine s_alloc rfl ?_
  intro b3
  refine walk ?_
  refine s_call rfl (rMillis (c := c) (ao := ao) (m := m) (cap := cap) (hsH.ent InH.ent) hf (by omega)) rfl ?_
  rintro _ _ ⟨e_, rfl⟩
  obtain rfl := e_.symm
  rw [hm]
  unfold rC
  dsimp only
  refine walk ?_
  refine s_alloc rfl ?_
  intro b4
  refine walk ?_
  refine s_storeV (vs := [.int .i64 (stepC c a).now, .slice ao m cap]) rfl rfl rfl rfl rfl ?_
  refine walk ?_
  refine s_call rfl (cMillisE (b := b) (c := c) hm (hs.ent InH.ent) hf (by omega)) rfl ?_
  rintro _ _ ⟨rfl, rfl⟩
  refine walk ?_
  refine s_storeV (vs := [.int .i64 (stepC c a).now, .slice ao m cap]) rfl rfl rfl rfl rfl ?_
  refine walk ?_
  (first | (apply retRD2 (G := ClkAt b (stepC c a) + F) (.inr rfl) rfl; (· first | (refine rv_cell (v := .agg _) rfl (Cell.blk rfl)) | exact rv_cellA rfl Cells.blk0 rfl | (apply rv_cell; (· exact rfl); (· assumption)) | (apply rv_cellA; (· exact rfl); (· assumption); (· exact rfl))); (· first | (refine rv_tmp (v := .bool _) rfl) | exact rv_tmp rfl); (· exact Ent.auto)) | (apply retRD2 (G := ClkAt b (stepC c a) + F) (.inl rfl) rfl; (· first | (refine rv_cell (v := .agg _) rfl (Cell.blk rfl)) | exact rv_cellA rfl Cells.blk0 rfl | (apply rv_cell; (· exact rfl); (· assumption)) | (apply rv_cellA; (· exact rfl); (· assumption); (· exact rfl))); (· first | (refine rv_tmp (v := .bool _) rfl) | exact rv_tmp rfl); (· exact Ent.auto)))
  exact ⟨rfl, rfl⟩
theorem does_mark (h : a.k = 3) (hA : AInv c) (hs : Rd B H 1 s c.laps.length (zs c.laps)) [i : HasAt ClkAt H b c F] :
    Does Tryd.prog B 17 [.pointer (some ⟨b, 0, none⟩), rC c.now s, actV a] H fun r H' => ∃ ao cap, r = .tuple #[rC (stepC c a).now (.slice ao (stepC c a).laps.length cap), .bool true] ∧
      H' = Slid 2 (.slice ao (stepC c a).laps.length cap) (stepC c a).laps.length (zs (stepC c a).laps) + (ClkAt b (stepC c a) + F) := by
  have e1 := step_mark (c := c) h
  have en : (stepC c a).now = c.now := by rw [← e1]; unfold markC; rfl
  rw [en, ← e1]
  have hn := hA.n
  have hs' := hs
  unfold Rd at hs'
  obtain ⟨ao, cap, rfl, hsl, hsm, hsa⟩ := hs'
  unfold actV rC
  generalize hkk : a.k = kk at *
  subst h
  refine fn_intro 73 Tryd.func17 rfl rfl rfl ?_
  refine walk ?_
  refine s_box (cs := [.int .i64 c.now, .slice ao c.laps.length cap]) rfl rfl rfl ?_
  intro b1
  refine s_box (cs := [.int .i64 3, .int .i64 a.n, a.s]) rfl rfl rfl ?_
  intro b2
  refine s_alloc rfl ?_
  intro b3
  refine walk ?_
  refine s_call rfl (rMark (c := c) (hs.ent InH.ent) (by omega)) rfl ?_
  rintro _ _ ⟨a2, c2, rfl, rfl⟩
  unfold rC
  refine walk ?_
  refine s_alloc rfl ?_
  intro b4
  refine walk ?_
  refine s_storeV (vs := [.int .i64 c.now, .slice a2 (markC c).laps.length c2]) rfl rfl rfl rfl rfl ?_
  refine walk ?_
  (refine wp_draw [2, 7] (.look 0 (.look 1 (.look 3 (.look 4 (.look 5 (.act 2 (.look 6 (.act 7 (.look 8 .nil) .stop)) .stop)))))) (by kernel_rfl) ?_; (apply dw_look; (· exact rfl); (· exact rfl); (· (exact looked))); (apply dw_pure; (· exact rfl); (· exact rfl); (· (intro G; exact looked))); (apply dw_pure; (· exact rfl); (· exact rfl); (· (intro G; exact looked))); (apply dw_look; (· exact rfl); (· exact rfl); (· (exact looked))); (apply dw_pure; (· exact rfl); (· exact rfl); (· (intro G; exact looked))); skip)
  refine dw_do rfl rfl ?_ dw_stop
  refine s_call rfl (cMark (b := b) (c := c) (by omega)) rfl ?_
  rintro _ _ ⟨rfl, rfl⟩
  refine wpl_nil (qone ⟨(by (refine st_again ?_ ?_; (· exact looked)); (refine st_again ?_ ?_; (· exact looked)); exact st_nil), ?_⟩)
  ((apply dw_pure; (· exact rfl); (· exact rfl); (· (intro G; exact looked))); skip)
  refine dw_do0 rfl rfl ?_ dw_stop
  refine s_storeV (vs := [.int .i64 c.now, .slice a2 (markC c).laps.length c2]) rfl rfl rfl rfl rfl ?_
  refine wpl_nil (qone0 ⟨(by (refine st_again ?_ ?_; (· exact looked)); refine st_past (by kernel_rfl) ?_; exact st_nil), ?_⟩)
  ((apply dw_pure; (· exact rfl); (· exact rfl); (· (intro G; exact looked))); refine dw_nil ?_; skip)
  refine walk ?_
  (first | (apply retRD2 (G := Slid 2 (.slice a2 (markC c).laps.length c2) (markC c).laps.length (zs (markC c).laps) + (ClkAt b (markC c) + F)) (.inr rfl) rfl; (· first | (refine rv_cell (v := .agg _) rfl (Cell.blk rfl)) | exact rv_cellA rfl Cells.blk0 rfl | (apply rv_cell; (· exact rfl); (· assumption)) | (apply rv_cellA; (· exact rfl); (· assumption); (· exact rfl))); (· first | (refine rv_tmp (v := .bool _) rfl) | exact rv_tmp rfl); (· exact Ent.auto)) | (apply retRD2 (G := Slid 2 (.slice a2 (markC c).laps.length c2) (markC c).laps.length (zs (markC c).laps) + (ClkAt b (markC c) + F)) (.inl rfl) rfl; (· first | (refine rv_cell (v := .agg _) rfl (Cell.blk rfl)) | exact rv_cellA rfl Cells.blk0 rfl | (apply rv_cell; (· exact rfl); (· assumption)) | (apply rv_cellA; (· exact rfl); (· assumption); (· exact rfl))); (· first | (refine rv_tmp (v := .bool _) rfl) | exact rv_tmp rfl); (· exact Ent.auto)))
  exact ⟨_, _, rfl, rfl⟩
theorem plays_law (T : Tab B) (hs : Rd B H 3 s l.length (actsC l)) (hl : ∀ a ∈ l, Rd B H 1 a.s a.fs.length (a.fs.map flt) ∧ ∀ f ∈ a.fs, f < 2 ^ 64) (ht : t < 9223372036854775808) :
    Does Tryd.prog B 4 [s, .int .i64 t, .int .i64 d] H fun r H' => H' = H ∧ r = .bool true := by
  refine Does.frame0 ?_
  have hs' := hs
  unfold Rd at hs'
  obtain ⟨ao, cap, rfl, hsl, hsm, hsa⟩ := hs'
  unfold maxLen at hsm
  refine fn_intro 60 Tryd.func4 rfl rfl rfl ?_
  refine walk ?_
  refine s_call rfl (few_spec (l := l) (most := 100) (by omega) hs (fun a ha => (hl a ha).1)) rfl ?_
  rintro _ _ ⟨e_, x, rfl, hx⟩
  obtain rfl := e_.symm
  cases x
  · refine walk ?_
    refine s_call rfl (works_spec T) rfl ?_
    rintro _ _ ⟨e_, rfl⟩
    obtain rfl := e_.symm
    refine walk ?_
    (first | (apply retRD1 (G := H) (.inr rfl) rfl; (· first | (refine rv_tmp (v := .bool _) rfl) | exact rv_tmp rfl); (· exact Ent.auto)) | (apply retRD1 (G := H) (.inl rfl) rfl; (· first | (refine rv_tmp (v := .bool _) rfl) | exact rv_tmp rfl); (· exact Ent.auto)))
    exact ⟨Ent.refl _, rfl⟩
  obtain ⟨hl1, hl2⟩ := hx rfl
  refine walk ?_
  refine s_alloc rfl ?_
  intro b1
  refine walk ?_
  refine s_alloc rfl ?_
  intro b2
  refine WPL.ent (G := Slid 2 (.slice none 0 0) 0 [] + (ClkAt b1 ⟨0, []⟩ + (blk b2 [.int .i64 0, .slice none 0 0] 41 + H))) (by rw [Slid.nil, HProp.emp_add, HProp.add_left_comm]; exact clk_new) ?_
  refine walk ?_
  refine wp_loopF (α := Nat × Clk × Option Addr × Nat) [6, 9, 10, 11, 12, 13, 18, 19, 20, 21, 22, 23, 24, 25, 26, 27, 28, 29, 30, 31, 32, 33, 34, 35, 36, 37, 38, 39, 40, 41, 42, 43, 44, 45, 46, 47, 48, 49, 50, 51, 52] (fun x => [(9, .int .i64 x.1)])
    (fun x => Slid 2 (.slice x.2.2.1 x.2.1.laps.length x.2.2.2) x.2.1.laps.length (zs x.2.1.laps) + (ClkAt b1 x.2.1 + (blk b2 [.int .i64 x.2.1.now, .slice x.2.2.1 x.2.1.laps.length x.2.2.2] 41 + H)))
    (fun x => x.1 ≤ l.length ∧ AInv x.2.1) (fun x => l.length - x.1) (0, ⟨0, []⟩, none, 0) agreed (Ent.refl _) ⟨Nat.zero_le _, ainv0⟩ ?_
  rintro ⟨i, c, aS, cS⟩ f ⟨hi, hA⟩
  simp only at hi hA
  simp only [putAll]
  refine WP.slid fun rdS => ?_
  by_cases hlt : i < l.length
  · obtain ⟨bl, o, rfl, hcs⟩ : ∃ b o, ao = some ⟨b, o, none⟩ ∧ Cells B H b o (actsC l) := by
      rcases hsa with h | h
      · rw [h] at hsl; simp at hsl; omega
      · exact h
    have hact := acts_cells hcs hlt
    have hmem := List.getElem_mem hlt
    have hfl := (hl _ hmem).1
    have hf64 := (hl _ hmem).2
    have hf20 := hl2 _ hmem
    generalize l[i] = a at *
    have hA' := hA.step a
    have hn := hA.n
    have hn' := hA'.n
    refine walk ?_
    refine wp_cut_here (α := Nat × Nat) [10, 11, 24, 25] (fun z => [(10, .pointer (some ⟨z.1, 0, none⟩)), (11, .pointer (some ⟨z.2, 0, none⟩))])
      (fun z => Slid 2 (.slice aS c.laps.length cS) c.laps.length (zs c.laps) + (ClkAt b1 c + (ClkAt z.1 c + (blk z.2 [.int .i64 c.now, .slice aS c.laps.length cS] 41 + (blk b2 [.int .i64 c.now, .slice aS c.laps.length cS] 41 + H))))) (fun _ => True) ?_ ?_
    · skip
      (refine wp_draw [0, 2, 4] (.look 1 (.act 0 (.act 2 (.look 3 (.act 4 .nil .stop)) .stop) (.act 2 (.act 0 (.look 3 (.act 4 .nil .stop)) .stop) .stop))) (by kernel_rfl) ?_; (apply dw_look; (· exact rfl); (· exact rfl); (· (exact looked))); skip)
      refine dw_do rfl rfl ?_ (dw_do rfl rfl ?_ dw_stop)
      · skip
        refine s_call rfl (cCopy (b := b1) (c := c) (by omega)) rfl ?_
        rintro _ _ ⟨bw, rfl, rfl⟩
        refine wpl_nil (qone ⟨(by (refine st_again ?_ ?_; (· exact looked)); exact st_nil), ?_⟩)
        (skip)
        refine dw_do rfl rfl ?_ dw_stop
        refine s_alloc rfl ?_
        intro bo
        refine wpl_nil (qone ⟨(by (refine st_again ?_ ?_; (· exact looked)); exact st_nil), ?_⟩)
        ((apply dw_pure; (· exact rfl); (· exact rfl); (· (intro G; exact looked))); skip)
        refine dw_do0 rfl rfl ?_ dw_stop
        refine s_storeV (vs := [.int .i64 c.now, .slice aS c.laps.length cS]) rfl rfl rfl rfl rfl ?_
        refine wpl_nil (qone0 ⟨(by refine st_past (by kernel_rfl) ?_; exact st_nil), ?_⟩)
        (refine dw_nil ?_; skip)
        refine walk ?_
        exact ⟨(bw, bo), asided, agreed, Ent.auto, trivial⟩
      · skip
        refine s_alloc rfl ?_
        intro bo
        refine wpl_nil (qone ⟨(by (refine st_again ?_ ?_; (· exact looked)); exact st_nil), ?_⟩)
        (skip)
        refine dw_do rfl rfl ?_ dw_stop
        refine s_call rfl (cCopy (b := b1) (c := c) (by omega)) rfl ?_
        rintro _ _ ⟨bw, rfl, rfl⟩
        refine wpl_nil (qone ⟨(by (refine st_again ?_ ?_; (· exact looked)); exact st_nil), ?_⟩)
        ((apply dw_pure; (· exact rfl); (· exact rfl); (· (intro G; exact looked))); skip)
        refine dw_do0 rfl rfl ?_ dw_stop
        refine s_storeV (vs := [.int .i64 c.now, .slice aS c.laps.length cS]) rfl rfl rfl rfl rfl ?_
        refine wpl_nil (qone0 ⟨(by refine st_past (by kernel_rfl) ?_; exact st_nil), ?_⟩)
        (refine dw_nil ?_; skip)
        refine walk ?_
        exact ⟨(bw, bo), asided, agreed, Ent.auto, trivial⟩
    rintro ⟨bw, bo⟩ f1 _
    simp only [putAll]
    by_cases h3 : a.k = 3
    · obtain ⟨c', hc'⟩ : ∃ c', stepC c a = c' := ⟨_, rfl⟩
      have hdoes : ∀ {H F : HProp} [i : HasAt ClkAt H b1 c F] (hs : Rd B H 1 (.slice aS c.laps.length cS) c.laps.length (zs c.laps)), Does Tryd.prog B 17 [.pointer (some ⟨b1, 0, none⟩), rC c.now (.slice aS c.laps.length cS), actV a] H fun r H' => ∃ ao cap, r = .tuple #[rC c'.now (.slice ao c'.laps.length cap), .bool true] ∧
          H' = Slid 2 (.slice ao c'.laps.length cap) c'.laps.length (zs c'.laps) + (ClkAt b1 c' + F) := by
        intro H F i hs
        have := does_mark (b := b1) (a := a) h3 hA hs
        rw [hc'] at this
        exact this
      rw [hc'] at hA' hn'
      unfold actV rC at hdoes
      unfold actC at hact
      refine walk ?_
      refine wp_cut_here (α := Nat × Option Addr × Nat) [12, 13, 26, 27, 28, 29, 30, 31, 32, 33, 34] (fun z => [(12, .pointer (some ⟨z.1, 0, none⟩)), (13, .bool true)])
        (fun z => Slid 2 (.slice z.2.1 c'.laps.length z.2.2) c'.laps.length (zs c'.laps) + (ClkAt b1 c' + (blk z.1 [.int .i64 c'.now, .slice z.2.1 c'.laps.length z.2.2] 41 + (ClkAt bw c + (blk bo [.int .i64 c.now, .slice aS c.laps.length cS] 41 + (blk b2 [.int .i64 c.now, .slice aS c.laps.length cS] 41 + (Slid 2 (.slice aS c.laps.length cS) c.laps.length (zs c.laps) + H)))))))
        (fun z => True) ?_ ?_
      · skip
        (refine wp_draw [5, 9, 10] (.look 0 (.look 1 (.look 2 (.look 3 (.look 4 (.act 5 (.look 6 (.look 7 (.look 8 (.act 9 (.act 10 (.look 11 .nil) .stop) .stop)))) (.act 9 (.act 5 (.look 6 (.look 7 (.look 8 (.act 10 (.look 11 .nil) .stop)))) .stop) .stop))))))) (by kernel_rfl) ?_; (apply dw_look; (· exact rfl); (· exact rfl); (· (exact looked))); (apply dw_pure; (· exact rfl); (· exact rfl); (· (intro G; exact looked))); (apply dw_pure; (· exact rfl); (· exact rfl); (· (intro G; exact looked))); (apply dw_pure; (· exact rfl); (· exact rfl); (· (intro G; exact looked))); (apply dw_look; (· exact rfl); (· exact rfl); (· (exact looked))); skip)
        refine dw_do rfl rfl ?_ (dw_do rfl rfl ?_ dw_stop)
        · skip
          refine s_call rfl (hdoes (rdS.ent InH.ent)) rfl ?_
          rintro _ _ ⟨a2, c2, rfl, rfl⟩
          refine wpl_nil (qone ⟨(by refine st_past (by kernel_rfl) ?_; refine st_past (by kernel_rfl) ?_; exact st_nil), ?_⟩)
          ((apply dw_pure; (· exact rfl); (· exact rfl); (· (intro G; exact looked))); (apply dw_pure; (· exact rfl); (· exact rfl); (· (intro G; exact looked))); (apply dw_pure; (· exact rfl); (· exact rfl); (· (intro G; exact looked))); skip)
          refine dw_do rfl rfl ?_ dw_stop
          refine s_alloc rfl ?_
          intro bs
          refine wpl_nil (qone ⟨(by (refine st_again ?_ ?_; (· exact looked)); (refine st_again ?_ ?_; (· exact looked)); exact st_nil), ?_⟩)
          (skip)
          refine dw_do0 rfl rfl ?_ dw_stop
          refine s_storeV (vs := [.int .i64 c'.now, .slice a2 c'.laps.length c2]) rfl rfl rfl rfl rfl ?_
          refine wpl_nil (qone0 ⟨(by refine st_past (by kernel_rfl) ?_; refine st_past (by kernel_rfl) ?_; exact st_nil), ?_⟩)
          ((apply dw_pure; (· exact rfl); (· exact rfl); (· (intro G; exact looked))); refine dw_nil ?_; skip)
          refine walk ?_
          exact ⟨(bs, a2, c2), asided, agreed, Ent.auto, trivial⟩
        · skip
          refine s_alloc rfl ?_
          intro bs
          refine wpl_nil (qone ⟨(by (refine st_again ?_ ?_; (· exact looked)); (refine st_again ?_ ?_; (· exact looked)); exact st_nil), ?_⟩)
          (skip)
          refine dw_do rfl rfl ?_ dw_stop
          refine s_call rfl (hdoes (rdS.ent InH.ent)) rfl ?_
          rintro _ _ ⟨a2, c2, rfl, rfl⟩
          refine wpl_nil (qone ⟨(by refine st_past (by kernel_rfl) ?_; refine st_past (by kernel_rfl) ?_; exact st_nil), ?_⟩)
          ((apply dw_pure; (· exact rfl); (· exact rfl); (· (intro G; exact looked))); (apply dw_pure; (· exact rfl); (· exact rfl); (· (intro G; exact looked))); (apply dw_pure; (· exact rfl); (· exact rfl); (· (intro G; exact looked))); skip)
          refine dw_do0 rfl rfl ?_ dw_stop
          refine s_storeV (vs := [.int .i64 c'.now, .slice a2 c'.laps.length c2]) rfl rfl rfl rfl rfl ?_
          refine wpl_nil (qone0 ⟨(by refine st_past (by kernel_rfl) ?_; refine st_past (by kernel_rfl) ?_; exact st_nil), ?_⟩)
          ((apply dw_pure; (· exact rfl); (· exact rfl); (· (intro G; exact looked))); refine dw_nil ?_; skip)
          refine walk ?_
          exact ⟨(bs, a2, c2), asided, agreed, Ent.auto, trivial⟩
      rintro ⟨bs, aS2, cS2⟩ f2 _
      dsimp only
      simp only [putAll]
      refine WP.slid fun rdN => ?_
      have rdO := rdS
      refine walk ?_
      refine s_storeV (vs := [.int .i64 c'.now, .slice aS2 c'.laps.length cS2]) rfl rfl rfl rfl rfl ?_
      refine walk ?_
      refine s_call rfl (is_spec (b := b1) (c := c') T hA' ht (rdN.ent InH.ent)) rfl ?_
      rintro _ _ ⟨e_, rfl⟩
      obtain rfl := e_.symm
      refine walk ?_
      refine s_call rfl (is_spec (b := bw) (c := c) T hA ht (rdO.ent InH.ent)) rfl ?_
      rintro _ _ ⟨e_, rfl⟩
      obtain rfl := e_.symm
      refine walk ?_
      exact ⟨(i + 1, c', aS2, cS2), asided, agreed, Ent.auto, ⟨hlt, hA'⟩, by simp only; omega⟩
    · obtain ⟨c', hc'⟩ : ∃ c', stepC c a = c' := ⟨_, rfl⟩
      have hlp : c'.laps = c.laps := by rw [← hc']; exact step_laps h3
      have hdoes : ∀ {H F : HProp} [i : HasAt ClkAt H b1 c F] (hfl : Rd B F 1 a.s a.fs.length (a.fs.map flt)), Does Tryd.prog B 17 [.pointer (some ⟨b1, 0, none⟩), rC c.now (.slice aS c.laps.length cS), actV a] H fun r H' => H' = ClkAt b1 c' + F ∧ r = .tuple #[rC c'.now (.slice aS c.laps.length cS), .bool true] := by
        intro H F i hfl
        rw [← hc']
        by_cases h01 : a.k = 0 ∨ a.k = 1
        · exact does_add h01
        · by_cases h2 : a.k = 2
          · exact does_mil h2 hfl hf64 hf20
          · exact does_none (by omega) (by omega) h2 h3
      rw [hc'] at hA' hn'
      unfold actV rC at hdoes
      unfold actC at hact
      refine walk ?_
      refine wp_cut_here (α := Nat × Option Addr × Nat) [12, 13, 26, 27, 28, 29, 30, 31, 32, 33, 34] (fun z => [(12, .pointer (some ⟨z.1, 0, none⟩)), (13, .bool true)])
        (fun z => Slid 2 (.slice z.2.1 c'.laps.length z.2.2) c'.laps.length (zs c'.laps) + (ClkAt b1 c' + (blk z.1 [.int .i64 c'.now, .slice z.2.1 c'.laps.length z.2.2] 41 + (ClkAt bw c + (blk bo [.int .i64 c.now, .slice aS c.laps.length cS] 41 + (blk b2 [.int .i64 c.now, .slice aS c.laps.length cS] 41 + H))))))
        (fun z => Rd B (Slid 2 (.slice z.2.1 c'.laps.length z.2.2) c'.laps.length (zs c'.laps)) 1 (.slice z.2.1 c'.laps.length z.2.2) c'.laps.length (zs c'.laps) ∧ Rd B (Slid 2 (.slice z.2.1 c'.laps.length z.2.2) c'.laps.length (zs c'.laps)) 1 (.slice aS c.laps.length cS) c.laps.length (zs c.laps)) ?_ ?_
      · skip
        (refine wp_draw [5, 9, 10] (.look 0 (.look 1 (.look 2 (.look 3 (.look 4 (.act 5 (.look 6 (.look 7 (.look 8 (.act 9 (.act 10 (.look 11 .nil) .stop) .stop)))) (.act 9 (.act 5 (.look 6 (.look 7 (.look 8 (.act 10 (.look 11 .nil) .stop)))) .stop) .stop))))))) (by kernel_rfl) ?_; (apply dw_look; (· exact rfl); (· exact rfl); (· (exact looked))); (apply dw_pure; (· exact rfl); (· exact rfl); (· (intro G; exact looked))); (apply dw_pure; (· exact rfl); (· exact rfl); (· (intro G; exact looked))); (apply dw_pure; (· exact rfl); (· exact rfl); (· (intro G; exact looked))); (apply dw_look; (· exact rfl); (· exact rfl); (· (exact looked))); skip)
        refine dw_do rfl rfl ?_ (dw_do rfl rfl ?_ dw_stop)
        · skip
          refine s_call rfl (hdoes (hfl.ent InH.ent)) rfl ?_
          rintro _ _ ⟨rfl, rfl⟩
          refine wpl_nil (qone ⟨(by refine st_past (by kernel_rfl) ?_; refine st_past (by kernel_rfl) ?_; exact st_nil), ?_⟩)
          ((apply dw_pure; (· exact rfl); (· exact rfl); (· (intro G; exact looked))); (apply dw_pure; (· exact rfl); (· exact rfl); (· (intro G; exact looked))); (apply dw_pure; (· exact rfl); (· exact rfl); (· (intro G; exact looked))); skip)
          refine dw_do rfl rfl ?_ dw_stop
          refine s_alloc rfl ?_
          intro bs
          refine wpl_nil (qone ⟨(by (refine st_again ?_ ?_; (· exact looked)); (refine st_again ?_ ?_; (· exact looked)); exact st_nil), ?_⟩)
          (skip)
          refine dw_do0 rfl rfl ?_ dw_stop
          refine s_storeV (vs := [.int .i64 c'.now, .slice aS c.laps.length cS]) rfl rfl rfl rfl rfl ?_
          refine wpl_nil (qone0 ⟨(by refine st_past (by kernel_rfl) ?_; refine st_past (by kernel_rfl) ?_; exact st_nil), ?_⟩)
          ((apply dw_pure; (· exact rfl); (· exact rfl); (· (intro G; exact looked))); refine dw_nil ?_; skip)
          refine walk ?_
          exact ⟨(bs, aS, cS), asided, agreed, by dsimp only; rw [hlp]; exact Ent.auto, by dsimp only; rw [hlp]; exact ⟨rdS, rdS⟩⟩
        · skip
          refine s_alloc rfl ?_
          intro bs
          refine wpl_nil (qone ⟨(by (refine st_again ?_ ?_; (· exact looked)); (refine st_again ?_ ?_; (· exact looked)); exact st_nil), ?_⟩)
          (skip)
          refine dw_do rfl rfl ?_ dw_stop
          refine s_call rfl (hdoes (hfl.ent InH.ent)) rfl ?_
          rintro _ _ ⟨rfl, rfl⟩
          refine wpl_nil (qone ⟨(by refine st_past (by kernel_rfl) ?_; refine st_past (by kernel_rfl) ?_; exact st_nil), ?_⟩)
          ((apply dw_pure; (· exact rfl); (· exact rfl); (· (intro G; exact looked))); (apply dw_pure; (· exact rfl); (· exact rfl); (· (intro G; exact looked))); (apply dw_pure; (· exact rfl); (· exact rfl); (· (intro G; exact looked))); skip)
          refine dw_do0 rfl rfl ?_ dw_stop
          refine s_storeV (vs := [.int .i64 c'.now, .slice aS c.laps.length cS]) rfl rfl rfl rfl rfl ?_
          refine wpl_nil (qone0 ⟨(by refine st_past (by kernel_rfl) ?_; refine st_past (by kernel_rfl) ?_; exact st_nil), ?_⟩)
          ((apply dw_pure; (· exact rfl); (· exact rfl); (· (intro G; exact looked))); refine dw_nil ?_; skip)
          refine walk ?_
          exact ⟨(bs, aS, cS), asided, agreed, by dsimp only; rw [hlp]; exact Ent.auto, by dsimp only; rw [hlp]; exact ⟨rdS, rdS⟩⟩
      rintro ⟨bs, aS2, cS2⟩ f2 ⟨rdN, rdO⟩
      dsimp only at rdN rdO
      simp only [putAll]
      refine walk ?_
      refine s_storeV (vs := [.int .i64 c'.now, .slice aS2 c'.laps.length cS2]) rfl rfl rfl rfl rfl ?_
      refine walk ?_
      refine s_call rfl (is_spec (b := b1) (c := c') T hA' ht (rdN.ent InH.ent)) rfl ?_
      rintro _ _ ⟨e_, rfl⟩
      obtain rfl := e_.symm
      refine walk ?_
      refine s_call rfl (is_spec (b := bw) (c := c) T hA ht (rdO.ent InH.ent)) rfl ?_
      rintro _ _ ⟨e_, rfl⟩
      obtain rfl := e_.symm
      refine walk ?_
      exact ⟨(i + 1, c', aS2, cS2), asided, agreed, Ent.auto, ⟨hlt, hA'⟩, by simp only; omega⟩
  · obtain rfl : i = l.length := by omega
    refine walk ?_
    refine s_call rfl (is_spec (b := b1) (c := c) T hA ht (rdS.ent InH.ent)) rfl ?_
    rintro _ _ ⟨e_, rfl⟩
    obtain rfl := e_.symm
    refine walk ?_
    refine s_call rfl (works_spec T) rfl ?_
    rintro _ _ ⟨e_, rfl⟩
    obtain rfl := e_.symm
    refine walk ?_
    (first | (apply retRD1 (G := H) (.inr rfl) rfl; (· first | (refine rv_tmp (v := .bool _) rfl) | exact rv_tmp rfl); (· exact Ent.auto)) | (apply retRD1 (G := H) (.inl rfl) rfl; (· first | (refine rv_tmp (v := .bool _) rfl) | exact rv_tmp rfl); (· exact Ent.auto)))
    exact ⟨Ent.refl _, rfl⟩
end
end Go.Proofs.YtipbcccjhaommaaDoor
