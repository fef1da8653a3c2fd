/- The notes and the configs that the closed statement asks. The closed statement of systems. No condition. -/
import Derived.Test.YtlhnmbajbhaaoaaGreatSL2
import Derived.Test.YtlhnmbajbhaaoaaGreatB8
import Derived.Test.YtlhnmbajbhaaoaaGreatB7
import Derived.Test.YtlhnmbajbhaaoaaGreatB10
namespace Go.Proofs.YtlhnmbajbhaaoaaGreat
open Go Go.SL
set_option linter.unusedSimpArgs false
set_option linter.unusedVariables false
set_option maxRecDepth 10000
set_option maxHeartbeats 4000000
attribute [local irreducible] WP WPL QSeq QBlk QRet Does Cell Cells Rd Mine Ent Aside RV Yield TabAt SemAt IdeAt
section
variable {B : World} {H F G : HProp} {J : Ide} {a : RA} {n : Int} {K : Int} {cnt : List Int} {c0 : Cfg} {k : Nat}
theorem dMade : Does Tryz.prog B 25 [cfgV c0] H fun r H' => H' = H ∧ ∃ c, r = cfgV c ∧ RightP c ∧ c.g ≤ 40 := by
  refine Does.weak (R := fun r H' => Ent H' H ∧ ∃ c, r = cfgV c ∧ RightP c ∧ c.g ≤ 40) ?_ fun v H1 ⟨e, h⟩ => ⟨H, e, rfl, h⟩
  obtain ⟨qv, hqv, hroom⟩ : ∃ qv, IntKind.i64.wrap (2 * 2 ^ (min (c0.q % 3).toNat IntKind.i64.bits)) = qv ∧ RoomP qv := by
    rcases (show c0.q % 3 = 0 ∨ c0.q % 3 = 1 ∨ c0.q % 3 = 2 by omega) with e | e | e <;> rw [e] <;> exact ⟨_, rfl, by decide⟩
  refine fn_intro 31 Tryz.func25 rfl rfl rfl ?_
  refine walk ?_
  refine s_box (cs := cv c0) rfl rfl rfl ?_
  intro b1
  refine s_alloc rfl ?_
  intro b2
  refine walk ?_
  refine s_call rfl (pick_spec (i := c0.n) (m := 4) (by omega)) rfl ?_
  rintro _ _ ⟨e_, rfl⟩
  obtain rfl := e_.symm
  refine walk ?_
  refine walk ?_
  (refine wp_draw [3, 7, 13, 17, 21, 23] (.look 0 (.look 1 (.look 2 (.look 5 (.look 6 (.look 9 (.look 10 (.look 11 (.look 12 (.look 15 (.look 16 (.look 19 (.look 20 (.act 3 (.look 4 (.act 7 (.look 8 (.act 13 (.look 14 (.act 17 (.look 18 (.act 21 (.look 22 (.act 23 .nil .stop)) .stop)) .stop)) .stop)) .stop)) .stop)))))))))))))) (by kernel_rfl) ?_; refine dwP ?_; refine dwP ?_; refine dwL ?_; refine dwP ?_; refine dwL ?_; refine dwP ?_; refine dwP ?_; refine dwP ?_; refine dwL ?_; refine dwP ?_; refine dwL ?_; refine dwP ?_; refine dwL ?_; skip)
  refine dw_do rfl rfl ?_ dw_stop
  refine s_call rfl (pick_spec (i := c0.q) (m := 3) (by omega)) rfl ?_
  rintro _ _ ⟨e_, rfl⟩
  obtain rfl := e_.symm
  refine wpl_nil (qone ⟨(by (refine st_again ?_ ?_; (· exact looked)); (refine st_again ?_ ?_; (· exact looked)); (refine st_again ?_ ?_; (· exact looked)); (refine st_again ?_ ?_; (· exact looked)); refine st_past (by kernel_rfl) ?_; exact st_nil), ?_⟩)
  ((apply dw_pure; (· exact rfl); (· exact rfl); (· (intro G; (refine s_shl rfl rfl (by omega) hqv rfl ?_); exact looked))); skip)
  refine dw_do rfl rfl ?_ dw_stop
  refine s_call rfl (pick_spec (i := c0.g) (m := 20) (by omega)) rfl ?_
  rintro _ _ ⟨e_, rfl⟩
  obtain rfl := e_.symm
  refine wpl_nil (qone ⟨(by (refine st_again ?_ ?_; (· exact looked)); (refine st_again ?_ ?_; (· exact looked)); (refine st_again ?_ ?_; (· exact looked)); refine st_past (by kernel_rfl) ?_; refine st_past (by kernel_rfl) ?_; exact st_nil), ?_⟩)
  (refine dwP ?_; skip)
  refine dw_do rfl rfl ?_ dw_stop
  refine s_call rfl (pick_spec (i := c0.m) (m := 3) (by omega)) rfl ?_
  rintro _ _ ⟨e_, rfl⟩
  obtain rfl := e_.symm
  refine wpl_nil (qone ⟨(by (refine st_again ?_ ?_; (· exact looked)); (refine st_again ?_ ?_; (· exact looked)); refine st_past (by kernel_rfl) ?_; refine st_past (by kernel_rfl) ?_; refine st_past (by kernel_rfl) ?_; exact st_nil), ?_⟩)
  (refine dwP ?_; skip)
  refine dw_do rfl rfl ?_ dw_stop
  refine s_call rfl (pick_spec (i := c0.t) (m := 6) (by omega)) rfl ?_
  rintro _ _ ⟨e_, rfl⟩
  obtain rfl := e_.symm
  refine wpl_nil (qone ⟨(by (refine st_again ?_ ?_; (· exact looked)); refine st_past (by kernel_rfl) ?_; refine st_past (by kernel_rfl) ?_; refine st_past (by kernel_rfl) ?_; refine st_past (by kernel_rfl) ?_; exact st_nil), ?_⟩)
  (refine dwP ?_; skip)
  refine dw_do rfl rfl ?_ dw_stop
  refine s_call rfl (pick_spec (i := c0.s) (m := 3) (by omega)) rfl ?_
  rintro _ _ ⟨e_, rfl⟩
  obtain rfl := e_.symm
  refine wpl_nil (qone ⟨(by refine st_past (by kernel_rfl) ?_; refine st_past (by kernel_rfl) ?_; refine st_past (by kernel_rfl) ?_; refine st_past (by kernel_rfl) ?_; refine st_past (by kernel_rfl) ?_; exact st_nil), ?_⟩)
  ((apply dw_pure; (· exact rfl); (· exact rfl); (· (intro G; (refine s_build (cs := cv ⟨1 + c0.n % 4, qv, 1 + c0.g % 20, 1 + c0.n % 4 + 1 + c0.m % 3, 2 + c0.t % 6, c0.s % 3⟩) (by kernel_rfl) rfl ?_); exact looked))); skip)
  refine dw_do0 rfl rfl ?_ dw_stop
  refine s_storeV (vs := cv ⟨1 + c0.n % 4, qv, 1 + c0.g % 20, 1 + c0.n % 4 + 1 + c0.m % 3, 2 + c0.t % 6, c0.s % 3⟩) rfl rfl rfl rfl rfl ?_
  refine wpl_nil (qone0 ⟨(by refine st_past (by kernel_rfl) ?_; refine st_past (by kernel_rfl) ?_; refine st_past (by kernel_rfl) ?_; refine st_past (by kernel_rfl) ?_; refine st_past (by kernel_rfl) ?_; exact st_nil), ?_⟩)
  (refine dw_nil ?_; skip)
  refine walk ?_
  refine retR1 (.inr rfl) rfl (rv_cellA rfl Cells.blk0 rfl) ⟨Ent.auto, ⟨1 + c0.n % 4, qv, 1 + c0.g % 20, 1 + c0.n % 4 + 1 + c0.m % 3, 2 + c0.t % 6, c0.s % 3⟩, rfl, ⟨hroom, ?_⟩, ?_⟩
  · simp only; omega
  · simp only; omega
theorem dRuns (hr : RI B H J a) (ok : J.ok K) (hK : K ≤ 90000) (hk : k < J.ms.length) (hn : 0 ≤ n ∧ n ≤ 1000000) : Does Tryz.prog B 59 [rfV J a, .int .i64 (k : Int), .int .i64 n] H fun r H' => H' = H ∧ ∃ nt, r = noteV nt := by
  refine Does.weak (R := fun r H' => Ent H' H ∧ ∃ nt, r = noteV nt) ?_ fun v H1 ⟨e, h⟩ => ⟨H, e, rfl, h⟩
  have hml := ok.ml
  have hpl := ok.pl
  have hsl := ok.sl
  have htl := ok.tl
  have hcc := ok.c
  obtain ⟨_, c1, c2, c3, c4, c5, c6, _⟩ := hcc
  have hrr := hr.rwR
  obtain ⟨bm, om, em, cm⟩ := hr.msA hk
  obtain ⟨old, hold⟩ : ∃ old, J.ms[k] = old := ⟨_, rfl⟩
  rw [hold] at cm
  obtain ⟨j, hj⟩ : ∃ j : Nat, n / 9 % 4 = (j : Int) := ⟨(n / 9 % 4).toNat, by omega⟩
  obtain ⟨l, cc, hjs⟩ : ∃ l cc, J.sem[j]? = some (l, cc) := ⟨(J.sem[j]'(by omega)).1, (J.sem[j]'(by omega)).2, by rw [List.getElem?_eq_getElem (by omega)]⟩
  obtain ⟨bc, oc, ec, ccell⟩ := hr.cnA hjs
  obtain ⟨bw, ow, o2, k2, ew, cw, rw_⟩ := hr.wtA hjs
  obtain ⟨R, hRow⟩ : ∃ R, J.tab.row = R := ⟨_, rfl⟩
  rw [hRow] at hrr
  obtain ⟨⟨o1_, k1_, o2_, k2_, o3_, k3_⟩, oc_, kc_, ow_, kw_, om_, km_, op_, kp_, ws_⟩ := a
  simp only at em ec ew hrr
  subst em ec ew
  by_cases d0 : n % 9 = 0
  · skip
    cases R with
    | nil =>
      have hRL : J.tab.row.length = 0 := by rw [hRow]; rfl
      refine fn_intro 114 Tryz.func59 rfl rfl rfl ?_
      refine walk ?_
      refine s_box rfl rfl rfl ?_
      intro b3
      refine s_alloc rfl ?_
      intro b6
      refine walk ?_
      (first | (apply s_indexAddr (j := k) (o' := om + k * 4); (· exact rfl); (· exact rfl); (· omega); (· omega); (· omega); (· exact rfl)) | skip)
      refine walk ?_
      refine s_alloc rfl ?_
      intro b7
      refine walk ?_
      refine s_storeV (vs := (mcC old)) rfl rfl rfl rfl rfl ?_
      refine walk ?_
      rw [hj]
      refine walk ?_
      (refine s_build (cs := [.int .i64 1, .int .i64 0, .int .i64 (-1), .int .i64 (k : Int), .int .i64 old.g]) ?_ rfl ?_; (· kernel_rfl))
      refine walk ?_
      refine s_storeV (vs := [.int .i64 1, .int .i64 0, .int .i64 (-1), .int .i64 (k : Int), .int .i64 old.g]) rfl rfl rfl rfl rfl ?_
      refine walk ?_
      exact retR1 (.inr rfl) rfl (rv_cellA rfl Cells.blk0 rfl) ⟨Ent.auto, ⟨1, 0, (-1), (k : Int), old.g⟩, rfl⟩
    | cons y t =>
      have hRL : J.tab.row.length = t.length + 1 := by rw [hRow]; rfl
      obtain ⟨bR, oR, eR, hcR⟩ := rd_one (k := 0) hrr (v := .int .i64 y) rfl
      subst eR
      refine fn_intro 114 Tryz.func59 rfl rfl rfl ?_
      refine walk ?_
      refine s_box rfl rfl rfl ?_
      intro b3
      refine s_alloc rfl ?_
      intro b6
      refine walk ?_
      (first | (apply s_indexAddr (j := k) (o' := om + k * 4); (· exact rfl); (· exact rfl); (· omega); (· omega); (· omega); (· exact rfl)) | skip)
      refine walk ?_
      refine s_alloc rfl ?_
      intro b7
      refine walk ?_
      refine s_storeV (vs := (mcC old)) rfl rfl rfl rfl rfl ?_
      refine walk ?_
      rw [hj]
      refine walk ?_
      (first | (apply s_indexAddr (j := 0) (o' := oR); (· exact rfl); (· exact rfl); (· omega); (· omega); (· omega); (· exact rfl)) | skip)
      refine walk ?_
      (refine s_build (cs := [.int .i64 1, .int .i64 y, .int .i64 (-1), .int .i64 (k : Int), .int .i64 old.g]) ?_ rfl ?_; (· kernel_rfl))
      refine walk ?_
      refine s_storeV (vs := [.int .i64 1, .int .i64 y, .int .i64 (-1), .int .i64 (k : Int), .int .i64 old.g]) rfl rfl rfl rfl rfl ?_
      refine walk ?_
      exact retR1 (.inr rfl) rfl (rv_cellA rfl Cells.blk0 rfl) ⟨Ent.auto, ⟨1, y, (-1), (k : Int), old.g⟩, rfl⟩
  by_cases d1 : n % 9 = 1
  · skip
    cases R with
    | nil =>
      have hRL : J.tab.row.length = 0 := by rw [hRow]; rfl
      refine fn_intro 114 Tryz.func59 rfl rfl rfl ?_
      refine walk ?_
      refine s_box rfl rfl rfl ?_
      intro b3
      refine s_alloc rfl ?_
      intro b6
      refine walk ?_
      (first | (apply s_indexAddr (j := k) (o' := om + k * 4); (· exact rfl); (· exact rfl); (· omega); (· omega); (· omega); (· exact rfl)) | skip)
      refine walk ?_
      refine s_alloc rfl ?_
      intro b7
      refine walk ?_
      refine s_storeV (vs := (mcC old)) rfl rfl rfl rfl rfl ?_
      refine walk ?_
      rw [hj]
      refine walk ?_
      (refine s_build (cs := [.int .i64 1, .int .i64 0, .int .i64 (-1), .int .i64 (k : Int), .int .i64 old.g]) ?_ rfl ?_; (· kernel_rfl))
      refine walk ?_
      refine s_storeV (vs := [.int .i64 1, .int .i64 0, .int .i64 (-1), .int .i64 (k : Int), .int .i64 old.g]) rfl rfl rfl rfl rfl ?_
      refine walk ?_
      exact retR1 (.inr rfl) rfl (rv_cellA rfl Cells.blk0 rfl) ⟨Ent.auto, ⟨1, 0, (-1), (k : Int), old.g⟩, rfl⟩
    | cons y t =>
      have hRL : J.tab.row.length = t.length + 1 := by rw [hRow]; rfl
      obtain ⟨bR, oR, eR, hcR⟩ := rd_one (k := 0) hrr (v := .int .i64 y) rfl
      subst eR
      refine fn_intro 114 Tryz.func59 rfl rfl rfl ?_
      refine walk ?_
      refine s_box rfl rfl rfl ?_
      intro b3
      refine s_alloc rfl ?_
      intro b6
      refine walk ?_
      (first | (apply s_indexAddr (j := k) (o' := om + k * 4); (· exact rfl); (· exact rfl); (· omega); (· omega); (· omega); (· exact rfl)) | skip)
      refine walk ?_
      refine s_alloc rfl ?_
      intro b7
      refine walk ?_
      refine s_storeV (vs := (mcC old)) rfl rfl rfl rfl rfl ?_
      refine walk ?_
      rw [hj]
      refine walk ?_
      (first | (apply s_indexAddr (j := 0) (o' := oR); (· exact rfl); (· exact rfl); (· omega); (· omega); (· omega); (· exact rfl)) | skip)
      refine walk ?_
      (refine s_build (cs := [.int .i64 1, .int .i64 y, .int .i64 (-1), .int .i64 (k : Int), .int .i64 old.g]) ?_ rfl ?_; (· kernel_rfl))
      refine walk ?_
      refine s_storeV (vs := [.int .i64 1, .int .i64 y, .int .i64 (-1), .int .i64 (k : Int), .int .i64 old.g]) rfl rfl rfl rfl rfl ?_
      refine walk ?_
      exact retR1 (.inr rfl) rfl (rv_cellA rfl Cells.blk0 rfl) ⟨Ent.auto, ⟨1, y, (-1), (k : Int), old.g⟩, rfl⟩
  by_cases d2 : n % 9 = 2
  · skip
    refine fn_intro 114 Tryz.func59 rfl rfl rfl ?_
    refine walk ?_
    refine s_box rfl rfl rfl ?_
    intro b3
    refine s_alloc rfl ?_
    intro b6
    refine walk ?_
    (first | (apply s_indexAddr (j := k) (o' := om + k * 4); (· exact rfl); (· exact rfl); (· omega); (· omega); (· omega); (· exact rfl)) | skip)
    refine walk ?_
    refine s_alloc rfl ?_
    intro b7
    refine walk ?_
    refine s_storeV (vs := (mcC old)) rfl rfl rfl rfl rfl ?_
    refine walk ?_
    rw [hj]
    refine walk ?_
    (refine s_build (cs := [.int .i64 (3 + n / 9 % 2), .int .i64 old.g, .int .i64 old.p, .int .i64 (k : Int), .int .i64 (-1)]) ?_ rfl ?_; (· kernel_rfl))
    refine walk ?_
    refine s_storeV (vs := [.int .i64 (3 + n / 9 % 2), .int .i64 old.g, .int .i64 old.p, .int .i64 (k : Int), .int .i64 (-1)]) rfl rfl rfl rfl rfl ?_
    refine walk ?_
    exact retR1 (.inr rfl) rfl (rv_cellA rfl Cells.blk0 rfl) ⟨Ent.auto, ⟨(3 + n / 9 % 2), old.g, old.p, (k : Int), (-1)⟩, rfl⟩
  by_cases d3 : n % 9 = 3
  · skip
    by_cases h0 : 0 < cc
    · skip
      refine fn_intro 114 Tryz.func59 rfl rfl rfl ?_
      refine walk ?_
      refine s_box rfl rfl rfl ?_
      intro b3
      refine s_alloc rfl ?_
      intro b6
      refine walk ?_
      (first | (apply s_indexAddr (j := k) (o' := om + k * 4); (· exact rfl); (· exact rfl); (· omega); (· omega); (· omega); (· exact rfl)) | skip)
      refine walk ?_
      refine s_alloc rfl ?_
      intro b7
      refine walk ?_
      refine s_storeV (vs := (mcC old)) rfl rfl rfl rfl rfl ?_
      refine walk ?_
      rw [hj]
      refine walk ?_
      (first | (apply s_indexAddr (j := j) (o' := oc + j); (· exact rfl); (· exact rfl); (· omega); (· omega); (· omega); (· exact rfl)) | skip)
      refine walk ?_
      (refine s_build (cs := [.int .i64 5, .int .i64 old.g, .int .i64 old.p, .int .i64 (k : Int), .int .i64 (j : Int)]) ?_ rfl ?_; (· kernel_rfl))
      refine walk ?_
      refine s_storeV (vs := [.int .i64 5, .int .i64 old.g, .int .i64 old.p, .int .i64 (k : Int), .int .i64 (j : Int)]) rfl rfl rfl rfl rfl ?_
      refine walk ?_
      exact retR1 (.inr rfl) rfl (rv_cellA rfl Cells.blk0 rfl) ⟨Ent.auto, ⟨5, old.g, old.p, (k : Int), (j : Int)⟩, rfl⟩
    · skip
      refine fn_intro 114 Tryz.func59 rfl rfl rfl ?_
      refine walk ?_
      refine s_box rfl rfl rfl ?_
      intro b3
      refine s_alloc rfl ?_
      intro b6
      refine walk ?_
      (first | (apply s_indexAddr (j := k) (o' := om + k * 4); (· exact rfl); (· exact rfl); (· omega); (· omega); (· omega); (· exact rfl)) | skip)
      refine walk ?_
      refine s_alloc rfl ?_
      intro b7
      refine walk ?_
      refine s_storeV (vs := (mcC old)) rfl rfl rfl rfl rfl ?_
      refine walk ?_
      rw [hj]
      refine walk ?_
      (first | (apply s_indexAddr (j := j) (o' := oc + j); (· exact rfl); (· exact rfl); (· omega); (· omega); (· omega); (· exact rfl)) | skip)
      refine walk ?_
      (refine s_build (cs := [.int .i64 6, .int .i64 old.g, .int .i64 old.p, .int .i64 (k : Int), .int .i64 (j : Int)]) ?_ rfl ?_; (· kernel_rfl))
      refine walk ?_
      refine s_storeV (vs := [.int .i64 6, .int .i64 old.g, .int .i64 old.p, .int .i64 (k : Int), .int .i64 (j : Int)]) rfl rfl rfl rfl rfl ?_
      refine walk ?_
      exact retR1 (.inr rfl) rfl (rv_cellA rfl Cells.blk0 rfl) ⟨Ent.auto, ⟨6, old.g, old.p, (k : Int), (j : Int)⟩, rfl⟩
  by_cases d4 : n % 9 = 4
  · skip
    by_cases h0 : 0 < cc
    · skip
      refine fn_intro 114 Tryz.func59 rfl rfl rfl ?_
      refine walk ?_
      refine s_box rfl rfl rfl ?_
      intro b3
      refine s_alloc rfl ?_
      intro b6
      refine walk ?_
      (first | (apply s_indexAddr (j := k) (o' := om + k * 4); (· exact rfl); (· exact rfl); (· omega); (· omega); (· omega); (· exact rfl)) | skip)
      refine walk ?_
      refine s_alloc rfl ?_
      intro b7
      refine walk ?_
      refine s_storeV (vs := (mcC old)) rfl rfl rfl rfl rfl ?_
      refine walk ?_
      rw [hj]
      refine walk ?_
      (first | (apply s_indexAddr (j := j) (o' := oc + j); (· exact rfl); (· exact rfl); (· omega); (· omega); (· omega); (· exact rfl)) | skip)
      refine walk ?_
      (refine s_build (cs := [.int .i64 5, .int .i64 old.g, .int .i64 old.p, .int .i64 (k : Int), .int .i64 (j : Int)]) ?_ rfl ?_; (· kernel_rfl))
      refine walk ?_
      refine s_storeV (vs := [.int .i64 5, .int .i64 old.g, .int .i64 old.p, .int .i64 (k : Int), .int .i64 (j : Int)]) rfl rfl rfl rfl rfl ?_
      refine walk ?_
      exact retR1 (.inr rfl) rfl (rv_cellA rfl Cells.blk0 rfl) ⟨Ent.auto, ⟨5, old.g, old.p, (k : Int), (j : Int)⟩, rfl⟩
    · skip
      refine fn_intro 114 Tryz.func59 rfl rfl rfl ?_
      refine walk ?_
      refine s_box rfl rfl rfl ?_
      intro b3
      refine s_alloc rfl ?_
      intro b6
      refine walk ?_
      (first | (apply s_indexAddr (j := k) (o' := om + k * 4); (· exact rfl); (· exact rfl); (· omega); (· omega); (· omega); (· exact rfl)) | skip)
      refine walk ?_
      refine s_alloc rfl ?_
      intro b7
      refine walk ?_
      refine s_storeV (vs := (mcC old)) rfl rfl rfl rfl rfl ?_
      refine walk ?_
      rw [hj]
      refine walk ?_
      (first | (apply s_indexAddr (j := j) (o' := oc + j); (· exact rfl); (· exact rfl); (· omega); (· omega); (· omega); (· exact rfl)) | skip)
      refine walk ?_
      (refine s_build (cs := [.int .i64 6, .int .i64 old.g, .int .i64 old.p, .int .i64 (k : Int), .int .i64 (j : Int)]) ?_ rfl ?_; (· kernel_rfl))
      refine walk ?_
      refine s_storeV (vs := [.int .i64 6, .int .i64 old.g, .int .i64 old.p, .int .i64 (k : Int), .int .i64 (j : Int)]) rfl rfl rfl rfl rfl ?_
      refine walk ?_
      exact retR1 (.inr rfl) rfl (rv_cellA rfl Cells.blk0 rfl) ⟨Ent.auto, ⟨6, old.g, old.p, (k : Int), (j : Int)⟩, rfl⟩
  by_cases d5 : n % 9 = 5
  · skip
    cases l with
    | nil =>
      simp only [List.length_nil] at cw rw_
      refine fn_intro 114 Tryz.func59 rfl rfl rfl ?_
      refine walk ?_
      refine s_box rfl rfl rfl ?_
      intro b3
      refine s_alloc rfl ?_
      intro b6
      refine walk ?_
      (first | (apply s_indexAddr (j := k) (o' := om + k * 4); (· exact rfl); (· exact rfl); (· omega); (· omega); (· omega); (· exact rfl)) | skip)
      refine walk ?_
      refine s_alloc rfl ?_
      intro b7
      refine walk ?_
      refine s_storeV (vs := (mcC old)) rfl rfl rfl rfl rfl ?_
      refine walk ?_
      rw [hj]
      refine walk ?_
      (refine s_build (cs := [.int .i64 7, .int .i64 old.g, .int .i64 old.p, .int .i64 (k : Int), .int .i64 (j : Int)]) ?_ rfl ?_; (· kernel_rfl))
      refine walk ?_
      refine s_storeV (vs := [.int .i64 7, .int .i64 old.g, .int .i64 old.p, .int .i64 (k : Int), .int .i64 (j : Int)]) rfl rfl rfl rfl rfl ?_
      refine walk ?_
      exact retR1 (.inr rfl) rfl (rv_cellA rfl Cells.blk0 rfl) ⟨Ent.auto, ⟨7, old.g, old.p, (k : Int), (j : Int)⟩, rfl⟩
    | cons y t =>
      simp only [List.length_cons] at cw rw_
      obtain ⟨bR, oR, eR, hcR⟩ := rd_one (k := 0) rw_ (v := .int .i64 y) rfl
      subst eR
      refine fn_intro 114 Tryz.func59 rfl rfl rfl ?_
      refine walk ?_
      refine s_box rfl rfl rfl ?_
      intro b3
      refine s_alloc rfl ?_
      intro b6
      refine walk ?_
      (first | (apply s_indexAddr (j := k) (o' := om + k * 4); (· exact rfl); (· exact rfl); (· omega); (· omega); (· omega); (· exact rfl)) | skip)
      refine walk ?_
      refine s_alloc rfl ?_
      intro b7
      refine walk ?_
      refine s_storeV (vs := (mcC old)) rfl rfl rfl rfl rfl ?_
      refine walk ?_
      rw [hj]
      refine walk ?_
      (first | (apply s_indexAddr (j := 0) (o' := oR); (· exact rfl); (· exact rfl); (· omega); (· omega); (· omega); (· exact rfl)) | skip)
      refine walk ?_
      (refine s_build (cs := [.int .i64 8, .int .i64 y, .int .i64 (-1), .int .i64 (k : Int), .int .i64 (j : Int)]) ?_ rfl ?_; (· kernel_rfl))
      refine walk ?_
      refine s_storeV (vs := [.int .i64 8, .int .i64 y, .int .i64 (-1), .int .i64 (k : Int), .int .i64 (j : Int)]) rfl rfl rfl rfl rfl ?_
      refine walk ?_
      exact retR1 (.inr rfl) rfl (rv_cellA rfl Cells.blk0 rfl) ⟨Ent.auto, ⟨8, y, (-1), (k : Int), (j : Int)⟩, rfl⟩
  by_cases d6 : n % 9 = 6
  · skip
    cases l with
    | nil =>
      simp only [List.length_nil] at cw rw_
      refine fn_intro 114 Tryz.func59 rfl rfl rfl ?_
      refine walk ?_
      refine s_box rfl rfl rfl ?_
      intro b3
      refine s_alloc rfl ?_
      intro b6
      refine walk ?_
      (first | (apply s_indexAddr (j := k) (o' := om + k * 4); (· exact rfl); (· exact rfl); (· omega); (· omega); (· omega); (· exact rfl)) | skip)
      refine walk ?_
      refine s_alloc rfl ?_
      intro b7
      refine walk ?_
      refine s_storeV (vs := (mcC old)) rfl rfl rfl rfl rfl ?_
      refine walk ?_
      rw [hj]
      refine walk ?_
      (refine s_build (cs := [.int .i64 7, .int .i64 old.g, .int .i64 old.p, .int .i64 (k : Int), .int .i64 (j : Int)]) ?_ rfl ?_; (· kernel_rfl))
      refine walk ?_
      refine s_storeV (vs := [.int .i64 7, .int .i64 old.g, .int .i64 old.p, .int .i64 (k : Int), .int .i64 (j : Int)]) rfl rfl rfl rfl rfl ?_
      refine walk ?_
      exact retR1 (.inr rfl) rfl (rv_cellA rfl Cells.blk0 rfl) ⟨Ent.auto, ⟨7, old.g, old.p, (k : Int), (j : Int)⟩, rfl⟩
    | cons y t =>
      simp only [List.length_cons] at cw rw_
      obtain ⟨bR, oR, eR, hcR⟩ := rd_one (k := 0) rw_ (v := .int .i64 y) rfl
      subst eR
      refine fn_intro 114 Tryz.func59 rfl rfl rfl ?_
      refine walk ?_
      refine s_box rfl rfl rfl ?_
      intro b3
      refine s_alloc rfl ?_
      intro b6
      refine walk ?_
      (first | (apply s_indexAddr (j := k) (o' := om + k * 4); (· exact rfl); (· exact rfl); (· omega); (· omega); (· omega); (· exact rfl)) | skip)
      refine walk ?_
      refine s_alloc rfl ?_
      intro b7
      refine walk ?_
      refine s_storeV (vs := (mcC old)) rfl rfl rfl rfl rfl ?_
      refine walk ?_
      rw [hj]
      refine walk ?_
      (first | (apply s_indexAddr (j := 0) (o' := oR); (· exact rfl); (· exact rfl); (· omega); (· omega); (· omega); (· exact rfl)) | skip)
      refine walk ?_
      (refine s_build (cs := [.int .i64 8, .int .i64 y, .int .i64 (-1), .int .i64 (k : Int), .int .i64 (j : Int)]) ?_ rfl ?_; (· kernel_rfl))
      refine walk ?_
      refine s_storeV (vs := [.int .i64 8, .int .i64 y, .int .i64 (-1), .int .i64 (k : Int), .int .i64 (j : Int)]) rfl rfl rfl rfl rfl ?_
      refine walk ?_
      exact retR1 (.inr rfl) rfl (rv_cellA rfl Cells.blk0 rfl) ⟨Ent.auto, ⟨8, y, (-1), (k : Int), (j : Int)⟩, rfl⟩
  by_cases d7 : n % 9 = 7
  · skip
    refine fn_intro 114 Tryz.func59 rfl rfl rfl ?_
    refine walk ?_
    refine s_box rfl rfl rfl ?_
    intro b3
    refine s_alloc rfl ?_
    intro b6
    refine walk ?_
    (first | (apply s_indexAddr (j := k) (o' := om + k * 4); (· exact rfl); (· exact rfl); (· omega); (· omega); (· omega); (· exact rfl)) | skip)
    refine walk ?_
    refine s_alloc rfl ?_
    intro b7
    refine walk ?_
    refine s_storeV (vs := (mcC old)) rfl rfl rfl rfl rfl ?_
    refine walk ?_
    rw [hj]
    refine walk ?_
    (refine s_build (cs := [.int .i64 9, .int .i64 old.g, .int .i64 old.p, .int .i64 (k : Int), .int .i64 (-1)]) ?_ rfl ?_; (· kernel_rfl))
    refine walk ?_
    refine s_storeV (vs := [.int .i64 9, .int .i64 old.g, .int .i64 old.p, .int .i64 (k : Int), .int .i64 (-1)]) rfl rfl rfl rfl rfl ?_
    refine walk ?_
    exact retR1 (.inr rfl) rfl (rv_cellA rfl Cells.blk0 rfl) ⟨Ent.auto, ⟨9, old.g, old.p, (k : Int), (-1)⟩, rfl⟩
  refine fn_intro 114 Tryz.func59 rfl rfl rfl ?_
  refine walk ?_
  refine s_box rfl rfl rfl ?_
  intro b3
  refine s_alloc rfl ?_
  intro b6
  refine walk ?_
  (first | (apply s_indexAddr (j := k) (o' := om + k * 4); (· exact rfl); (· exact rfl); (· omega); (· omega); (· omega); (· exact rfl)) | skip)
  refine walk ?_
  refine s_alloc rfl ?_
  intro b7
  refine walk ?_
  refine s_storeV (vs := (mcC old)) rfl rfl rfl rfl rfl ?_
  refine walk ?_
  rw [hj]
  refine walk ?_
  (refine s_build (cs := [.int .i64 10, .int .i64 old.g, .int .i64 old.p, .int .i64 (k : Int), .int .i64 (-1)]) ?_ rfl ?_; (· kernel_rfl))
  refine walk ?_
  refine s_storeV (vs := [.int .i64 10, .int .i64 old.g, .int .i64 old.p, .int .i64 (k : Int), .int .i64 (-1)]) rfl rfl rfl rfl rfl ?_
  refine walk ?_
  exact retR1 (.inr rfl) rfl (rv_cellA rfl Cells.blk0 rfl) ⟨Ent.auto, ⟨10, old.g, old.p, (k : Int), (-1)⟩, rfl⟩
theorem dNext (hr : RI B H J a) (ok : J.ok K) (hK : K ≤ 90000) (hn : 0 ≤ n ∧ n ≤ 1000000) : Does Tryz.prog B 26 [rfV J a, .int .i64 n] H fun r H' => H' = H ∧ ∃ nt, r = noteV nt := by
  refine Does.weak (R := fun r H' => Ent H' H ∧ ∃ nt, r = noteV nt) ?_ fun v H1 ⟨e, h⟩ => ⟨H, e, rfl, h⟩
  have hml := ok.ml
  have hpl := ok.pl
  have hsl := ok.sl
  have htl := ok.tl
  have hcc := ok.c
  obtain ⟨_, c1, c2, c3, c4, c5, c6, _⟩ := hcc
  have hrr := hr.rwR
  obtain ⟨k, hk⟩ : ∃ k : Nat, n % J.c.m = (k : Int) := ⟨(n % J.c.m).toNat, by have := Int.emod_nonneg n (b := J.c.m) (by omega); omega⟩
  have hkl : k < J.ms.length := by have := Int.emod_lt_of_pos n (b := J.c.m) (by omega); omega
  obtain ⟨n1, hn1⟩ : ∃ n1, n / J.c.m = n1 := ⟨_, rfl⟩
  have h0 : 0 ≤ n1 ∧ n1 ≤ 1000000 := by
    have e1 := Int.ediv_nonneg hn.1 (show (0 : Int) ≤ J.c.m by omega)
    have e2 := Int.ediv_le_self J.c.m hn.1
    omega
  have hrR := hr
  obtain ⟨bm, om, em, cm⟩ := hr.msA hkl
  obtain ⟨old, hold⟩ : ∃ old, J.ms[k] = old := ⟨_, rfl⟩
  rw [hold] at cm
  obtain ⟨kp, hkp⟩ : ∃ kp : Nat, n1 / 5 % J.c.n = (kp : Int) := ⟨(n1 / 5 % J.c.n).toNat, by have := Int.emod_nonneg (n1 / 5) (b := J.c.n) (by omega); omega⟩
  have hkpl : kp < J.ps.length := by have := Int.emod_lt_of_pos (n1 / 5) (b := J.c.n) (by omega); omega
  obtain ⟨bp, op, ep, cp⟩ := hr.psA hkpl
  obtain ⟨pv, hpv⟩ : ∃ pv, J.ps[kp] = pv := ⟨_, rfl⟩
  rw [hpv] at cp
  obtain ⟨⟨o1_, k1_, o2_, k2_, o3_, k3_⟩, oc_, kc_, ow_, kw_, om_, km_, op_, kp_, ws_⟩ := a
  simp only at em ep
  subst em ep
  by_cases a0 : old.a = 0
  · skip
    by_cases f0 : n1 % 5 = 0
    · skip
      refine fn_intro 154 Tryz.func26 rfl rfl rfl ?_
      refine walk ?_
      refine s_box rfl rfl rfl ?_
      intro b2
      refine s_alloc rfl ?_
      intro b4
      refine walk ?_
      rw [hk]
      refine walk ?_
      rw [hn1]
      refine walk ?_
      (first | (apply s_indexAddr (j := k) (o' := om + k * 4); (· exact rfl); (· exact rfl); (· omega); (· omega); (· omega); (· exact rfl)) | skip)
      refine walk ?_
      refine s_alloc rfl ?_
      intro b6
      refine walk ?_
      refine s_storeV (vs := (mcC old)) rfl rfl rfl rfl rfl ?_
      refine walk ?_
      rw [hkp]
      refine walk ?_
      (refine s_build (cs := [.int .i64 15, .int .i64 (-1), .int .i64 (kp : Int), .int .i64 (-1), .int .i64 (-1)]) ?_ rfl ?_; (· kernel_rfl))
      refine walk ?_
      refine s_storeV (vs := [.int .i64 15, .int .i64 (-1), .int .i64 (kp : Int), .int .i64 (-1), .int .i64 (-1)]) rfl rfl rfl rfl rfl ?_
      refine walk ?_
      exact retR1 (.inr rfl) rfl (rv_cellA rfl Cells.blk0 rfl) ⟨Ent.auto, ⟨15, (-1), (kp : Int), (-1), (-1)⟩, rfl⟩
    · skip
      by_cases f1 : pv = -2
      · skip
        refine fn_intro 154 Tryz.func26 rfl rfl rfl ?_
        refine walk ?_
        refine s_box rfl rfl rfl ?_
        intro b2
        refine s_alloc rfl ?_
        intro b4
        refine walk ?_
        rw [hk]
        refine walk ?_
        rw [hn1]
        refine walk ?_
        (first | (apply s_indexAddr (j := k) (o' := om + k * 4); (· exact rfl); (· exact rfl); (· omega); (· omega); (· omega); (· exact rfl)) | skip)
        refine walk ?_
        refine s_alloc rfl ?_
        intro b6
        refine walk ?_
        refine s_storeV (vs := (mcC old)) rfl rfl rfl rfl rfl ?_
        refine walk ?_
        rw [hkp]
        refine walk ?_
        (first | (apply s_indexAddr (j := kp) (o' := op + kp); (· exact rfl); (· exact rfl); (· omega); (· omega); (· omega); (· exact rfl)) | skip)
        refine walk ?_
        (refine s_build (cs := [.int .i64 13, .int .i64 (-1), .int .i64 (kp : Int), .int .i64 (k : Int), .int .i64 0]) ?_ rfl ?_; (· kernel_rfl))
        refine walk ?_
        refine s_storeV (vs := [.int .i64 13, .int .i64 (-1), .int .i64 (kp : Int), .int .i64 (k : Int), .int .i64 0]) rfl rfl rfl rfl rfl ?_
        refine walk ?_
        exact retR1 (.inr rfl) rfl (rv_cellA rfl Cells.blk0 rfl) ⟨Ent.auto, ⟨13, (-1), (kp : Int), (k : Int), 0⟩, rfl⟩
      · skip
        refine fn_intro 154 Tryz.func26 rfl rfl rfl ?_
        refine walk ?_
        refine s_box rfl rfl rfl ?_
        intro b2
        refine s_alloc rfl ?_
        intro b4
        refine walk ?_
        rw [hk]
        refine walk ?_
        rw [hn1]
        refine walk ?_
        (first | (apply s_indexAddr (j := k) (o' := om + k * 4); (· exact rfl); (· exact rfl); (· omega); (· omega); (· omega); (· exact rfl)) | skip)
        refine walk ?_
        refine s_alloc rfl ?_
        intro b6
        refine walk ?_
        refine s_storeV (vs := (mcC old)) rfl rfl rfl rfl rfl ?_
        refine walk ?_
        rw [hkp]
        refine walk ?_
        (first | (apply s_indexAddr (j := kp) (o' := op + kp); (· exact rfl); (· exact rfl); (· omega); (· omega); (· omega); (· exact rfl)) | skip)
        refine walk ?_
        (refine s_build (cs := [.int .i64 13, .int .i64 (-1), .int .i64 (kp : Int), .int .i64 (k : Int), .int .i64 1]) ?_ rfl ?_; (· kernel_rfl))
        refine walk ?_
        refine s_storeV (vs := [.int .i64 13, .int .i64 (-1), .int .i64 (kp : Int), .int .i64 (k : Int), .int .i64 1]) rfl rfl rfl rfl rfl ?_
        refine walk ?_
        exact retR1 (.inr rfl) rfl (rv_cellA rfl Cells.blk0 rfl) ⟨Ent.auto, ⟨13, (-1), (kp : Int), (k : Int), 1⟩, rfl⟩
  by_cases a1_ : old.a = 1
  · skip
    by_cases f0 : n1 % 6 = 0
    · skip
      refine fn_intro 154 Tryz.func26 rfl rfl rfl ?_
      refine walk ?_
      refine s_box rfl rfl rfl ?_
      intro b2
      refine s_alloc rfl ?_
      intro b4
      refine walk ?_
      rw [hk]
      refine walk ?_
      rw [hn1]
      refine walk ?_
      (first | (apply s_indexAddr (j := k) (o' := om + k * 4); (· exact rfl); (· exact rfl); (· omega); (· omega); (· omega); (· exact rfl)) | skip)
      refine walk ?_
      refine s_alloc rfl ?_
      intro b6
      refine walk ?_
      refine s_storeV (vs := (mcC old)) rfl rfl rfl rfl rfl ?_
      refine walk ?_
      (refine s_build (cs := [.int .i64 14, .int .i64 (-1), .int .i64 old.p, .int .i64 (k : Int), .int .i64 (-1)]) ?_ rfl ?_; (· kernel_rfl))
      refine walk ?_
      refine s_storeV (vs := [.int .i64 14, .int .i64 (-1), .int .i64 old.p, .int .i64 (k : Int), .int .i64 (-1)]) rfl rfl rfl rfl rfl ?_
      refine walk ?_
      exact retR1 (.inr rfl) rfl (rv_cellA rfl Cells.blk0 rfl) ⟨Ent.auto, ⟨14, (-1), old.p, (k : Int), (-1)⟩, rfl⟩
    · skip
      refine fn_intro 154 Tryz.func26 rfl rfl rfl ?_
      refine walk ?_
      refine s_box rfl rfl rfl ?_
      intro b2
      refine s_alloc rfl ?_
      intro b4
      refine walk ?_
      rw [hk]
      refine walk ?_
      rw [hn1]
      refine walk ?_
      (first | (apply s_indexAddr (j := k) (o' := om + k * 4); (· exact rfl); (· exact rfl); (· omega); (· omega); (· omega); (· exact rfl)) | skip)
      refine walk ?_
      refine s_alloc rfl ?_
      intro b6
      refine walk ?_
      refine s_storeV (vs := (mcC old)) rfl rfl rfl rfl rfl ?_
      refine walk ?_
      refine wp_loopF (α := Nat) [9, 10, 65, 66, 67, 68, 69, 70, 71, 72, 73, 74, 75, 76, 77, 78, 79, 80, 81, 82, 83, 84, 85, 86, 87, 88, 89, 90, 91, 92, 93, 94] (fun z => [(9, .int .i64 (z : Nat))]) (fun z => blk b6 (mcC old) 86 + (blk b4 [.int .i64 0, .int .i64 0, .int .i64 0, .int .i64 0, .int .i64 0] 59 + (blk b2 (rfC J ⟨⟨o1_, k1_, o2_, k2_, o3_, k3_⟩, oc_, kc_, ow_, kw_, some ⟨bm, om, none⟩, km_, some ⟨bp, op, none⟩, kp_, ws_⟩) 35 + H)))
        (fun z => z ≤ J.tab.all.length) (fun z => J.tab.all.length - z) 0 agreed Ent.auto (Nat.zero_le _) ?_
      rintro i f hi
      simp only [putAll]
      by_cases hlt : i < J.tab.all.length
      · obtain ⟨g, hg⟩ : ∃ g : Nat, (n1 / 6 + (i : Int)) % J.c.g = (g : Int) := ⟨((n1 / 6 + (i : Int)) % J.c.g).toNat, by have := Int.emod_nonneg (n1 / 6 + (i : Int)) (b := J.c.g) (by omega); omega⟩
        have hgl : g < J.tab.all.length := by have := Int.emod_lt_of_pos (n1 / 6 + (i : Int)) (b := J.c.g) (by omega); omega
        obtain ⟨bS, oS, eS, cS⟩ := hr.stA hgl
        simp only at eS
        subst eS
        obtain ⟨st, hst⟩ : ∃ st, J.tab.all[g].1 = st := ⟨_, rfl⟩
        rw [hst] at cS
        by_cases e1 : st = 1
        · refine walk ?_
          rw [hg]
          refine walk ?_
          (first | (apply s_indexAddr (j := g) (o' := oS + g); (· exact rfl); (· exact rfl); (· omega); (· omega); (· omega); (· exact rfl)) | skip)
          refine walk ?_
          (refine s_build (cs := [.int .i64 2, .int .i64 (g : Int), .int .i64 old.p, .int .i64 (k : Int), .int .i64 (n1 / 3 % 2)]) ?_ rfl ?_; (· kernel_rfl))
          refine walk ?_
          refine s_storeV (vs := [.int .i64 2, .int .i64 (g : Int), .int .i64 old.p, .int .i64 (k : Int), .int .i64 (n1 / 3 % 2)]) rfl rfl rfl rfl rfl ?_
          refine walk ?_
          exact retR1 (.inr rfl) rfl (rv_cellA rfl Cells.blk0 rfl) ⟨Ent.auto, ⟨2, (g : Int), old.p, (k : Int), (n1 / 3 % 2)⟩, rfl⟩
        · refine walk ?_
          rw [hg]
          refine walk ?_
          (first | (apply s_indexAddr (j := g) (o' := oS + g); (· exact rfl); (· exact rfl); (· omega); (· omega); (· omega); (· exact rfl)) | skip)
          refine walk ?_
          exact ⟨i + 1, asided, agreed, Ent.refl _, hlt, by omega⟩
      have hiE : i = J.tab.all.length := by omega
      refine walk ?_
      (refine s_build (cs := [.int .i64 16, .int .i64 (-1), .int .i64 old.p, .int .i64 (-1), .int .i64 (-1)]) ?_ rfl ?_; (· kernel_rfl))
      refine walk ?_
      refine s_storeV (vs := [.int .i64 16, .int .i64 (-1), .int .i64 old.p, .int .i64 (-1), .int .i64 (-1)]) rfl rfl rfl rfl rfl ?_
      refine walk ?_
      exact retR1 (.inr rfl) rfl (rv_cellA rfl Cells.blk0 rfl) ⟨Ent.auto, ⟨16, (-1), old.p, (-1), (-1)⟩, rfl⟩
  by_cases a3 : old.a = 3
  · skip
    by_cases p0 : 0 ≤ old.p
    · skip
      by_cases f0 : n1 % 3 = 0
      · skip
        refine fn_intro 154 Tryz.func26 rfl rfl rfl ?_
        refine walk ?_
        refine s_box rfl rfl rfl ?_
        intro b2
        refine s_alloc rfl ?_
        intro b4
        refine walk ?_
        rw [hk]
        refine walk ?_
        rw [hn1]
        refine walk ?_
        (first | (apply s_indexAddr (j := k) (o' := om + k * 4); (· exact rfl); (· exact rfl); (· omega); (· omega); (· omega); (· exact rfl)) | skip)
        refine walk ?_
        refine s_alloc rfl ?_
        intro b6
        refine walk ?_
        refine s_storeV (vs := (mcC old)) rfl rfl rfl rfl rfl ?_
        refine walk ?_
        (refine s_build (cs := [.int .i64 15, .int .i64 (-1), .int .i64 old.p, .int .i64 (-1), .int .i64 (-1)]) ?_ rfl ?_; (· kernel_rfl))
        refine walk ?_
        refine s_storeV (vs := [.int .i64 15, .int .i64 (-1), .int .i64 old.p, .int .i64 (-1), .int .i64 (-1)]) rfl rfl rfl rfl rfl ?_
        refine walk ?_
        exact retR1 (.inr rfl) rfl (rv_cellA rfl Cells.blk0 rfl) ⟨Ent.auto, ⟨15, (-1), old.p, (-1), (-1)⟩, rfl⟩
      · skip
        by_cases f1 : n1 % 3 = 1
        · skip
          refine fn_intro 154 Tryz.func26 rfl rfl rfl ?_
          refine walk ?_
          refine s_box rfl rfl rfl ?_
          intro b2
          refine s_alloc rfl ?_
          intro b4
          refine walk ?_
          rw [hk]
          refine walk ?_
          rw [hn1]
          refine walk ?_
          (first | (apply s_indexAddr (j := k) (o' := om + k * 4); (· exact rfl); (· exact rfl); (· omega); (· omega); (· omega); (· exact rfl)) | skip)
          refine walk ?_
          refine s_alloc rfl ?_
          intro b6
          refine walk ?_
          refine s_storeV (vs := (mcC old)) rfl rfl rfl rfl rfl ?_
          refine walk ?_
          (refine s_build (cs := [.int .i64 11, .int .i64 old.g, .int .i64 old.b, .int .i64 (k : Int), .int .i64 1]) ?_ rfl ?_; (· kernel_rfl))
          refine walk ?_
          refine s_storeV (vs := [.int .i64 11, .int .i64 old.g, .int .i64 old.b, .int .i64 (k : Int), .int .i64 1]) rfl rfl rfl rfl rfl ?_
          refine walk ?_
          exact retR1 (.inr rfl) rfl (rv_cellA rfl Cells.blk0 rfl) ⟨Ent.auto, ⟨11, old.g, old.b, (k : Int), 1⟩, rfl⟩
        · skip
          refine fn_intro 154 Tryz.func26 rfl rfl rfl ?_
          refine walk ?_
          refine s_box rfl rfl rfl ?_
          intro b2
          refine s_alloc rfl ?_
          intro b4
          refine walk ?_
          rw [hk]
          refine walk ?_
          rw [hn1]
          refine walk ?_
          (first | (apply s_indexAddr (j := k) (o' := om + k * 4); (· exact rfl); (· exact rfl); (· omega); (· omega); (· omega); (· exact rfl)) | skip)
          refine walk ?_
          refine s_alloc rfl ?_
          intro b6
          refine walk ?_
          refine s_storeV (vs := (mcC old)) rfl rfl rfl rfl rfl ?_
          refine walk ?_
          (refine s_build (cs := [.int .i64 11, .int .i64 old.g, .int .i64 old.b, .int .i64 (k : Int), .int .i64 1]) ?_ rfl ?_; (· kernel_rfl))
          refine walk ?_
          refine s_storeV (vs := [.int .i64 11, .int .i64 old.g, .int .i64 old.b, .int .i64 (k : Int), .int .i64 1]) rfl rfl rfl rfl rfl ?_
          refine walk ?_
          exact retR1 (.inr rfl) rfl (rv_cellA rfl Cells.blk0 rfl) ⟨Ent.auto, ⟨11, old.g, old.b, (k : Int), 1⟩, rfl⟩
    · skip
      by_cases f1 : n1 % 3 = 1
      · skip
        refine fn_intro 154 Tryz.func26 rfl rfl rfl ?_
        refine walk ?_
        refine s_box rfl rfl rfl ?_
        intro b2
        refine s_alloc rfl ?_
        intro b4
        refine walk ?_
        rw [hk]
        refine walk ?_
        rw [hn1]
        refine walk ?_
        (first | (apply s_indexAddr (j := k) (o' := om + k * 4); (· exact rfl); (· exact rfl); (· omega); (· omega); (· omega); (· exact rfl)) | skip)
        refine walk ?_
        refine s_alloc rfl ?_
        intro b6
        refine walk ?_
        refine s_storeV (vs := (mcC old)) rfl rfl rfl rfl rfl ?_
        refine walk ?_
        (refine s_build (cs := [.int .i64 12, .int .i64 old.g, .int .i64 (-1), .int .i64 (k : Int), .int .i64 (-1)]) ?_ rfl ?_; (· kernel_rfl))
        refine walk ?_
        refine s_storeV (vs := [.int .i64 12, .int .i64 old.g, .int .i64 (-1), .int .i64 (k : Int), .int .i64 (-1)]) rfl rfl rfl rfl rfl ?_
        refine walk ?_
        exact retR1 (.inr rfl) rfl (rv_cellA rfl Cells.blk0 rfl) ⟨Ent.auto, ⟨12, old.g, (-1), (k : Int), (-1)⟩, rfl⟩
      · skip
        by_cases f2 : n1 % 2 = 0
        · skip
          refine fn_intro 154 Tryz.func26 rfl rfl rfl ?_
          refine walk ?_
          refine s_box rfl rfl rfl ?_
          intro b2
          refine s_alloc rfl ?_
          intro b4
          refine walk ?_
          rw [hk]
          refine walk ?_
          rw [hn1]
          refine walk ?_
          (first | (apply s_indexAddr (j := k) (o' := om + k * 4); (· exact rfl); (· exact rfl); (· omega); (· omega); (· omega); (· exact rfl)) | skip)
          refine walk ?_
          refine s_alloc rfl ?_
          intro b6
          refine walk ?_
          refine s_storeV (vs := (mcC old)) rfl rfl rfl rfl rfl ?_
          refine walk ?_
          (refine s_build (cs := [.int .i64 11, .int .i64 old.g, .int .i64 old.b, .int .i64 (k : Int), .int .i64 1]) ?_ rfl ?_; (· kernel_rfl))
          refine walk ?_
          refine s_storeV (vs := [.int .i64 11, .int .i64 old.g, .int .i64 old.b, .int .i64 (k : Int), .int .i64 1]) rfl rfl rfl rfl rfl ?_
          refine walk ?_
          exact retR1 (.inr rfl) rfl (rv_cellA rfl Cells.blk0 rfl) ⟨Ent.auto, ⟨11, old.g, old.b, (k : Int), 1⟩, rfl⟩
        · skip
          refine fn_intro 154 Tryz.func26 rfl rfl rfl ?_
          refine walk ?_
          refine s_box rfl rfl rfl ?_
          intro b2
          refine s_alloc rfl ?_
          intro b4
          refine walk ?_
          rw [hk]
          refine walk ?_
          rw [hn1]
          refine walk ?_
          (first | (apply s_indexAddr (j := k) (o' := om + k * 4); (· exact rfl); (· exact rfl); (· omega); (· omega); (· omega); (· exact rfl)) | skip)
          refine walk ?_
          refine s_alloc rfl ?_
          intro b6
          refine walk ?_
          refine s_storeV (vs := (mcC old)) rfl rfl rfl rfl rfl ?_
          refine walk ?_
          (refine wp_draw [10] (.look 0 (.look 1 (.look 2 (.look 3 (.look 4 (.look 5 (.look 6 (.look 7 (.look 8 (.look 9 (.act 10 .nil .stop))))))))))) (by kernel_rfl) ?_; refine dwP ?_; refine dwL ?_; refine dwP ?_; refine dwP ?_; refine dwP ?_; refine dwP ?_; refine dwL ?_; refine dwP ?_; refine dwP ?_; (apply dw_pure; (· exact rfl); (· exact rfl); (· (intro G; (refine s_build (cs := [.int .i64 11, .int .i64 old.g, .int .i64 (n1 / 3 % J.c.n), .int .i64 (k : Int), .int .i64 0]) (by kernel_rfl) rfl ?_); exact looked))); skip)
          refine dw_do0 rfl rfl ?_ dw_stop
          refine s_storeV (vs := [.int .i64 11, .int .i64 old.g, .int .i64 (n1 / 3 % J.c.n), .int .i64 (k : Int), .int .i64 0]) rfl rfl rfl rfl rfl ?_
          refine wpl_nil (qone0 ⟨(by refine st_past (by kernel_rfl) ?_; refine st_past (by kernel_rfl) ?_; exact st_nil), ?_⟩)
          (refine dw_nil ?_; skip)
          refine walk ?_
          exact retR1 (.inr rfl) rfl (rv_cellA rfl Cells.blk0 rfl) ⟨Ent.auto, ⟨11, old.g, n1 / 3 % J.c.n, k, 0⟩, rfl⟩
  refine fn_intro 154 Tryz.func26 rfl rfl rfl ?_
  refine walk ?_
  refine s_box rfl rfl rfl ?_
  intro b2
  refine s_alloc rfl ?_
  intro b4
  refine walk ?_
  rw [hk]
  refine walk ?_
  rw [hn1]
  refine walk ?_
  (first | (apply s_indexAddr (j := k) (o' := om + k * 4); (· exact rfl); (· exact rfl); (· omega); (· omega); (· omega); (· exact rfl)) | skip)
  refine walk ?_
  refine s_alloc rfl ?_
  intro b6
  refine walk ?_
  refine s_storeV (vs := (mcC old)) rfl rfl rfl rfl rfl ?_
  refine walk ?_
  refine s_call rfl (dRuns (J := J) (a := ⟨⟨o1_, k1_, o2_, k2_, o3_, k3_⟩, oc_, kc_, ow_, kw_, some ⟨bm, om, none⟩, km_, some ⟨bp, op, none⟩, kp_, ws_⟩) (k := k) (n := n1) (hrR.ent InH.ent) ok hK hkl h0) rfl ?_
  rintro _ _ ⟨rfl, nt, rfl⟩
  refine walk ?_
  refine s_storeV (vs := (nv nt)) rfl rfl rfl rfl rfl ?_
  refine walk ?_
  exact retR1 (.inr rfl) rfl (rv_cellA rfl Cells.blk0 rfl) ⟨Ent.auto, nt, rfl⟩
end
end Go.Proofs.YtlhnmbajbhaaoaaGreat
namespace Go.Proofs.YtlhnmbajbhaaoaaGreat
open Go Go.SL
set_option linter.unusedSimpArgs false
set_option linter.unusedVariables false
set_option maxRecDepth 10000
set_option maxHeartbeats 8000000
attribute [local irreducible] WP WPL QSeq QBlk QRet Does Cell Cells Rd Mine Ent Aside RV Yield TabAt SemAt IdeAt newI newJ I6 takeI
section
variable {B : World} {H F G : HProp}
theorem known_law : Does Tryz.prog B 5 [] H fun r H' => H' = H ∧ r = .bool true := by
  refine Does.frame0 ?_
  refine fn_intro 92 Tryz.func5 rfl rfl rfl ?_
  refine walk ?_
  refine wp_loopF (α := Nat × Int) [0, 1, 2, 3, 4, 5, 6, 7, 8, 9, 10, 11, 12, 13, 14, 15, 16, 17, 18, 19, 20, 21, 22, 23, 24, 25, 26, 27, 28, 29, 30, 31, 32, 33, 34, 35, 36, 37, 38, 39, 40, 41, 42, 43, 44, 45, 46, 47, 48, 49, 50, 51, 52, 53, 54, 55, 56, 57, 58, 59, 60, 61, 62, 63, 64, 65, 66, 67, 68, 69, 70, 71, 72, 73, 74, 75, 76, 77, 78, 79, 80, 81, 82, 83, 84, 85] (fun z => [(1, .int .i64 z.2), (2, .int .i64 (z.1 : Nat))]) (fun _ => H) (fun z => z.1 ≤ 40 ∧ 0 ≤ z.2 ∧ z.2 < 100003) (fun z => 40 - z.1) (0, 1) agreed (Ent.refl _) ⟨Nat.zero_le _, by simp only; omega⟩ ?_
  rintro ⟨i, k0⟩ f ⟨hi, hk0⟩
  simp only at hi hk0
  simp only [putAll]
  by_cases hlt : i < 40
  · refine walk ?_
    refine s_build (cs := cv ⟨i, i / 3, i, i / 5, 3, i⟩) (by kernel_rfl) rfl ?_
    refine walk ?_
    refine s_call rfl (dMade (c0 := ⟨i, i / 3, i, i / 5, 3, i⟩)) rfl ?_
    rintro _ _ ⟨e_, c, rfl, hr, hg⟩
    obtain rfl := e_.symm
    have hrp := hr
    obtain ⟨_, c1, c2, c3, c4, c5, c6, _, _, c9, c10⟩ := hrp
    refine walk ?_
    refine s_alloc rfl ?_
    intro b4
    refine walk ?_
    refine s_storeV (vs := (cv c)) rfl rfl rfl rfl rfl ?_
    refine walk ?_
    refine s_call rfl (dConfig (c := c)) rfl ?_
    rintro _ _ ⟨e_, rfl⟩
    obtain rfl := e_.symm
    refine walk ?_
    refine walk ?_
    refine s_call rfl (rNew27 (c := c) hr) rfl ?_
    rintro _ _ ⟨X1, a1, rfl, rfl, hX1⟩
    have okN : (newJ c).ok 1 := (sim_new c).ok (new_ok hr)
    have inN : Inv (newJ c) [c.s, c.s, c.s, c.s] := (sim_new c).inv (inv_new hr)
    refine walk ?_
    refine s_alloc rfl ?_
    intro b5
    refine walk ?_
    refine s_storeV (vs := (rfC (newJ c) a1)) rfl rfl rfl rfl rfl ?_
    refine walk ?_
    refine wp_loopF (α := Nat × Int × List Nt × (Option Addr × Nat) × Ide × RA × HProp) [1, 3, 6, 7, 24, 25, 26, 27, 28, 29, 30, 31, 32, 33, 34, 35, 36, 37, 38, 39, 40, 41, 42, 43, 44, 45, 46, 47, 48, 49, 50, 51, 52, 53, 54, 55, 56] (fun z => [(1, .int .i64 z.2.1), (3, .slice z.2.2.2.1.1 z.2.2.1.length z.2.2.2.1.2), (6, .int .i64 (z.1 : Nat))])
      (fun z => Mine 59 5 (.slice z.2.2.2.1.1 z.2.2.1.length z.2.2.2.1.2) z.2.2.1.length (nvs z.2.2.1) + (blk b5 (rfC z.2.2.2.2.1 z.2.2.2.2.2.1) 35 + (blk b4 (cv c) 23 + (z.2.2.2.2.2.2 + H))))
      (fun z => z.1 ≤ 90 ∧ (0 ≤ z.2.1 ∧ z.2.1 < 100003) ∧ z.2.2.1.length ≤ z.1 ∧ z.2.2.2.2.1.ok (1 + 3 * z.1) ∧ (∃ cnt, Inv z.2.2.2.2.1 cnt) ∧ RI B z.2.2.2.2.2.2 z.2.2.2.2.1 z.2.2.2.2.2.1) (fun z => 90 - z.1) (0, k0, [], (none, 0), newJ c, a1, X1) agreed ?_ ⟨Nat.zero_le _, hk0, Nat.le_refl _, by simpa using okN, ⟨_, inN⟩, hX1⟩ ?_
    · show Ent _ (Mine 59 5 (.slice none 0 0) 0 [] + (blk b5 (rfC (newJ c) a1) 35 + (blk b4 (cv c) 23 + (X1 + H))))
      rw [Mine.nil, HProp.emp_add]
      exact Ent.auto
    rintro ⟨j, k, l, ⟨ao, cap⟩, J, a, X⟩ f2 ⟨hj, hk, hll, okJ, ⟨cnt, inJ⟩, hR⟩
    simp only at hj hk hll okJ inJ hR
    simp only [putAll]
    by_cases hjt : j < 90
    · have ok3 : J.ok (1 + 3 * ((j + 1 : Nat) : Int)) := by
        have e : 1 + 3 * ((j + 1 : Nat) : Int) = 1 + 3 * (j : Int) + 1 + 1 + 1 := by omega
        rw [e]; exact okJ.mono.mono.mono
      refine walk ?_
      refine s_call rfl (dNext (J := J) (a := a) (n := k) (by exact hR.ent Ent.auto) okJ (by omega) (by omega)) rfl ?_
      rintro _ _ ⟨e_, nt, rfl⟩
      obtain rfl := e_.symm
      refine walk ?_
      refine s_alloc rfl ?_
      intro b7
      refine walk ?_
      refine s_storeV (vs := (nv nt)) rfl rfl rfl rfl rfl ?_
      refine walk ?_
      (refine wp_draw [2, 3] (.look 0 (.look 1 (.act 2 (.act 3 .nil .stop) .stop))) (by kernel_rfl) ?_; refine dwL ?_; refine dwL ?_; skip)
      refine dw_do rfl rfl ?_ dw_stop
      refine s_call rfl (dNote (n := nt)) rfl ?_
      rintro _ _ ⟨e_, rfl⟩
      obtain rfl := e_.symm
      refine wpl_nil (qone ⟨(by refine st_past (by kernel_rfl) ?_; (refine st_again ?_ ?_; (· exact looked)); exact st_nil), ?_⟩)
      (skip)
      refine dw_do rfl rfl ?_ dw_stop
      refine s_call rfl (rMay (J := J) (a := a) (n := nt) (by exact hR.ent Ent.auto) okJ inJ) rfl ?_
      rintro _ _ ⟨e_, rfl⟩
      obtain rfl := e_.symm
      refine wpl_nil (qone ⟨(by refine st_past (by kernel_rfl) ?_; refine st_past (by kernel_rfl) ?_; exact st_nil), ?_⟩)
      (refine dw_nil ?_; skip)
      by_cases hmay : mayB J nt = true
      · have okS : (stepI J nt).ok (1 + 3 * ((j + 1 : Nat) : Int)) := by
          have e : 1 + 3 * ((j + 1 : Nat) : Int) = 1 + 3 * (j : Int) + 3 := by omega
          rw [e]; exact okJ.step hmay
        have inS := inv_step inJ okJ hmay
        rw [hmay]
        refine walk ?_
        (refine wp_draw [2, 3, 4] (.look 0 (.look 1 (.act 2 (.act 3 (.act 4 .nil .stop) .stop) .stop))) (by kernel_rfl) ?_; refine dwL ?_; refine dwL ?_; skip)
        refine dw_do rfl rfl ?_ dw_stop
        refine s_call rfl (dNote (n := nt)) rfl ?_
        rintro _ _ ⟨e_, rfl⟩
        obtain rfl := e_.symm
        refine wpl_nil (qone ⟨(by refine st_past (by kernel_rfl) ?_; (refine st_again ?_ ?_; (· exact looked)); exact st_nil), ?_⟩)
        (skip)
        refine dw_do rfl rfl ?_ dw_stop
        refine s_call rfl (rDo (J := J) (a := a) (n := nt) (G := X) hR (by exact Ent.auto) okJ (by omega) inJ hmay) rfl ?_
        rintro _ _ ⟨X2, a2, rfl, rfl, hr2⟩
        refine wpl_nil (qone ⟨(by refine st_past (by kernel_rfl) ?_; refine st_past (by kernel_rfl) ?_; exact st_nil), ?_⟩)
        (skip)
        refine dw_do0 rfl rfl ?_ dw_stop
        refine s_storeV (vs := rfC (stepI J nt) a2) rfl rfl rfl rfl rfl ?_
        refine wpl_nil (qone0 ⟨(by refine st_past (by kernel_rfl) ?_; refine st_past (by kernel_rfl) ?_; exact st_nil), ?_⟩)
        (refine dw_nil ?_; skip)
        refine walk ?_
        refine s_buildSlice (cs := nv nt) rfl ?_ rfl ?_
        · kernel_rfl
        intro bn
        refine walk ?_
        refine s_append (v := .slice ao l.length cap) rfl rfl (Rd.blk0 (m := 1) (sz := 5) (e := 59) rfl (by simp [maxLen])) rfl rfl ?_ rfl ?_
        · simp only [maxLen]; omega
        intro v'
        refine WPL.shape ?_
        rintro ao2 cap2 rfl _ _ _
        rw [← len_push l nt]
        refine walk ?_
        exact ⟨(j + 1, (k * 31 + 7 * (j : Int) + 11) % 100003, l ++ [nt], (ao2, cap2), stepI J nt, a2, X2 + X), asided, agreed, by simp only [nvs_push, HProp.add_assoc]; exact Ent.auto, ⟨by omega, by simp only; omega, by simp only [List.length_append, List.length_cons, List.length_nil]; omega, okS, ⟨_, inS⟩, hr2⟩, by simp only; omega⟩
      · have hmay : mayB J nt = false := by simpa using hmay
        rw [hmay]
        by_cases h7 : (j : Int) % 7 = 0
        · refine walk ?_
          refine s_buildSlice (cs := nv nt) rfl ?_ rfl ?_
          · kernel_rfl
          intro bn
          refine walk ?_
          refine s_append (v := .slice ao l.length cap) rfl rfl (Rd.blk0 (m := 1) (sz := 5) (e := 59) rfl (by simp [maxLen])) rfl rfl ?_ rfl ?_
          · simp only [maxLen]; omega
          intro v'
          refine WPL.shape ?_
          rintro ao2 cap2 rfl _ _ _
          rw [← len_push l nt]
          refine walk ?_
          exact ⟨(j + 1, (k * 31 + 7 * (j : Int) + 11) % 100003, l ++ [nt], (ao2, cap2), J, a, X), asided, agreed, by simp only [nvs_push, HProp.add_assoc]; exact Ent.auto, ⟨by omega, by simp only; omega, by simp only [List.length_append, List.length_cons, List.length_nil]; omega, ok3, ⟨_, inJ⟩, hR⟩, by simp only; omega⟩
        · refine walk ?_
          exact ⟨(j + 1, (k * 31 + 7 * (j : Int) + 11) % 100003, l, (ao, cap), J, a, X), asided, agreed, Ent.auto, ⟨by omega, by simp only; omega, by simp only; omega, ok3, ⟨_, inJ⟩, hR⟩, by simp only; omega⟩
    · have hj90 : j = 90 := by omega
      refine WP.split (Mine 59 5 (.slice ao l.length cap) l.length (nvs l)) (WP.rd fun rdL => ?_)
      refine walk ?_
      refine s_call rfl (plays_law (c := c) (l := l) (by exact rdL.ent InH.ent)) rfl ?_
      rintro _ _ ⟨e_, rfl⟩
      obtain rfl := e_.symm
      refine walk ?_
      refine s_call rfl (takes_law (c := c) (l := l) (by exact rdL.ent InH.ent)) rfl ?_
      rintro _ _ ⟨e_, rfl⟩
      obtain rfl := e_.symm
      refine walk ?_
      refine s_call rfl (keeps_law (c := c) (l := l) (by exact rdL.ent InH.ent)) rfl ?_
      rintro _ _ ⟨e_, rfl⟩
      obtain rfl := e_.symm
      refine walk ?_
      refine s_build (cs := nv ⟨(i : Int) % 18, 1, 0, 0, 0⟩) (by kernel_rfl) rfl ?_
      refine walk ?_
      refine s_call rfl (none_law (n := ⟨(i : Int) % 18, 1, 0, 0, 0⟩)) rfl ?_
      rintro _ _ ⟨e_, rfl⟩
      obtain rfl := e_.symm
      refine walk ?_
      exact ⟨(i + 1, k), asided, agreed, Ent.auto, ⟨by omega, hk⟩, by simp only; omega⟩
  · have hi40 : i = 40 := by omega
    refine walk ?_
    refine s_build (cs := cv ⟨0, 0, 0, 0, 0, 0⟩) (by kernel_rfl) rfl ?_
    refine walk ?_
    refine s_call rfl notes_spec rfl ?_
    rintro _ _ ⟨b, rfl, rfl⟩
    refine walk ?_
    refine s_call rfl (plays_law (c := ⟨0, 0, 0, 0, 0, 0⟩) (l := l0) (s := .slice (some ⟨b, 0, none⟩) 7 7) (Rd.ent (G := blk b (nvs l0) 59) (Rd.blk0 (e := 59) (nvs_len _) (by simp [maxLen])) InH.ent)) rfl ?_
    rintro _ _ ⟨e_, rfl⟩
    obtain rfl := e_.symm
    refine walk ?_
    refine s_call rfl (works_spec) rfl ?_
    rintro _ _ ⟨e_, rfl⟩
    obtain rfl := e_.symm
    refine walk ?_
    (first | (apply retRD1 (G := H) (.inr rfl) rfl; (· first | (refine rv_tmp (v := .bool _) rfl) | exact rv_tmp rfl); (· exact Ent.auto)) | (apply retRD1 (G := H) (.inl rfl) rfl; (· first | (refine rv_tmp (v := .bool _) rfl) | exact rv_tmp rfl); (· exact Ent.auto)))
    exact ⟨Ent.refl _, rfl⟩
end
end Go.Proofs.YtlhnmbajbhaaoaaGreat
