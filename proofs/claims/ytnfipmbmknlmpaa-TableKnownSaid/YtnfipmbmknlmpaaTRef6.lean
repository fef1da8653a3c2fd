/- The table and its reference: are they alike? No condition. -/
import Derived.Test.YtnfipmbmknlmpaaTRef5
namespace Go.Proofs.Ytnfipmbmknlmpaa
open Go Go.SL
set_option linter.unusedSimpArgs false
set_option linter.unusedVariables false
set_option maxRecDepth 10000
attribute [local irreducible] WP WPL QSeq QBlk QRet Does Cell Cells Rd Own Ent Aside RV TabX TabAt

section
variable {B : World} {F H : HProp} {p : Nat} {T U : Tab}
theorem sameTable_spec {r : Value} (hr : RefV B H r U) (h1 : T.all.length ≤ 256) (h2 : T.row.length ≤ 1000000) (h3 : U.all.length ≤ 1000000) :
    Does Try.prog B 26 [.pointer (some ⟨p, 0, none⟩), r] (TabAt p T + H) fun v H' => Ent H' (TabAt p T + H) ∧ v = .bool (decide (T.all = U.all ∧ T.row = U.row)) := by
  obtain ⟨s1, s2, s3, rfl, r1, r2, r3⟩ := hr
  have r1' := r1
  have r2' := r2
  have r3' := r3
  unfold Rd at r1' r2' r3'
  obtain ⟨o1, k1, rfl, l1, _, a1⟩ := r1'
  obtain ⟨o2, k2, rfl, l2, _, a2⟩ := r2'
  obtain ⟨o3, k3, rfl, l3, _, a3⟩ := r3'
  refine fn_intro 69 Try.func26 rfl rfl rfl ?_
  refine walk ?_
  refine s_box rfl rfl rfl ?_
  intro b3
  refine walk ?_
  refine WPL.ent (Ent.ac (show _ = TabAt p T + (blk b3 [.slice o1 U.all.length k1, .slice o2 U.all.length k2, .slice o3 U.row.length k3] 28 + H) by ac_rfl)) ?_
  refine s_call rfl (row_spec h2) rfl ?_
  rintro v H' ⟨X, he, rfl⟩
  refine WPL.ent he (WPL.shape ?_)
  rintro ar cr rfl _ hcr _
  refine WPL.rd fun rdr => ?_
  refine WPL.ent (Ent.ac (show _ = TabAt p T + (Own 3 1 (.slice ar T.row.length cr) T.row.length (zs T.row) + (blk b3 [.slice o1 U.all.length k1, .slice o2 U.all.length k2, .slice o3 U.row.length k3] 28 + H)) by ac_rfl)) ?_
  refine walk ?_
  by_cases hlen : T.all.length = U.all.length
  · (refine wp_draw [1, 10] (.look 0 (.look 2 (.look 3 (.look 4 (.act 1 (.look 5 (.look 6 (.look 7 (.look 8 (.look 9 (.act 10 (.look 11 (.look 12 .nil)) .stop)))))) .stop))))) (by kernel_rfl) ?_; (apply dw_pure; (· exact rfl); (· exact rfl); (· (intro G; exact looked))); (apply dw_pure; (· exact rfl); (· exact rfl); (· (intro G; exact looked))); (apply dw_look; (· exact rfl); (· exact rfl); (· exact looked)); (apply dw_pure; (· exact rfl); (· exact rfl); (· (intro G; exact looked))); skip)
    refine dw_do rfl rfl ?_ dw_stop
    refine s_call rfl len_spec rfl ?_
    rintro _ H' ⟨he, rfl⟩
    refine WPL.ent he ?_
    refine wpl_nil (qone ⟨(by (refine st_again ?_ ?_; (· exact looked)); exact st_nil), ?_⟩)
    ((apply dw_pure; (· exact rfl); (· exact rfl); (· (intro G; exact looked))); (apply dw_pure; (· exact rfl); (· exact rfl); (· (intro G; exact looked))); (apply dw_pure; (· exact rfl); (· exact rfl); (· (intro G; exact looked))); (apply dw_pure; (· exact rfl); (· exact rfl); (· (intro G; exact looked))); (apply dw_look; (· exact rfl); (· exact rfl); (· exact looked)); skip)
    refine dw_do rfl rfl ?_ dw_stop
    refine walk ?_
    refine s_call rfl (sameInts_spec (xs := T.row) (ys := U.row) (rdr.ent InH.ent) (r3.ent InH.ent)) rfl ?_
    rintro _ _ ⟨rfl, rfl⟩
    refine wpl_nil (qone ⟨(by refine st_past (by kernel_rfl) ?_; refine st_past (by kernel_rfl) ?_; exact st_nil), ?_⟩)
    by_cases hrow : T.row = U.row
    · rw [decide_eq_true hrow]
      ((apply dw_pure; (· exact rfl); (· exact rfl); (· (intro G; exact looked))); (apply dw_pure; (· exact rfl); (· exact rfl); (· (intro G; exact looked))); refine dw_nil ?_; skip)
      refine walk ?_
      refine wp_loopF (α := Nat × List Int) [6, 25, 26, 27, 28, 29, 30, 31, 32, 33] (fun x => [(6, .int .i64 x.1)])
        (fun x => Own 3 1 (.slice ar T.row.length cr) T.row.length (zs x.2) + (TabAt p T + (blk b3 [.slice o1 U.all.length k1, .slice o2 U.all.length k2, .slice o3 U.row.length k3] 28 + H))) (fun x => x.1 ≤ T.row.length ∧ x.2.length = T.row.length) (fun x => T.row.length - x.1) (0, T.row) agreed (Ent.ac (by ac_rfl)) ⟨Nat.zero_le _, rfl⟩ ?_
      rintro ⟨k, l⟩ g ⟨hk, hll⟩
      simp only at hk hll
      simp only [putAll]
      by_cases hlt : k < T.row.length
      · refine WP.shape fun _ _ hv _ d1 d2 => ?_
        cases hv
        refine WP.open (by omega) ?_
        rintro gr sp rfl hsp
        refine walk ?_
        refine s_store (v := .int _ _) (cs' := zs (l.set k 77) ++ sp) rfl rfl rfl (by simp [zs_length, hll]; omega) ?_ ?_
        · rw [List.set_append_left _ _ (by rw [zs_length]; omega), zs_set]
        refine walk ?_
        refine ⟨(k + 1, l.set k 77), asided, agreed, ?_, ⟨hlt, by simp [hll]⟩, by simp only; omega⟩
        exact Ent.step (A := blk gr (zs (l.set k 77) ++ sp) 3) (Own.of_blk (spare := sp) rfl (by rw [zs_length, List.length_set, hll, Nat.mul_one]) d1 d2 (by simp [zs_length] at hsp ⊢; omega)) (Ent.refl _)
      · refine walk ?_
        refine wp_loopF (α := Nat) [4, 7, 8, 9, 34, 35, 36, 37, 38, 39, 40, 41, 42, 43, 44, 45, 46, 47, 48, 49, 50, 51, 52, 53, 54, 55, 56, 57, 58, 59, 60, 61, 62, 63, 64, 65, 66, 67, 68] (fun x => [(7, .int .i64 x)])
          (fun _ => TabAt p T + (Own 3 1 (.slice ar T.row.length cr) T.row.length (zs l) + (blk b3 [.slice o1 U.all.length k1, .slice o2 U.all.length k2, .slice o3 U.row.length k3] 28 + H))) (fun x => x ≤ T.all.length ∧ T.all.take x = U.all.take x) (fun x => T.all.length - x) 0 agreed (Ent.ac (by ac_rfl)) ⟨Nat.zero_le _, rfl⟩ ?_
        rintro j g2 ⟨hj, htake⟩
        simp only [putAll]
        by_cases hjl : j < T.all.length
        · have hju : j < U.all.length := by omega
          obtain ⟨ba, oa, rfl, hcs⟩ := Rd.addr l1 a1 hju
          obtain ⟨bb, ob, rfl, hcs2⟩ := Rd.addr l2 a2 hju
          have hcell := hcs.cell (show (zs U.st)[j]? = some (.int .i64 U.all[j].1) by simp [zs, Tab.st, hju])
          have hcell2 := hcs2.cell (show (zs U.bn)[j]? = some (.int .i64 U.all[j].2) by simp [zs, Tab.bn, hju])
          have hc1 := ((hcell.left (blk b3 [.slice (some ⟨ba, oa, none⟩) U.all.length k1, .slice (some ⟨bb, ob, none⟩) U.all.length k2, .slice o3 U.row.length k3] 28)).left (Own 3 1 (.slice ar T.row.length cr) T.row.length (zs l))).left (TabAt p T)
          have hc2 := ((hcell2.left (blk b3 [.slice (some ⟨ba, oa, none⟩) U.all.length k1, .slice (some ⟨bb, ob, none⟩) U.all.length k2, .slice o3 U.row.length k3] 28)).left (Own 3 1 (.slice ar T.row.length cr) T.row.length (zs l))).left (TabAt p T)
          refine walk ?_
          refine s_call rfl status_spec rfl ?_
          rintro v H' ⟨he, hv, _⟩
          obtain rfl := hv j rfl hjl
          refine WPL.ent he ?_
          refine walk ?_
          by_cases hst : T.all[j].1 = U.all[j].1
          · by_cases hbn : T.all[j].2 = U.all[j].2
            · (refine wp_draw [14] (.look 0 (.look 1 (.look 2 (.look 3 (.look 4 (.look 5 (.look 6 (.look 7 (.look 8 (.look 9 (.look 10 (.look 11 (.look 12 (.look 13 (.look 15 (.look 16 (.look 17 (.look 18 (.look 19 (.act 14 (.look 20 (.look 21 .nil)) .stop)))))))))))))))))))) (by kernel_rfl) ?_; (apply dw_pure; (· exact rfl); (· exact rfl); (· (intro G; exact looked))); (apply dw_pure; (· exact rfl); (· exact rfl); (· (intro G; exact looked))); (apply dw_look; (· exact rfl); (· exact rfl); (· exact looked)); (apply dw_pure; (· exact rfl); (· exact rfl); (· (intro G; exact looked))); (apply dw_pure; (· exact rfl); (· exact rfl); (· (intro G; exact looked))); (apply dw_look; (· exact rfl); (· exact rfl); (· exact looked)); (apply dw_pure; (· exact rfl); (· exact rfl); (· (intro G; exact looked))); (apply dw_pure; (· exact rfl); (· exact rfl); (· (intro G; exact looked))); (apply dw_pure; (· exact rfl); (· exact rfl); (· (intro G; exact looked))); (apply dw_pure; (· exact rfl); (· exact rfl); (· (intro G; exact looked))); (apply dw_pure; (· exact rfl); (· exact rfl); (· (intro G; exact looked))); (apply dw_pure; (· exact rfl); (· exact rfl); (· (intro G; exact looked))); (apply dw_pure; (· exact rfl); (· exact rfl); (· (intro G; exact looked))); (apply dw_pure; (· exact rfl); (· exact rfl); (· (intro G; exact looked))); (apply dw_pure; (· exact rfl); (· exact rfl); (· (intro G; exact looked))); (apply dw_look; (· exact rfl); (· exact rfl); (· exact looked)); (apply dw_pure; (· exact rfl); (· exact rfl); (· (intro G; exact looked))); (apply dw_pure; (· exact rfl); (· exact rfl); (· (intro G; exact looked))); (apply dw_look; (· exact rfl); (· exact rfl); (· exact looked)); skip)
              refine dw_do rfl rfl ?_ dw_stop
              refine walk ?_
              refine s_call rfl born_spec rfl ?_
              rintro v H' ⟨he, hv, _⟩
              obtain rfl := hv j rfl hjl
              refine WPL.ent he ?_
              refine wpl_nil (qone ⟨(by (refine st_again ?_ ?_; (· exact looked)); (refine st_again ?_ ?_; (· exact looked)); refine st_past (by kernel_rfl) ?_; refine st_past (by kernel_rfl) ?_; exact st_nil), ?_⟩)
              ((apply dw_pure; (· exact rfl); (· exact rfl); (· (intro G; exact looked))); (apply dw_pure; (· exact rfl); (· exact rfl); (· (intro G; exact looked))); refine dw_nil ?_; skip)
              refine walk ?_
              exact ⟨j + 1, asided, agreed, Ent.refl _, ⟨hjl, take_next hjl hju htake (Prod.ext hst hbn)⟩, by omega⟩
            · have hne : ¬ T.all = U.all := by intro e; apply hbn; simp only [e]
              (refine wp_draw [14] (.look 0 (.look 1 (.look 2 (.look 3 (.look 4 (.look 5 (.look 6 (.look 7 (.look 8 (.look 9 (.look 10 (.look 11 (.look 12 (.look 13 (.look 15 (.look 16 (.look 17 (.look 18 (.look 19 (.act 14 (.look 20 (.look 21 .nil)) .stop)))))))))))))))))))) (by kernel_rfl) ?_; (apply dw_pure; (· exact rfl); (· exact rfl); (· (intro G; exact looked))); (apply dw_pure; (· exact rfl); (· exact rfl); (· (intro G; exact looked))); (apply dw_look; (· exact rfl); (· exact rfl); (· exact looked)); (apply dw_pure; (· exact rfl); (· exact rfl); (· (intro G; exact looked))); (apply dw_pure; (· exact rfl); (· exact rfl); (· (intro G; exact looked))); (apply dw_look; (· exact rfl); (· exact rfl); (· exact looked)); (apply dw_pure; (· exact rfl); (· exact rfl); (· (intro G; exact looked))); (apply dw_pure; (· exact rfl); (· exact rfl); (· (intro G; exact looked))); (apply dw_pure; (· exact rfl); (· exact rfl); (· (intro G; exact looked))); (apply dw_pure; (· exact rfl); (· exact rfl); (· (intro G; exact looked))); (apply dw_pure; (· exact rfl); (· exact rfl); (· (intro G; exact looked))); (apply dw_pure; (· exact rfl); (· exact rfl); (· (intro G; exact looked))); (apply dw_pure; (· exact rfl); (· exact rfl); (· (intro G; exact looked))); (apply dw_pure; (· exact rfl); (· exact rfl); (· (intro G; exact looked))); (apply dw_pure; (· exact rfl); (· exact rfl); (· (intro G; exact looked))); (apply dw_look; (· exact rfl); (· exact rfl); (· exact looked)); (apply dw_pure; (· exact rfl); (· exact rfl); (· (intro G; exact looked))); (apply dw_pure; (· exact rfl); (· exact rfl); (· (intro G; exact looked))); (apply dw_look; (· exact rfl); (· exact rfl); (· exact looked)); skip)
              refine dw_do rfl rfl ?_ dw_stop
              refine walk ?_
              refine s_call rfl born_spec rfl ?_
              rintro v H' ⟨he, hv, _⟩
              obtain rfl := hv j rfl hjl
              refine WPL.ent he ?_
              refine wpl_nil (qone ⟨(by (refine st_again ?_ ?_; (· exact looked)); (refine st_again ?_ ?_; (· exact looked)); refine st_past (by kernel_rfl) ?_; refine st_past (by kernel_rfl) ?_; exact st_nil), ?_⟩)
              ((apply dw_pure; (· exact rfl); (· exact rfl); (· (intro G; exact looked))); (apply dw_pure; (· exact rfl); (· exact rfl); (· (intro G; exact looked))); refine dw_nil ?_; skip)
              refine walk ?_
              refine ret1 (v := .bool _) (.inr rfl) rfl rfl ⟨?_, by simp [hne]⟩
              exact Ent.step (A := TabAt p T) (Ent.refl _) InH.ent
          · have hne : ¬ T.all = U.all := by intro e; apply hst; simp only [e]
            (refine wp_draw [] (.look 0 (.look 1 (.look 2 (.look 3 (.look 4 (.look 5 (.look 6 (.look 7 (.look 8 (.look 9 (.look 10 (.look 11 (.look 12 (.look 13 (.look 14 (.look 15 (.look 16 (.look 17 (.look 18 (.look 19 (.look 20 (.look 21 .nil)))))))))))))))))))))) (by kernel_rfl) ?_; (apply dw_pure; (· exact rfl); (· exact rfl); (· (intro G; exact looked))); (apply dw_pure; (· exact rfl); (· exact rfl); (· (intro G; exact looked))); (apply dw_look; (· exact rfl); (· exact rfl); (· exact looked)); (apply dw_pure; (· exact rfl); (· exact rfl); (· (intro G; exact looked))); (apply dw_pure; (· exact rfl); (· exact rfl); (· (intro G; exact looked))); (apply dw_look; (· exact rfl); (· exact rfl); (· exact looked)); (apply dw_pure; (· exact rfl); (· exact rfl); (· (intro G; exact looked))); (apply dw_pure; (· exact rfl); (· exact rfl); (· (intro G; exact looked))); (apply dw_pure; (· exact rfl); (· exact rfl); (· (intro G; exact looked))); (apply dw_pure; (· exact rfl); (· exact rfl); (· (intro G; exact looked))); (apply dw_pure; (· exact rfl); (· exact rfl); (· (intro G; exact looked))); (apply dw_pure; (· exact rfl); (· exact rfl); (· (intro G; exact looked))); (apply dw_pure; (· exact rfl); (· exact rfl); (· (intro G; exact looked))); (apply dw_pure; (· exact rfl); (· exact rfl); (· (intro G; exact looked))); (apply dw_pure; (· exact rfl); (· exact rfl); (· (intro G; exact looked))); (apply dw_pure; (· exact rfl); (· exact rfl); (· (intro G; exact looked))); (apply dw_look; (· exact rfl); (· exact rfl); (· exact looked)); (apply dw_pure; (· exact rfl); (· exact rfl); (· (intro G; exact looked))); (apply dw_pure; (· exact rfl); (· exact rfl); (· (intro G; exact looked))); (apply dw_look; (· exact rfl); (· exact rfl); (· exact looked)); (apply dw_pure; (· exact rfl); (· exact rfl); (· (intro G; exact looked))); (apply dw_pure; (· exact rfl); (· exact rfl); (· (intro G; exact looked))); refine dw_nil ?_)
            refine walk ?_
            refine ret1 (v := .bool _) (.inr rfl) rfl rfl ⟨?_, by simp [hne]⟩
            exact Ent.step (A := TabAt p T) (Ent.refl _) InH.ent
        · have heq := take_eq_of (show T.all.length = j by omega) hlen htake
          refine walk ?_
          refine ret1 (v := .bool _) (.inr rfl) rfl rfl ⟨?_, by simp [heq, hrow]⟩
          exact Ent.step (A := TabAt p T) (Ent.refl _) InH.ent
    · rw [decide_eq_false hrow]
      ((apply dw_pure; (· exact rfl); (· exact rfl); (· (intro G; exact looked))); (apply dw_pure; (· exact rfl); (· exact rfl); (· (intro G; exact looked))); refine dw_nil ?_; skip)
      refine walk ?_
      refine ret1 (v := .bool _) (.inr rfl) rfl rfl ⟨?_, by simp [hrow]⟩
      exact Ent.step (A := TabAt p T) (Ent.refl _) InH.ent
  · have hne : ¬ T.all = U.all := by intro e; exact hlen (by rw [e])
    (refine wp_draw [1] (.look 0 (.look 2 (.look 3 (.look 4 (.act 1 (.look 5 (.look 6 (.look 7 (.look 8 (.look 9 (.look 10 (.look 11 (.look 12 .nil)))))))) .stop))))) (by kernel_rfl) ?_; (apply dw_pure; (· exact rfl); (· exact rfl); (· (intro G; exact looked))); (apply dw_pure; (· exact rfl); (· exact rfl); (· (intro G; exact looked))); (apply dw_look; (· exact rfl); (· exact rfl); (· exact looked)); (apply dw_pure; (· exact rfl); (· exact rfl); (· (intro G; exact looked))); skip)
    refine dw_do rfl rfl ?_ dw_stop
    refine s_call rfl len_spec rfl ?_
    rintro _ H' ⟨he, rfl⟩
    refine WPL.ent he ?_
    refine wpl_nil (qone ⟨(by (refine st_again ?_ ?_; (· exact looked)); exact st_nil), ?_⟩)
    ((apply dw_pure; (· exact rfl); (· exact rfl); (· (intro G; exact looked))); (apply dw_pure; (· exact rfl); (· exact rfl); (· (intro G; exact looked))); (apply dw_pure; (· exact rfl); (· exact rfl); (· (intro G; exact looked))); (apply dw_pure; (· exact rfl); (· exact rfl); (· (intro G; exact looked))); (apply dw_look; (· exact rfl); (· exact rfl); (· exact looked)); (apply dw_pure; (· exact rfl); (· exact rfl); (· (intro G; exact looked))); (apply dw_pure; (· exact rfl); (· exact rfl); (· (intro G; exact looked))); (apply dw_pure; (· exact rfl); (· exact rfl); (· (intro G; exact looked))); refine dw_nil ?_; skip)
    refine walk ?_
    refine ret1 (v := .bool _) (.inr rfl) rfl rfl ⟨?_, by simp [hne]⟩
    exact Ent.step (A := TabAt p T) (Ent.refl _) InH.ent
end
end Go.Proofs.Ytnfipmbmknlmpaa
