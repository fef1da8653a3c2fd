/- Spans are summed in whatever order; milliseconds of a span. No condition. -/
import Derived.Test.YtkgddnelghkdnaaDoorSpLaw01a
namespace Go.Proofs.YtkgddnelghkdnaaDoor
open Go Go.SL Go.SL.Flo
set_option linter.unusedSimpArgs false
set_option linter.unusedVariables false
set_option maxRecDepth 10000
set_option maxHeartbeats 4000000
theorem fold_add : ∀ (l : List Int) (t : Int), l.foldl (· + ·) t = t + l.foldl (· + ·) 0
  | [], t => by simp
  | a :: l, t => by
    rw [List.foldl_cons, fold_add l (t + a), List.foldl_cons, fold_add l (0 + a)]
    omega
theorem fold_rev : ∀ (l : List Int), l.reverse.foldl (· + ·) 0 = l.foldl (· + ·) 0
  | [] => rfl
  | a :: l => by
    rw [List.reverse_cons, List.foldl_append, fold_rev l, List.foldl_cons, List.foldl_nil, List.foldl_cons, fold_add l (0 + a)]
    omega
theorem sum_rev (l : List Int) : sumI l.reverse = sumI l := by
  rw [sum_all, sum_all, List.map_reverse, fold_rev]
theorem drop_push {l : List Int} {k : Nat} (h : k < l.length) : (l.drop (k + 1)).reverse ++ [l[k]] = (l.drop k).reverse := by
  rw [List.drop_eq_getElem_cons h, List.reverse_cons]
attribute [local irreducible] WP WPL QSeq QBlk QRet Does Cell Cells Rd Mine Ent Aside RV e0 QScp valU textS sumI clsV milQ
section
variable {B : World} {F H : HProp} {w : Nat} {n : Int} {s : Value} {l : List Int}
theorem sums_law (T : Tab B) (L : LibOk B) (hs : Rd B H 1 s l.length (zs l)) : Does Tryd.prog B 5 [s, .int .i64 n] H fun r H' => H' = H ∧ r = .bool true := by
  refine Does.frame0 ?_
  have hs' := hs
  unfold Rd at hs'
  obtain ⟨ao, cap, rfl, hsl, hsm, hsa⟩ := hs'
  unfold maxLen at hsm
  by_cases hbig : l.length > 60
  · refine fn_intro 50 Tryd.func5 rfl rfl rfl ?_
    refine walk ?_
    refine s_call rfl (works_spec T L) rfl ?_
    rintro _ _ ⟨e_, rfl⟩
    obtain rfl := e_.symm
    refine walk ?_
    (first | (apply retRD1 (G := H) (.inr rfl) rfl; (· first | (refine rv_tmp (v := .bool _) rfl) | exact rv_tmp rfl); (· exact Ent.auto)) | (apply retRD1 (G := H) (.inl rfl) rfl; (· first | (refine rv_tmp (v := .bool _) rfl) | exact rv_tmp rfl); (· exact Ent.auto)))
    exact ⟨Ent.refl _, rfl⟩
  · refine fn_intro 50 Tryd.func5 rfl rfl rfl ?_
    refine walk ?_
    refine wp_loopF (α := Int × Value × List Int) [5, 6, 15, 16, 17, 18, 19, 20, 21, 22, 23, 24, 25] (fun x => [(6, .int .i64 x.1), (5, x.2.1)]) (fun x => Mine 2 1 x.2.1 x.2.2.length (zs x.2.2) + H)
      (fun x => -1 ≤ x.1 ∧ x.1 < l.length ∧ x.2.2 = (l.drop (x.1 + 1).toNat).reverse) (fun x => (x.1 + 1).toNat) ((l.length : Int) - 1, .slice none 0 0, []) agreed ?_ ⟨by simp only; omega, by simp only; omega, by simp only; rw [show ((l.length : Int) - 1 + 1).toNat = l.length by omega, List.drop_length]; rfl⟩ ?_
    · show Ent _ (Mine 2 1 (.slice none 0 0) 0 [] + H)
      rw [Mine.nil, HProp.emp_add]
      exact Ent.refl _
    rintro ⟨i, v, bk⟩ f ⟨hi0, hi1, hb⟩
    simp only at hi0 hi1 hb
    simp only [putAll]
    by_cases hlt : 0 ≤ i
    · obtain ⟨k, rfl⟩ := Int.eq_ofNat_of_zero_le hlt
      have hk : k < l.length := by omega
      obtain ⟨bl, ol, rfl, hcs⟩ := Rd.addr hsl hsa hk
      have hcell := hcs.cell (j := k) (v := .int .i64 l[k]) (by rw [zs_get l k hk])
      have hbl : bk.length ≤ 60 := by rw [hb, List.length_reverse, List.length_drop]; omega
      have hnext : bk ++ [l[k]] = (l.drop k).reverse := by rw [hb, show (((k : Nat) : Int) + 1).toNat = k + 1 by omega]; exact drop_push hk
      generalize l[k] = x at *
      refine walk ?_
      refine s_buildInts (cs := [.int .i64 x]) rfl rfl rfl rfl rfl ?_
      intro b3
      refine walk ?_
      refine s_append (v := v) rfl rfl (Rd.blk0 (m := 1) (e := 2) rfl (by simp [maxLen])) rfl rfl ?_ rfl ?_
      · simp only [maxLen]; omega
      intro v'
      rw [← zs_push, show bk.length + 1 = (bk ++ [x]).length by simp]
      refine walk ?_
      exact ⟨((k : Nat) - 1, v', bk ++ [x]), asided, agreed, Ent.auto, ⟨by simp only; omega, by simp only; omega, by simp only; rw [show (((k : Nat) : Int) - 1 + 1).toNat = k by omega]; exact hnext⟩, by simp only; omega⟩
    · obtain rfl : i = -1 := by omega
      have hbk : bk = l.reverse := by rw [hb]; simp
      subst hbk
      refine WP.rd fun rdb => ?_
      refine WP.shape ?_
      rintro ab cb rfl _ hkb hmb
      refine walk ?_
      refine s_call rfl (rSumP (l := l) (hs.ent InH.ent)) rfl ?_
      rintro _ _ ⟨e_, rfl⟩
      obtain rfl := e_.symm
      refine walk ?_
      refine s_call rfl (sumP (l := l) (hs.ent InH.ent)) rfl ?_
      rintro _ _ ⟨e_, rfl⟩
      obtain rfl := e_.symm
      refine walk ?_
      refine s_call rfl (sumP (l := l.reverse) (rdb.ent InH.ent)) rfl ?_
      rintro _ _ ⟨e_, rfl⟩
      obtain rfl := e_.symm
      rw [sum_rev]
      refine walk ?_
      refine s_call rfl (milP (n := n)) rfl ?_
      rintro _ _ ⟨e_, rfl⟩
      obtain rfl := e_.symm
      refine walk ?_
      refine s_ext (v := .int .u64 (milQ n : Nat)) rfl rfl rfl ?_
      refine walk ?_
      refine s_call rfl (rMilP (n := n)) rfl ?_
      rintro _ _ ⟨e_, rfl⟩
      obtain rfl := e_.symm
      refine walk ?_
      refine s_ext (v := .int .u64 (milQ n : Nat)) rfl rfl rfl ?_
      refine walk ?_
      refine s_call rfl (works_spec T L) rfl ?_
      rintro _ _ ⟨e_, rfl⟩
      obtain rfl := e_.symm
      refine walk ?_
      (first | (apply retRD1 (G := H) (.inr rfl) rfl; (· first | (refine rv_tmp (v := .bool _) rfl) | exact rv_tmp rfl); (· exact Ent.auto)) | (apply retRD1 (G := H) (.inl rfl) rfl; (· first | (refine rv_tmp (v := .bool _) rfl) | exact rv_tmp rfl); (· exact Ent.auto)))
      exact ⟨Ent.refl _, rfl⟩
end
end Go.Proofs.YtkgddnelghkdnaaDoor
