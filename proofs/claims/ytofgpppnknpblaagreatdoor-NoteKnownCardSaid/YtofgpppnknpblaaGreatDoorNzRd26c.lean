/- A note is read of a text: the document's walk. No condition. -/
import Derived.Test.YtofgpppnknpblaaGreatDoorNzRd26b
namespace Go.Proofs.YtofgpppnknpblaaGreatDoor
open Go Go.SL
set_option linter.unusedSimpArgs false
set_option linter.unusedVariables false
set_option maxRecDepth 10000
set_option maxHeartbeats 4000000
attribute [local irreducible] WP WPL QSeq QBlk QRet Does Cell Cells Rd Mine Ent Aside RV Yield IterAt
section
variable {B : World} {F H G : HProp} {n : Nt} {b c : Nat} {s : List UInt8}
theorem rRead {s : List UInt8} : Does Tryz.prog B 23 [str s] H fun r H' => H' = H ∧ r = readNV (readN s) := by
  refine Does.frame0 ?_
  have hyes := @ref_yes s
  have hno := @ref_no s
  have hlong : 120 < s.length → readN s = none := fun h => readN_none fun n hn => by have := told_len hn; omega
  generalize readN s = ans at *
  refine fn_intro 71 Tryz.func23 rfl rfl rfl ?_
  refine walk ?_
  refine s_alloc rfl ?_
  intro b
  by_cases h120 : s.length ≤ 120
  · refine walkG ?_
    refine wp_loopR (α := Nat) [3, 4, 5, 6, 7, 8, 9, 10, 15, 16, 17, 18, 19, 20, 21, 22, 23, 24, 25, 26, 27, 28, 29, 30, 31, 32, 33, 34, 35, 36, 37, 38, 39, 40, 41, 42, 43, 44, 45, 46, 47, 48, 49, 50, 51, 52, 53, 54, 55, 56, 57, 58, 59, 60, 61, 62, 63, 64, 65, 66, 67, 68, 69] (fun k => [(4, .int .i64 (k : Nat))]) (fun k => 1 ≤ k ∧ k ≤ 17 ∧ ∀ j : Nat, 1 ≤ j → j < k → ∀ n, newN j (runsU s false 0) = (n, 0) → textN n ≠ s) (fun k => 17 - k) 1 agreed ⟨Nat.le_refl _, by omega, fun j h1 h2 => by omega⟩ ?_
    rintro k g ⟨hk1, hk, hseen⟩
    simp only [putAll]
    by_cases hk17 : k < 17
    · refine walkG ?_
      refine wp_loopF (α := Nat × Bool × Int × Value × List Int) [5, 6, 7, 8, 19, 20, 21, 22, 23, 24, 25, 26, 27, 28, 29, 30, 31, 32, 33, 34, 35, 36, 37, 38, 39, 40, 41, 42, 43, 44, 45, 46, 47, 48, 49, 50, 51, 52, 53, 54] (fun x => [(5, x.2.2.2.1), (6, .int .u64 x.2.2.1), (7, .bool x.2.1), (8, .int .i64 x.1)]) (fun x => Mine 3 1 x.2.2.2.1 x.2.2.2.2.length (zs x.2.2.2.2) + (blk b [.int .i64 0, .int .i64 0, .int .i64 0, .int .i64 0, .int .i64 0] 25 + H)) (fun x => x.1 ≤ s.length + 1 ∧ 0 ≤ x.2.2.1 ∧ x.2.2.1 < 18446744073709551616 ∧ x.2.2.2.2.length ≤ x.1 ∧ x.2.2.2.2 ++ runsU (s.drop x.1) x.2.1 x.2.2.1 = runsU s false 0 ∧ (x.1 = s.length + 1 → x.2.1 = false)) (fun x => s.length + 1 - x.1) (0, false, 0, .slice none 0 0, []) agreed ?_ ⟨Nat.zero_le _, by simp, by simp, by simp, by simp, by simp⟩ ?_
      · show Ent _ (Mine 3 1 (.slice none 0 0) 0 [] + _)
        rw [Mine.nil, HProp.emp_add]
        exact Ent.refl _
      rintro ⟨i, inn, v, sv, l⟩ f ⟨hi, hv0, hv1, hl, hr, he⟩
      simp only at hi hv0 hv1 hl hr he
      simp only [putAll]
      by_cases hle : i ≤ s.length
      · by_cases hlt : i < s.length
        · have hdrop : s.drop i = s[i] :: s.drop (i + 1) := List.drop_eq_getElem_cons hlt
          have hbyte : s[i].toNat < 256 := UInt8.toNat_lt _
          by_cases hg : isDig s[i]
          · obtain ⟨g1, g2⟩ := id hg
            refine walkG ?_
            refine s_sindex (j := i) rfl rfl rfl hlt rfl ?_
            refine walkG ?_
            refine s_sindex (j := i) rfl rfl rfl hlt rfl ?_
            refine walkG ?_
            refine s_sindex (j := i) rfl rfl rfl hlt rfl ?_
            refine walkG ?_
            refine ⟨(i + 1, true, (v * 10 % 18446744073709551616 + ((s[i].toNat : Int) - 48)) % 18446744073709551616, sv, l), asided, agreed, ?_, ⟨by simp only; omega, by simp only; omega, by simp only; omega, by simp only; omega, ?_, by simp only; omega⟩, by simp only; omega⟩
            · exact Ent.auto
            · simp only
              rw [← hr, hdrop, runsU, if_pos hg]
          · have hd : runsU (s.drop i) inn v = (if inn then [toI v] else []) ++ runsU (s.drop (i + 1)) false 0 := by rw [hdrop, runsU_no hg]
            by_cases g1 : 48 ≤ s[i].toNat
            · have g2 : ¬ s[i].toNat ≤ 57 := fun h => hg ⟨g1, h⟩
              cases inn with
              | true =>
                refine walkG ?_
                refine s_sindex (j := i) rfl rfl rfl hlt rfl ?_
                refine walkG ?_
                refine s_sindex (j := i) rfl rfl rfl hlt rfl ?_
                refine walkG ?_
                refine s_conv rfl rfl rfl ?_
                refine s_buildInts (cs := zs [toI v]) rfl rfl rfl rfl rfl ?_
                intro b7
                refine s_append (v := sv) rfl rfl (Rd.blk0 (m := 1) (e := 3) rfl (by simp [maxLen])) rfl rfl ?_ rfl ?_
                · simp only [maxLen]; omega
                intro v8
                refine walkG ?_
                refine ⟨(i + 1, false, 0, v8, l ++ [toI v]), asided, agreed, ?_, ⟨by simp only; omega, by simp, by simp, by simp only [len_push]; omega, ?_, by simp⟩, by simp only; omega⟩
                · simp only [len_push, zs_append]
                  exact Ent.auto
                · simp only
                  rw [← hr, hd, if_pos rfl, List.append_assoc]
              | false =>
                refine walkG ?_
                refine s_sindex (j := i) rfl rfl rfl hlt rfl ?_
                refine walkG ?_
                refine s_sindex (j := i) rfl rfl rfl hlt rfl ?_
                refine walkG ?_
                refine ⟨(i + 1, false, 0, sv, l), asided, agreed, ?_, ⟨by simp only; omega, by simp, by simp, by simp only; omega, ?_, by simp⟩, by simp only; omega⟩
                · exact Ent.auto
                · simp only
                  rw [← hr, hd, if_neg (by simp), List.nil_append]
            · cases inn with
              | true =>
                refine walkG ?_
                refine s_sindex (j := i) rfl rfl rfl hlt rfl ?_
                refine walkG ?_
                refine s_conv rfl rfl rfl ?_
                refine s_buildInts (cs := zs [toI v]) rfl rfl rfl rfl rfl ?_
                intro b7
                refine s_append (v := sv) rfl rfl (Rd.blk0 (m := 1) (e := 3) rfl (by simp [maxLen])) rfl rfl ?_ rfl ?_
                · simp only [maxLen]; omega
                intro v8
                refine walkG ?_
                refine ⟨(i + 1, false, 0, v8, l ++ [toI v]), asided, agreed, ?_, ⟨by simp only; omega, by simp, by simp, by simp only [len_push]; omega, ?_, by simp⟩, by simp only; omega⟩
                · simp only [len_push, zs_append]
                  exact Ent.auto
                · simp only
                  rw [← hr, hd, if_pos rfl, List.append_assoc]
              | false =>
                refine walkG ?_
                refine s_sindex (j := i) rfl rfl rfl hlt rfl ?_
                refine walkG ?_
                refine ⟨(i + 1, false, 0, sv, l), asided, agreed, ?_, ⟨by simp only; omega, by simp, by simp, by simp only; omega, ?_, by simp⟩, by simp only; omega⟩
                · exact Ent.auto
                · simp only
                  rw [← hr, hd, if_neg (by simp), List.nil_append]
        · have hil : i = s.length := by omega
          have hd : runsU (s.drop i) inn v = (if inn then [toI v] else []) ++ runsU (s.drop (i + 1)) false 0 := by
            have e1 : s.drop i = [] := List.drop_of_length_le (by omega)
            have e2 : s.drop (i + 1) = [] := List.drop_of_length_le (by omega)
            rw [e1, e2]
            simp [runsU]
          cases inn with
          | true =>
            skip
            refine walkG ?_
            refine s_conv rfl rfl rfl ?_
            refine s_buildInts (cs := zs [toI v]) rfl rfl rfl rfl rfl ?_
            intro b7
            refine s_append (v := sv) rfl rfl (Rd.blk0 (m := 1) (e := 3) rfl (by simp [maxLen])) rfl rfl ?_ rfl ?_
            · simp only [maxLen]; omega
            intro v8
            refine walkG ?_
            refine ⟨(i + 1, false, 0, v8, l ++ [toI v]), asided, agreed, ?_, ⟨by simp only; omega, by simp, by simp, by simp only [len_push]; omega, ?_, by simp⟩, by simp only; omega⟩
            · simp only [len_push, zs_append]
              exact Ent.auto
            · simp only
              rw [← hr, hd, if_pos rfl, List.append_assoc]
          | false =>
            skip
            refine walkG ?_
            refine ⟨(i + 1, false, 0, sv, l), asided, agreed, ?_, ⟨by simp only; omega, by simp, by simp, by simp only; omega, ?_, by simp⟩, by simp only; omega⟩
            · exact Ent.auto
            · simp only
              rw [← hr, hd, if_neg (by simp), List.nil_append]
      · have hrl : l = runsU s false 0 := by
          have := he (by omega)
          subst this
          rw [List.drop_of_length_le (by omega), runsU, if_neg (by simp), List.append_nil] at hr
          exact hr
        have hok := new_ok (k := (k : Int)) (runsU_top s false 0)
        rw [← hrl] at hok
        rw [← hrl] at hseen hno
        rw [← hrl] at hyes
        refine WP.rd fun rd => ?_
        refine walkG ?_
        refine s_call rfl (rNew (k := (k : Int)) (l := l) (rd.ent InH.ent)) rfl ?_
        rintro _ _ ⟨e_, rfl⟩
        obtain rfl := e_.symm
        rcases new_cases (k : Int) l with h0 | h0
        · obtain ⟨m, hm0⟩ : ∃ m, newN (k : Int) l = (m, 0) := ⟨_, Prod.ext rfl h0⟩
          rw [hm0] at hok
          rw [hm0]
          simp only at hok
          refine walkG ?_
          refine s_alloc rfl ?_
          intro b12
          refine walk ?_
          refine s_storeV (vs := nv m) rfl rfl rfl rfl rfl ?_
          refine walkG ?_
          refine s_call rfl (rText (n := m) hok) rfl ?_
          rintro _ _ ⟨e_, rfl⟩
          obtain rfl := e_.symm
          by_cases ht : textN m = s
          · have hans := hyes hm0 ht
            subst hans
            refine walk ?_
            refine s_eqstr rfl rfl (b := true) (by simp [ht]) rfl ?_
            refine walk ?_
            refine s_storeV (vs := nv m) rfl rfl rfl rfl rfl ?_
            refine walk ?_
            (first | (apply retRD2 (G := H) (.inr rfl) rfl; (· first | (refine rv_cell (v := .agg _) rfl (Cell.blk rfl)) | exact rv_cellA rfl Cells.blk0 rfl | (apply rv_cell; (· exact rfl); (· assumption)) | (apply rv_cellA; (· exact rfl); (· assumption); (· exact rfl))); (· first | (refine rv_tmp (v := .int _ _) rfl) | exact rv_tmp rfl); (· exact Ent.auto)) | (apply retRD2 (G := H) (.inl rfl) rfl; (· first | (refine rv_cell (v := .agg _) rfl (Cell.blk rfl)) | exact rv_cellA rfl Cells.blk0 rfl | (apply rv_cell; (· exact rfl); (· assumption)) | (apply rv_cellA; (· exact rfl); (· assumption); (· exact rfl))); (· first | (refine rv_tmp (v := .int _ _) rfl) | exact rv_tmp rfl); (· exact Ent.auto)))
            exact ⟨Ent.refl _, rfl⟩
          · refine walk ?_
            refine s_eqstr rfl rfl (b := false) (by simpa using ht) rfl ?_
            refine walk ?_
            refine ⟨k + 1, asided, agreed, Ent.auto, ⟨by omega, by omega, fun j h1 h2 n hn => ?_⟩, by omega⟩
            rw [← hrl] at hn
            rcases Nat.lt_or_ge j k with hj | hj
            · exact hseen j h1 hj n hn
            · obtain rfl : j = k := by omega
              rw [hm0] at hn
              cases hn
              exact ht
        · obtain ⟨m, hm0⟩ : ∃ m, newN (k : Int) l = (m, 260) := ⟨_, Prod.ext rfl h0⟩
          rw [hm0]
          refine walkG ?_
          refine s_alloc rfl ?_
          intro b12
          refine walk ?_
          refine s_storeV (vs := nv m) rfl rfl rfl rfl rfl ?_
          refine walkG ?_
          refine ⟨k + 1, asided, agreed, Ent.auto, ⟨by omega, by omega, fun j h1 h2 n hn => ?_⟩, by omega⟩
          rw [← hrl] at hn
          rcases Nat.lt_or_ge j k with hj | hj
          · exact hseen j h1 hj n hn
          · obtain rfl : j = k := by omega
            rw [hm0] at hn
            cases hn
    · obtain rfl : k = 17 := by omega
      have hnone := hno fun j h1 h2 n hn => hseen j h1 h2 n hn
      subst hnone
      refine walk ?_
      (refine s_build (cs := nv zeroN) ?_ rfl ?_; (· kernel_rfl))
      refine s_storeV (vs := nv zeroN) rfl rfl rfl rfl rfl ?_
      refine walk ?_
      (first | (apply retRD2 (G := H) (.inr rfl) rfl; (· first | (refine rv_cell (v := .agg _) rfl (Cell.blk rfl)) | exact rv_cellA rfl Cells.blk0 rfl | (apply rv_cell; (· exact rfl); (· assumption)) | (apply rv_cellA; (· exact rfl); (· assumption); (· exact rfl))); (· first | (refine rv_tmp (v := .int _ _) rfl) | exact rv_tmp rfl); (· exact Ent.auto)) | (apply retRD2 (G := H) (.inl rfl) rfl; (· first | (refine rv_cell (v := .agg _) rfl (Cell.blk rfl)) | exact rv_cellA rfl Cells.blk0 rfl | (apply rv_cell; (· exact rfl); (· assumption)) | (apply rv_cellA; (· exact rfl); (· assumption); (· exact rfl))); (· first | (refine rv_tmp (v := .int _ _) rfl) | exact rv_tmp rfl); (· exact Ent.auto)))
      exact ⟨Ent.refl _, rfl⟩
  · have hnone := hlong (by omega)
    subst hnone
    refine walkG ?_
    (refine s_build (cs := nv zeroN) ?_ rfl ?_; (· kernel_rfl))
    refine s_storeV (vs := nv zeroN) rfl rfl rfl rfl rfl ?_
    refine walk ?_
    (first | (apply retRD2 (G := H) (.inr rfl) rfl; (· first | (refine rv_cell (v := .agg _) rfl (Cell.blk rfl)) | exact rv_cellA rfl Cells.blk0 rfl | (apply rv_cell; (· exact rfl); (· assumption)) | (apply rv_cellA; (· exact rfl); (· assumption); (· exact rfl))); (· first | (refine rv_tmp (v := .int _ _) rfl) | exact rv_tmp rfl); (· exact Ent.auto)) | (apply retRD2 (G := H) (.inl rfl) rfl; (· first | (refine rv_cell (v := .agg _) rfl (Cell.blk rfl)) | exact rv_cellA rfl Cells.blk0 rfl | (apply rv_cell; (· exact rfl); (· assumption)) | (apply rv_cellA; (· exact rfl); (· assumption); (· exact rfl))); (· first | (refine rv_tmp (v := .int _ _) rfl) | exact rv_tmp rfl); (· exact Ent.auto)))
    exact ⟨Ent.refl _, rfl⟩
end
end Go.Proofs.YtofgpppnknpblaaGreatDoor
