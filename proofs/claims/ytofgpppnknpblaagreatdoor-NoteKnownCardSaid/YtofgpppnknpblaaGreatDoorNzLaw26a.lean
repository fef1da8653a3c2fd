/- The law on notes that are told, and made. No condition. -/
import Derived.Test.YtofgpppnknpblaaGreatDoorNzNote5
namespace Go.Proofs.YtofgpppnknpblaaGreatDoor
open Go Go.SL
set_option linter.unusedSimpArgs false
set_option linter.unusedVariables false
set_option maxRecDepth 10000
set_option maxHeartbeats 2000000
theorem w1 : newN 2 [3, 0, 1, 1] = (⟨2, 3, 0, 1, 1⟩, 0) := by decide
theorem w2 : newN 12 [7, 2] = (⟨12, 7, -1, 2, -1⟩, 0) := by decide
theorem w3 : newN 16 [1] = (⟨16, -1, 1, -1, -1⟩, 0) := by decide
theorem w4 : newN 13 [1, 2, 2] = (zeroN, 260) := by decide
theorem w5 : newN 14 [1] = (zeroN, 260) := by decide
theorem w6 : newN 17 [1] = (zeroN, 260) := by decide
theorem t1 : textN ⟨2, 3, 0, 1, 1⟩ = [100, 105, 115, 112, 97, 116, 99, 104, 32, 103, 51, 32, 112, 48, 32, 109, 49, 32, 120, 49] := by
  have d0 : dg 0 = [48] := Lib.decDigits_one (by omega)
  have d1 : dg 1 = [49] := Lib.decDigits_one (by omega)
  have d3 : dg 3 = [51] := Lib.decDigits_one (by omega)
  unfold textN
  rw [if_pos (by decide), outN_join]
  unfold outN
  rw [show hasOf ((⟨2, 3, 0, 1, 1⟩ : Nt).kind) = [103, 112, 109, 120] from rfl]
  simp only [List.flatMap_cons, List.flatMap_nil, List.append_nil]
  show wordK 2 ++ (32 :: 103 :: dg 3 ++ (32 :: 112 :: dg 0 ++ (32 :: 109 :: dg 1 ++ (32 :: 120 :: dg 1)))) = _
  rw [d0, d1, d3]
  rfl
theorem t2 : textN ⟨12, 7, -1, 2, -1⟩ = [108, 111, 115, 116, 32, 103, 55, 32, 109, 50] := by
  have d2 : dg 2 = [50] := Lib.decDigits_one (by omega)
  have d7 : dg 7 = [55] := Lib.decDigits_one (by omega)
  unfold textN
  rw [if_pos (by decide), outN_join]
  unfold outN
  rw [show hasOf ((⟨12, 7, -1, 2, -1⟩ : Nt).kind) = [103, 109] from rfl]
  simp only [List.flatMap_cons, List.flatMap_nil, List.append_nil]
  show wordK 12 ++ (32 :: 103 :: dg 7 ++ (32 :: 109 :: dg 2)) = _
  rw [d2, d7]
  rfl
theorem t3 : textN ⟨16, -1, 1, -1, -1⟩ = [102, 108, 97, 103, 32, 112, 49] := by
  have d1 : dg 1 = [49] := Lib.decDigits_one (by omega)
  unfold textN
  rw [if_pos (by decide), outN_join]
  unfold outN
  rw [show hasOf ((⟨16, -1, 1, -1, -1⟩ : Nt).kind) = [112] from rfl]
  simp only [List.flatMap_cons, List.flatMap_nil, List.append_nil]
  show wordK 16 ++ (32 :: 112 :: dg 1) = _
  rw [d1]
  rfl
theorem small_ok {n : Nt} (h : n.g < 9223372036854775808 ∧ n.p < 9223372036854775808 ∧ n.m < 9223372036854775808 ∧ n.x < 9223372036854775808) : nsOk n := by
  intro c
  unfold getL
  split
  · exact h.1
  split
  · exact h.2.1
  split
  · exact h.2.2.1
  · exact h.2.2.2
attribute [local irreducible] WP WPL QSeq QBlk QRet Does Cell Cells Rd Mine Ent Aside RV Yield IterAt
section
variable {B : World} {F H G : HProp} {n : Nt} {k v : Int} {c : UInt8} {b : Nat} {s : Value} {l : List Int}
theorem nNewE {x : Nt} {e : Int} (h : newN k l = (x, e)) (hs : Rd B H 1 s l.length (zs l)) : Does Tryz.prog B 19 [.int .i64 k, s] H fun r H' => H' = H ∧ r = .tuple #[noteV x, .int .i64 e] := by
  have := nNew (k := k) hs
  rw [h] at this
  exact this
theorem nTextE (T : Tab B) {t : List UInt8} (hn : nsOk n) (h : textN n = t) : Does Tryz.prog B 21 [noteV n] H fun r H' => H' = H ∧ r = str t := by
  have := nText (H := H) T hn
  rw [h] at this
  exact this
theorem works_spec (T : Tab B) : Does Tryz.prog B 13 [] H fun r H' => H' = H ∧ r = .bool true := by
  refine Does.frame0 ?_
  refine fn_intro 80 Tryz.func13 rfl rfl rfl ?_
  refine walk ?_
  refine s_buildInts (cs := zs [3, 0, 1, 1]) rfl rfl rfl rfl rfl ?_
  intro b1
  refine s_call rfl (nNewE (l := [3, 0, 1, 1]) w1 (Rd.blk0 rfl (by simp [maxLen]))) rfl ?_
  rintro _ _ ⟨e_, rfl⟩
  obtain rfl := e_.symm
  refine walk ?_
  refine s_alloc rfl ?_
  intro a1
  refine walk ?_
  refine s_storeV (vs := nv ⟨2, 3, 0, 1, 1⟩) rfl rfl rfl rfl rfl ?_
  refine walk ?_
  refine s_buildInts (cs := zs [7, 2]) rfl rfl rfl rfl rfl ?_
  intro b2
  refine s_call rfl (nNewE (l := [7, 2]) w2 (Rd.blk0 rfl (by simp [maxLen]))) rfl ?_
  rintro _ _ ⟨e_, rfl⟩
  obtain rfl := e_.symm
  refine walk ?_
  refine s_alloc rfl ?_
  intro a2
  refine walk ?_
  refine s_storeV (vs := nv ⟨12, 7, -1, 2, -1⟩) rfl rfl rfl rfl rfl ?_
  refine walk ?_
  refine s_buildInts (cs := zs [1]) rfl rfl rfl rfl rfl ?_
  intro b3
  refine s_call rfl (nNewE (l := [1]) w3 (Rd.blk0 rfl (by simp [maxLen]))) rfl ?_
  rintro _ _ ⟨e_, rfl⟩
  obtain rfl := e_.symm
  refine walk ?_
  refine s_alloc rfl ?_
  intro a3
  refine walk ?_
  refine s_storeV (vs := nv ⟨16, -1, 1, -1, -1⟩) rfl rfl rfl rfl rfl ?_
  refine walk ?_
  refine s_buildInts (cs := zs [1, 2, 2]) rfl rfl rfl rfl rfl ?_
  intro b4
  refine s_call rfl (nNewE (l := [1, 2, 2]) w4 (Rd.blk0 rfl (by simp [maxLen]))) rfl ?_
  rintro _ _ ⟨e_, rfl⟩
  obtain rfl := e_.symm
  refine walk ?_
  refine s_alloc rfl ?_
  intro a4
  refine walk ?_
  refine s_storeV (vs := nv zeroN) rfl rfl rfl rfl rfl ?_
  refine walk ?_
  refine s_buildInts (cs := zs [1]) rfl rfl rfl rfl rfl ?_
  intro b5
  refine s_call rfl (nNewE (l := [1]) w5 (Rd.blk0 rfl (by simp [maxLen]))) rfl ?_
  rintro _ _ ⟨e_, rfl⟩
  obtain rfl := e_.symm
  refine walk ?_
  refine s_alloc rfl ?_
  intro a5
  refine walk ?_
  refine s_storeV (vs := nv zeroN) rfl rfl rfl rfl rfl ?_
  refine walk ?_
  refine s_buildInts (cs := zs [1]) rfl rfl rfl rfl rfl ?_
  intro b6
  refine s_call rfl (nNewE (l := [1]) w6 (Rd.blk0 rfl (by simp [maxLen]))) rfl ?_
  rintro _ _ ⟨e_, rfl⟩
  obtain rfl := e_.symm
  refine walk ?_
  refine s_alloc rfl ?_
  intro a6
  refine walk ?_
  refine s_storeV (vs := nv zeroN) rfl rfl rfl rfl rfl ?_
  refine walk ?_
  refine s_call rfl (nTextE (n := ⟨2, 3, 0, 1, 1⟩) T (small_ok (by decide)) t1) rfl ?_
  rintro _ _ ⟨e_, rfl⟩
  obtain rfl := e_.symm
  refine walk ?_
  refine s_eqstr rfl rfl (b := true) (decide_eq_true rfl) rfl ?_
  refine walk ?_
  refine s_call rfl (nTextE (n := ⟨12, 7, -1, 2, -1⟩) T (small_ok (by decide)) t2) rfl ?_
  rintro _ _ ⟨e_, rfl⟩
  obtain rfl := e_.symm
  refine walk ?_
  refine s_eqstr rfl rfl (b := true) (decide_eq_true rfl) rfl ?_
  refine walk ?_
  refine s_call rfl (nTextE (n := ⟨16, -1, 1, -1, -1⟩) T (small_ok (by decide)) t3) rfl ?_
  rintro _ _ ⟨e_, rfl⟩
  obtain rfl := e_.symm
  refine walk ?_
  refine s_eqstr rfl rfl (b := true) (decide_eq_true rfl) rfl ?_
  refine walk ?_
  (first | (apply retRD1 (G := H) (.inr rfl) rfl; (· first | (refine rv_tmp (v := .bool _) rfl) | exact rv_tmp rfl); (· exact Ent.auto)) | (apply retRD1 (G := H) (.inl rfl) rfl; (· first | (refine rv_tmp (v := .bool _) rfl) | exact rv_tmp rfl); (· exact Ent.auto)))
  exact ⟨Ent.refl _, rfl⟩
theorem tells_law (T : Tab B) (hn : nsOk n) (hs : Rd B H 1 s l.length (zs l)) : Does Tryz.prog B 8 [noteV n, .int .i64 k, s] H fun r H' => H' = H ∧ r = .bool true := by
  refine Does.frame0 ?_
  have hs0 := hs
  unfold Rd at hs
  obtain ⟨ao, cap, rfl, hl, hm, ha⟩ := hs
  unfold maxLen at hm
  refine fn_intro 56 Tryz.func8 rfl rfl rfl ?_
  refine walk ?_
  refine s_box (cs := nv n) rfl rfl rfl ?_
  intro b
  refine walk ?_
  by_cases hll : l.length ≤ 9
  · refine walk ?_
    refine s_call rfl (dNote (n := n)) rfl ?_
    rintro _ _ ⟨e_, rfl⟩
    obtain rfl := e_.symm
    refine walk ?_
    refine s_alloc rfl ?_
    intro b7
    refine walk ?_
    refine s_storeV (vs := nv n) rfl rfl rfl rfl rfl ?_
    refine walk ?_
    refine s_call rfl (nNew (k := k) (hs0.ent InH.ent)) rfl ?_
    rintro _ _ ⟨e_, rfl⟩
    obtain rfl := e_.symm
    refine walk ?_
    refine s_alloc rfl ?_
    intro b8
    refine walk ?_
    refine s_storeV (vs := nv (newN k l).1) rfl rfl rfl rfl rfl ?_
    refine walk ?_
    refine s_call rfl (rNew (k := k) (hs0.ent InH.ent)) rfl ?_
    rintro _ _ ⟨e_, rfl⟩
    obtain rfl := e_.symm
    refine walk ?_
    refine s_alloc rfl ?_
    intro b10
    refine walk ?_
    refine s_storeV (vs := nv (newN k l).1) rfl rfl rfl rfl rfl ?_
    refine walk ?_
    by_cases hR : RightN n
    · have hdec := decide_eq_true hR
      (refine wp_draw [1, 3, 7, 9, 14, 24] (.look 0 (.look 2 (.act 1 (.act 3 (.look 4 (.look 5 (.look 6 (.look 8 (.act 7 (.act 9 (.look 10 (.look 11 (.look 12 (.look 13 (.look 15 (.act 14 (.look 16 (.look 17 (.look 18 (.look 19 (.look 20 (.look 21 (.look 22 (.look 23 (.act 24 (.look 25 (.look 26 .nil)) .stop))))))))) .stop)))))) .stop) .stop))))) .stop) .stop))) (by kernel_rfl) ?_; (apply dw_look; (· exact rfl); (· exact rfl); (· (exact looked))); (apply dw_look; (· exact rfl); (· exact rfl); (· (exact looked))); skip)
      refine dw_do rfl rfl ?_ dw_stop
      refine s_call rfl (nRight (n := n)) rfl ?_
      rintro _ _ ⟨e_, rfl⟩
      obtain rfl := e_.symm
      rw [hdec]
      refine wpl_nil (qone ⟨(by (refine st_again ?_ ?_; (· exact looked)); refine st_past (by kernel_rfl) ?_; exact st_nil), ?_⟩)
      (skip)
      refine dw_do rfl rfl ?_ dw_stop
      refine s_call rfl (rRight (n := n)) rfl ?_
      rintro _ _ ⟨e_, rfl⟩
      obtain rfl := e_.symm
      rw [hdec]
      refine wpl_nil (qone ⟨(by refine st_past (by kernel_rfl) ?_; refine st_past (by kernel_rfl) ?_; exact st_nil), ?_⟩)
      ((apply dw_pure; (· exact rfl); (· exact rfl); (· (intro G; exact looked))); (apply dw_pure; (· exact rfl); (· exact rfl); (· (intro G; exact looked))); (apply dw_look; (· exact rfl); (· exact rfl); (· (exact looked))); (apply dw_look; (· exact rfl); (· exact rfl); (· (exact looked))); skip)
      refine dw_do rfl rfl ?_ dw_stop
      refine step_wanted rfl rfl ?_
      refine s_call rfl (nText T hn) rfl ?_
      rintro _ _ ⟨e_, rfl⟩
      obtain rfl := e_.symm
      refine wpl_nil (qone ⟨(by (refine st_again ?_ ?_; (· exact looked)); refine st_past (by kernel_rfl) ?_; refine st_past (by kernel_rfl) ?_; refine st_past (by kernel_rfl) ?_; exact st_nil), ?_⟩)
      (skip)
      refine dw_do rfl rfl ?_ dw_stop
      refine step_wanted rfl rfl ?_
      refine s_call rfl (rText hn) rfl ?_
      rintro _ _ ⟨e_, rfl⟩
      obtain rfl := e_.symm
      refine wpl_nil (qone ⟨(by refine st_past (by kernel_rfl) ?_; refine st_past (by kernel_rfl) ?_; refine st_past (by kernel_rfl) ?_; refine st_past (by kernel_rfl) ?_; exact st_nil), ?_⟩)
      ((apply dw_pure; (· exact rfl); (· exact rfl); (· (intro G; refine step_wanted rfl rfl ?_; (refine s_eqstr rfl rfl (b := true) (decide_eq_true rfl) rfl ?_); exact looked))); (apply dw_pure; (· exact rfl); (· exact rfl); (· (intro G; exact looked))); (apply dw_pure; (· exact rfl); (· exact rfl); (· (intro G; exact looked))); (apply dw_look; (· exact rfl); (· exact rfl); (· (exact looked))); (apply dw_look; (· exact rfl); (· exact rfl); (· (exact looked))); skip)
      refine dw_do rfl rfl ?_ dw_stop
      refine step_wanted rfl rfl ?_
      refine s_call rfl (dNote (n := (newN k l).1)) rfl ?_
      rintro _ _ ⟨e_, rfl⟩
      obtain rfl := e_.symm
      refine wpl_nil (qone ⟨(by (refine st_again ?_ ?_; (· exact looked)); refine st_past (by kernel_rfl) ?_; refine st_past (by kernel_rfl) ?_; refine st_past (by kernel_rfl) ?_; refine st_past (by kernel_rfl) ?_; refine st_past (by kernel_rfl) ?_; exact st_nil), ?_⟩)
      ((apply dw_pure; (· exact rfl); (· exact rfl); (· (intro G; refine step_wanted rfl rfl ?_; (refine s_eqlF (ntSc (newN k l).1) (ntSc (newN k l).1) (b := true) rfl rfl rfl rfl (decide_eq_true rfl) rfl ?_); exact looked))); (apply dw_pure; (· exact rfl); (· exact rfl); (· (intro G; exact looked))); (apply dw_pure; (· exact rfl); (· exact rfl); (· (intro G; exact looked))); (apply dw_pure; (· exact rfl); (· exact rfl); (· (intro G; exact looked))); (apply dw_pure; (· exact rfl); (· exact rfl); (· (intro G; exact looked))); (apply dw_pure; (· exact rfl); (· exact rfl); (· (intro G; exact looked))); (apply dw_pure; (· exact rfl); (· exact rfl); (· (intro G; exact looked))); (apply dw_pure; (· exact rfl); (· exact rfl); (· (intro G; exact looked))); skip)
      refine dw_do rfl rfl ?_ dw_stop
      refine step_wanted rfl rfl ?_
      refine s_call rfl (works_spec T) rfl ?_
      rintro _ _ ⟨e_, rfl⟩
      obtain rfl := e_.symm
      refine wpl_nil (qone ⟨(by refine st_past (by kernel_rfl) ?_; refine st_past (by kernel_rfl) ?_; refine st_past (by kernel_rfl) ?_; refine st_past (by kernel_rfl) ?_; refine st_past (by kernel_rfl) ?_; refine st_past (by kernel_rfl) ?_; exact st_nil), ?_⟩)
      ((apply dw_pure; (· exact rfl); (· exact rfl); (· (intro G; exact looked))); (apply dw_pure; (· exact rfl); (· exact rfl); (· (intro G; exact looked))); refine dw_nil ?_; skip)
      refine walk ?_
      (first | (apply retRD1 (G := H) (.inr rfl) rfl; (· first | (refine rv_tmp (v := .bool _) rfl) | exact rv_tmp rfl); (· exact Ent.auto)) | (apply retRD1 (G := H) (.inl rfl) rfl; (· first | (refine rv_tmp (v := .bool _) rfl) | exact rv_tmp rfl); (· exact Ent.auto)))
      exact ⟨Ent.refl _, rfl⟩
    · have hdec := decide_eq_false hR
      (refine wp_draw [1, 3, 7, 9, 14, 24] (.look 0 (.look 2 (.act 1 (.act 3 (.look 4 (.look 5 (.look 6 (.look 8 (.act 7 (.act 9 (.look 10 (.look 11 (.look 12 (.look 13 (.look 15 (.act 14 (.look 16 (.look 17 (.look 18 (.look 19 (.look 20 (.look 21 (.look 22 (.look 23 (.act 24 (.look 25 (.look 26 .nil)) .stop))))))))) .stop)))))) .stop) .stop))))) .stop) .stop))) (by kernel_rfl) ?_; (apply dw_look; (· exact rfl); (· exact rfl); (· (exact looked))); (apply dw_look; (· exact rfl); (· exact rfl); (· (exact looked))); skip)
      refine dw_do rfl rfl ?_ dw_stop
      refine s_call rfl (nRight (n := n)) rfl ?_
      rintro _ _ ⟨e_, rfl⟩
      obtain rfl := e_.symm
      rw [hdec]
      refine wpl_nil (qone ⟨(by (refine st_again ?_ ?_; (· exact looked)); refine st_past (by kernel_rfl) ?_; exact st_nil), ?_⟩)
      (skip)
      refine dw_do rfl rfl ?_ dw_stop
      refine s_call rfl (rRight (n := n)) rfl ?_
      rintro _ _ ⟨e_, rfl⟩
      obtain rfl := e_.symm
      rw [hdec]
      refine wpl_nil (qone ⟨(by refine st_past (by kernel_rfl) ?_; refine st_past (by kernel_rfl) ?_; exact st_nil), ?_⟩)
      ((apply dw_pure; (· exact rfl); (· exact rfl); (· (intro G; exact looked))); (apply dw_pure; (· exact rfl); (· exact rfl); (· (intro G; exact looked))); (apply dw_look; (· exact rfl); (· exact rfl); (· (exact looked))); (apply dw_look; (· exact rfl); (· exact rfl); (· (exact looked))); skip)
      refine dw_do rfl rfl ?_ dw_stop
      refine step_wanted rfl rfl ?_
      refine s_call rfl (nText T hn) rfl ?_
      rintro _ _ ⟨e_, rfl⟩
      obtain rfl := e_.symm
      refine wpl_nil (qone ⟨(by (refine st_again ?_ ?_; (· exact looked)); refine st_past (by kernel_rfl) ?_; refine st_past (by kernel_rfl) ?_; refine st_past (by kernel_rfl) ?_; exact st_nil), ?_⟩)
      (skip)
      refine dw_do rfl rfl ?_ dw_stop
      refine step_wanted rfl rfl ?_
      refine s_call rfl (rText hn) rfl ?_
      rintro _ _ ⟨e_, rfl⟩
      obtain rfl := e_.symm
      refine wpl_nil (qone ⟨(by refine st_past (by kernel_rfl) ?_; refine st_past (by kernel_rfl) ?_; refine st_past (by kernel_rfl) ?_; refine st_past (by kernel_rfl) ?_; exact st_nil), ?_⟩)
      ((apply dw_pure; (· exact rfl); (· exact rfl); (· (intro G; refine step_wanted rfl rfl ?_; (refine s_eqstr rfl rfl (b := true) (decide_eq_true rfl) rfl ?_); exact looked))); (apply dw_pure; (· exact rfl); (· exact rfl); (· (intro G; exact looked))); (apply dw_pure; (· exact rfl); (· exact rfl); (· (intro G; exact looked))); (apply dw_look; (· exact rfl); (· exact rfl); (· (exact looked))); (apply dw_look; (· exact rfl); (· exact rfl); (· (exact looked))); skip)
      refine dw_do rfl rfl ?_ dw_stop
      refine step_wanted rfl rfl ?_
      refine s_call rfl (dNote (n := (newN k l).1)) rfl ?_
      rintro _ _ ⟨e_, rfl⟩
      obtain rfl := e_.symm
      refine wpl_nil (qone ⟨(by (refine st_again ?_ ?_; (· exact looked)); refine st_past (by kernel_rfl) ?_; refine st_past (by kernel_rfl) ?_; refine st_past (by kernel_rfl) ?_; refine st_past (by kernel_rfl) ?_; refine st_past (by kernel_rfl) ?_; exact st_nil), ?_⟩)
      ((apply dw_pure; (· exact rfl); (· exact rfl); (· (intro G; refine step_wanted rfl rfl ?_; (refine s_eqlF (ntSc (newN k l).1) (ntSc (newN k l).1) (b := true) rfl rfl rfl rfl (decide_eq_true rfl) rfl ?_); exact looked))); (apply dw_pure; (· exact rfl); (· exact rfl); (· (intro G; exact looked))); (apply dw_pure; (· exact rfl); (· exact rfl); (· (intro G; exact looked))); (apply dw_pure; (· exact rfl); (· exact rfl); (· (intro G; exact looked))); (apply dw_pure; (· exact rfl); (· exact rfl); (· (intro G; exact looked))); (apply dw_pure; (· exact rfl); (· exact rfl); (· (intro G; exact looked))); (apply dw_pure; (· exact rfl); (· exact rfl); (· (intro G; exact looked))); (apply dw_pure; (· exact rfl); (· exact rfl); (· (intro G; exact looked))); skip)
      refine dw_do rfl rfl ?_ dw_stop
      refine step_wanted rfl rfl ?_
      refine s_call rfl (works_spec T) rfl ?_
      rintro _ _ ⟨e_, rfl⟩
      obtain rfl := e_.symm
      refine wpl_nil (qone ⟨(by refine st_past (by kernel_rfl) ?_; refine st_past (by kernel_rfl) ?_; refine st_past (by kernel_rfl) ?_; refine st_past (by kernel_rfl) ?_; refine st_past (by kernel_rfl) ?_; refine st_past (by kernel_rfl) ?_; exact st_nil), ?_⟩)
      ((apply dw_pure; (· exact rfl); (· exact rfl); (· (intro G; exact looked))); (apply dw_pure; (· exact rfl); (· exact rfl); (· (intro G; exact looked))); refine dw_nil ?_; skip)
      refine walk ?_
      (first | (apply retRD1 (G := H) (.inr rfl) rfl; (· first | (refine rv_tmp (v := .bool _) rfl) | exact rv_tmp rfl); (· exact Ent.auto)) | (apply retRD1 (G := H) (.inl rfl) rfl; (· first | (refine rv_tmp (v := .bool _) rfl) | exact rv_tmp rfl); (· exact Ent.auto)))
      exact ⟨Ent.refl _, rfl⟩
  · refine walk ?_
    refine s_call rfl (works_spec T) rfl ?_
    rintro _ _ ⟨e_, rfl⟩
    obtain rfl := e_.symm
    refine walk ?_
    (first | (apply retRD1 (G := H) (.inr rfl) rfl; (· first | (refine rv_tmp (v := .bool _) rfl) | exact rv_tmp rfl); (· exact Ent.auto)) | (apply retRD1 (G := H) (.inl rfl) rfl; (· first | (refine rv_tmp (v := .bool _) rfl) | exact rv_tmp rfl); (· exact Ent.auto)))
    exact ⟨Ent.refl _, rfl⟩
end
end Go.Proofs.YtofgpppnknpblaaGreatDoor
