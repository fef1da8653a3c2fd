/- A config's text; the chapter's examples. No condition. -/
import Derived.Test.YtoheplamhocloaaDoorCfConf4
import Derived.Lib.ItoaLen
namespace Go.Proofs.YtoheplamhocloaaDoor
open Go Go.SL
set_option linter.unusedSimpArgs false
set_option linter.unusedVariables false
set_option maxRecDepth 10000
set_option maxHeartbeats 2000000
abbrev Tab (B : World) : Prop := Lib.TabBelow Tryd.prog B.heap.size B Tryd.powName .u64 Lib.pow10Tab
abbrev nums (c : Cfg) : List Int := [c.n, c.q, c.g, c.m, c.t, c.s]
def lets : List UInt8 := [110, 113, 103, 109, 116, 115]
def numAt (c : Cfg) (i : Nat) : Nat := ((nums c).getD i 0).toNat
def toks (c : Cfg) (k : Nat) : List (List UInt8) := (List.range k).flatMap fun i => [[lets.getD i 0], dg (numAt c i)]
/-- A config's text. -/
def textC (c : Cfg) : List UInt8 := if RightP c then Lib.join (toks c 6) [32] else []
theorem lets_at : ∀ i, i < 6 → (lets.take (i + 1)).drop i = [lets.getD i 0] := by decide
theorem nums_ok {c : Cfg} (h : RightP c) : ∀ i, i < 6 → (nums c)[i]? = some ((numAt c i : Nat) : Int) ∧ numAt c i ≤ 1000 := by
  obtain ⟨h1, h2, h3, h4, h5, h6, h7, h8, h9, h10, h11⟩ := h
  have hq : 0 ≤ c.q ∧ c.q ≤ 64 := by unfold RoomP at h1; omega
  intro i hi
  have key : ∀ x : Int, 0 ≤ x ∧ x ≤ 1000 → (some x = some ((x.toNat : Nat) : Int) ∧ x.toNat ≤ 1000) := fun x hx => ⟨by rw [Int.toNat_of_nonneg hx.1], by omega⟩
  match i, hi with
  | 0, _ => exact key c.n (by omega)
  | 1, _ => exact key c.q (by omega)
  | 2, _ => exact key c.g (by omega)
  | 3, _ => exact key c.m (by omega)
  | 4, _ => exact key c.t (by omega)
  | 5, _ => exact key c.s (by omega)
theorem toks_next (c : Cfg) (k : Nat) : toks c (k + 1) = toks c k ++ [[lets.getD k 0], dg (numAt c k)] := by
  unfold toks
  rw [List.range_succ, List.flatMap_append]; rfl
theorem toks_len (c : Cfg) (k : Nat) : (toks c k).length = k * 2 := by
  induction k with
  | zero => rfl
  | succ k ih => rw [toks_next, List.length_append, ih]; simp; omega
theorem dg_len {n : Nat} (h : n ≤ 1000) : (dg n).length ≤ 20 := by
  show (Lib.decDigits n).length ≤ 20
  rw [Lib.decDigits_length]; exact Lib.nDigits_le20 n (by omega)
theorem toks6 (c : Cfg) : toks c 6 = [[110], dg (numAt c 0), [113], dg (numAt c 1), [103], dg (numAt c 2), [109], dg (numAt c 3), [116], dg (numAt c 4), [115], dg (numAt c 5)] := by
  rfl
theorem join6 (c : Cfg) : Lib.join (toks c 6) [32] = [110, 32] ++ dg (numAt c 0) ++ [32, 113, 32] ++ dg (numAt c 1) ++ [32, 103, 32] ++ dg (numAt c 2) ++ [32, 109, 32] ++ dg (numAt c 3) ++ [32, 116, 32] ++ dg (numAt c 4) ++ [32, 115, 32] ++ dg (numAt c 5) := by
  rw [toks6]
  simp [Lib.join_cons, Lib.joinTail]
theorem join6_len {c : Cfg} (h : RightP c) : (Lib.join (toks c 6) [32]).length ≤ 200 := by
  have h0 := dg_len (nums_ok h 0 (by omega)).2
  have h1 := dg_len (nums_ok h 1 (by omega)).2
  have h2 := dg_len (nums_ok h 2 (by omega)).2
  have h3 := dg_len (nums_ok h 3 (by omega)).2
  have h4 := dg_len (nums_ok h 4 (by omega)).2
  have h5 := dg_len (nums_ok h 5 (by omega)).2
  rw [join6]
  simp only [List.length_append, List.length_cons, List.length_nil]
  omega
section
variable {B : World} {F H G : HProp}
theorem itoaT (T : Tab B) {n : Nat} (h : n < 9223372036854775808) : Does Tryd.prog B 35 [.int .i64 n] H fun r H' => H' = H ∧ r = str (dg n) :=
  Does.ofGrown fun w hw => by
    have := Tryd.strconv_Itoa (n : Int) (by omega) (by omega) w (T w hw.below)
    rw [Lib.itoa_nonneg] at this
    exact this
end
attribute [local irreducible] WP WPL QSeq QBlk QRet Does Cell Cells Rd Mine Ent Aside RV Yield
section
variable {B : World} {F H G : HProp} {c : Cfg}
theorem rdigitsN {n : Nat} (h : n ≤ 1000) : Does Tryd.prog B 31 [.int .i64 n] H fun r H' => H' = H ∧ r = str (dg n) := by
  have := digits_spec (B := B) (H := H) (u := n) (least := 1) (by omega) (by omega)
  rw [digGo_one] at this
  refine fn_intro 6 Tryd.func31 rfl rfl rfl ?_
  refine walk ?_
  refine s_call rfl (this) rfl ?_
  rintro _ _ ⟨e_, rfl⟩
  obtain rfl := e_.symm
  refine walk ?_
  (first | refine ret1 (v := .string _) (.inr rfl) rfl rfl ?_ | refine ret1  (.inr rfl) rfl rfl ?_ | refine ret1 (v := .string _) (.inl rfl) rfl rfl ?_ | refine ret1  (.inl rfl) rfl rfl ?_)
  exact ⟨rfl, rfl⟩
theorem rdigitsI {x : Int} {n : Nat} (e : x = n) (h : n ≤ 1000) : Does Tryd.prog B 31 [.int .i64 x] H fun r H' => H' = H ∧ r = str (dg n) := by
  subst e; exact rdigitsN h
theorem cText (T : Tab B) : Does Tryd.prog B 26 [cfgV c] H fun r H' => H' = H ∧ r = str (textC c) := by
  refine Does.frame0 ?_
  refine fn_intro 38 Tryd.func26 rfl rfl rfl ?_
  refine walk ?_
  refine s_box (cs := cv c) rfl rfl rfl ?_
  intro b
  refine walk ?_
  refine s_call rfl (cRight) rfl ?_
  rintro _ _ ⟨e_, rfl⟩
  obtain rfl := e_.symm
  refine walk ?_
  unfold textC
  by_cases hR : RightP c
  · rw [decide_eq_true hR, if_pos hR]
    have hj := join6_len hR
    refine walk ?_
    (refine s_buildA (cs := zs (nums c)) ?_ rfl ?_; (· kernel_rfl))
    refine walk ?_
    refine wp_loopF (α := Nat × Value) [3, 4, 5, 22, 23, 24, 25, 26, 27, 28, 29, 30, 31, 32, 33, 34, 35] (fun x => [(3, x.2), (22, .int .i64 x.1)]) (fun x => Mine 9 1 x.2 (toks c x.1).length (ss (toks c x.1)) + (blk b (cv c) 23 + H)) (fun x => x.1 ≤ 6) (fun x => 6 - x.1) (0, .slice none 0 0) agreed ?_ (Nat.zero_le _) ?_
    · show Ent _ (Mine 9 1 (.slice none 0 0) 0 [] + _)
      rw [Mine.nil, HProp.emp_add]
      exact Ent.refl _
    rintro ⟨i, v⟩ f hi
    simp only at hi
    simp only [putAll]
    have htl := toks_len c i
    by_cases hlt : i < 6
    · obtain ⟨hn, hn1⟩ := nums_ok hR i hlt
      have hcv : (zs (nums c))[i]? = some (.int .i64 (numAt c i : Nat)) := by
        unfold zs
        rw [List.getElem?_map, hn]; rfl
      refine walk ?_
      refine s_indexV (j := i) rfl rfl rfl hlt hcv rfl ?_
      refine walk ?_
      (refine wp_draw [6, 7, 8] (.look 0 (.look 1 (.look 2 (.look 3 (.look 4 (.look 5 (.act 6 (.act 7 (.act 8 (.look 9 .nil) .stop) .stop) .stop))))))) (by kernel_rfl) ?_; (apply dw_pure; (· exact rfl); (· exact rfl); (· (intro G; exact looked))); (apply dw_pure; (· exact rfl); (· exact rfl); (· (intro G; exact looked))); (apply dw_pure; (· exact rfl); (· exact rfl); (· (intro G; exact looked))); (apply dw_pure; (· exact rfl); (· exact rfl); (· (intro G; exact looked))); (apply dw_pure; (· exact rfl); (· exact rfl); (· (intro G; (refine s_sslice (l := lets) (a := i) (b := i + 1) rfl ⟨.i64, rfl⟩ ⟨.i64, rfl⟩ (by omega) (by show i + 1 ≤ 6; omega) (lets_at i hlt) rfl ?_); exact looked))); (apply dw_pure; (· exact rfl); (· exact rfl); (· (intro G; exact looked))); skip)
      refine dw_do rfl rfl ?_ dw_stop
      refine s_call rfl (itoaT T (n := numAt c i) (by omega)) rfl ?_
      rintro _ _ ⟨e_, rfl⟩
      obtain rfl := e_.symm
      refine wpl_nil (qone ⟨(by exact st_nil), ?_⟩)
      (skip)
      refine dw_do rfl rfl ?_ dw_stop
      refine s_buildInts (cs := [str [lets.getD i 0], str (dg (numAt c i))]) rfl rfl rfl rfl rfl ?_
      intro b7
      refine wpl_nil (qone ⟨(by exact st_nil), ?_⟩)
      (skip)
      refine dw_do rfl rfl ?_ dw_stop
      refine s_append (v := v) rfl rfl (Rd.blk0 (m := 2) (e := 9) rfl (by simp [maxLen])) rfl rfl ?_ rfl ?_
      · simp only [maxLen]; omega
      intro v8
      refine wpl_nil (qone ⟨(by exact st_nil), ?_⟩)
      ((apply dw_pure; (· exact rfl); (· exact rfl); (· (intro G; exact looked))); refine dw_nil ?_; skip)
      refine walk ?_
      refine ⟨(i + 1, v8), asided, agreed, ?_, hlt, by simp only; omega⟩
      have e1 : ss (toks c (i + 1)) = ss (toks c i) ++ [str [lets.getD i 0], str (dg (numAt c i))] := by rw [toks_next, ss_append]; rfl
      have e2 : (toks c (i + 1)).length = (toks c i).length + 2 := by rw [toks_next]; simp
      simp only [e1, e2]
      exact Ent.auto
    · obtain rfl : i = 6 := by omega
      refine WP.shape ?_
      rintro av cap rfl _ hcap _
      refine WP.open (by rw [htl]; omega) ?_
      rintro g9 sp rfl _
      have hc9 : Cells B (blk g9 (ss (toks c 6) ++ sp) 9) g9 0 (ss (toks c 6)) := by
        refine Cells.blk ?_
        intro j v h
        have hlt : j < (ss (toks c 6)).length := (List.getElem?_eq_some_iff.1 h).1
        rw [Nat.zero_add, List.getElem?_append_left hlt]
        exact h
      refine walk ?_
      refine s_call rfl (words_spec (l := toks c 6) (hc9.ent InH.ent) (by omega) hcap (by omega) (by omega)) rfl ?_
      rintro _ _ ⟨e_, rfl⟩
      obtain rfl := e_.symm
      refine walk ?_
      (first | (apply retRD1 (G := H) (.inr rfl) rfl; (· first | (refine rv_tmp (v := .string _) rfl) | exact rv_tmp rfl); (· exact Ent.auto)) | (apply retRD1 (G := H) (.inl rfl) rfl; (· first | (refine rv_tmp (v := .string _) rfl) | exact rv_tmp rfl); (· exact Ent.auto)))
      exact ⟨Ent.refl _, rfl⟩
  · rw [decide_eq_false hR, if_neg hR]
    refine walk ?_
    (first | (apply retRD1 (G := H) (.inr rfl) rfl; (· first | (refine rv_tmp (v := .string _) rfl) | exact rv_tmp rfl); (· exact Ent.auto)) | (apply retRD1 (G := H) (.inl rfl) rfl; (· first | (refine rv_tmp (v := .string _) rfl) | exact rv_tmp rfl); (· exact Ent.auto)))
    exact ⟨Ent.refl _, rfl⟩
theorem rText : Does Tryd.prog B 29 [cfgV c] H fun r H' => H' = H ∧ r = str (textC c) := by
  refine Does.frame0 ?_
  refine fn_intro 35 Tryd.func29 rfl rfl rfl ?_
  refine walk ?_
  refine s_box (cs := cv c) rfl rfl rfl ?_
  intro b
  refine walk ?_
  refine s_call rfl (rRight) rfl ?_
  rintro _ _ ⟨e_, rfl⟩
  obtain rfl := e_.symm
  refine walk ?_
  unfold textC
  by_cases hR : RightP c
  · rw [decide_eq_true hR, if_pos hR, join6]
    obtain ⟨a0, b0⟩ := nums_ok hR 0 (by omega)
    obtain ⟨a1, b1⟩ := nums_ok hR 1 (by omega)
    obtain ⟨a2, b2⟩ := nums_ok hR 2 (by omega)
    obtain ⟨a3, b3⟩ := nums_ok hR 3 (by omega)
    obtain ⟨a4, b4⟩ := nums_ok hR 4 (by omega)
    obtain ⟨a5, b5⟩ := nums_ok hR 5 (by omega)
    have l0 := dg_len b0
    have l1 := dg_len b1
    have l2 := dg_len b2
    have l3 := dg_len b3
    have l4 := dg_len b4
    have l5 := dg_len b5
    have e0 : c.n = ((numAt c 0 : Nat) : Int) := Option.some.inj a0
    have e1 : c.q = ((numAt c 1 : Nat) : Int) := Option.some.inj a1
    have e2 : c.g = ((numAt c 2 : Nat) : Int) := Option.some.inj a2
    have e3 : c.m = ((numAt c 3 : Nat) : Int) := Option.some.inj a3
    have e4 : c.t = ((numAt c 4 : Nat) : Int) := Option.some.inj a4
    have e5 : c.s = ((numAt c 5 : Nat) : Int) := Option.some.inj a5
    refine walk ?_
    (refine wp_draw [2, 7, 12, 17, 22, 27] (.look 0 (.look 1 (.look 5 (.look 6 (.look 10 (.look 11 (.look 15 (.look 16 (.look 20 (.look 21 (.look 25 (.look 26 (.act 2 (.look 3 (.look 4 (.act 7 (.look 8 (.look 9 (.act 12 (.look 13 (.look 14 (.act 17 (.look 18 (.look 19 (.act 22 (.look 23 (.look 24 (.act 27 (.look 28 (.look 29 .nil)) .stop))) .stop))) .stop))) .stop))) .stop))) .stop))))))))))))) (by kernel_rfl) ?_; (apply dw_pure; (· exact rfl); (· exact rfl); (· (intro G; exact looked))); (apply dw_look; (· exact rfl); (· exact rfl); (· (exact looked))); (apply dw_pure; (· exact rfl); (· exact rfl); (· (intro G; exact looked))); (apply dw_look; (· exact rfl); (· exact rfl); (· (exact looked))); (apply dw_pure; (· exact rfl); (· exact rfl); (· (intro G; exact looked))); (apply dw_look; (· exact rfl); (· exact rfl); (· (exact looked))); (apply dw_pure; (· exact rfl); (· exact rfl); (· (intro G; exact looked))); (apply dw_look; (· exact rfl); (· exact rfl); (· (exact looked))); (apply dw_pure; (· exact rfl); (· exact rfl); (· (intro G; exact looked))); (apply dw_look; (· exact rfl); (· exact rfl); (· (exact looked))); (apply dw_pure; (· exact rfl); (· exact rfl); (· (intro G; exact looked))); (apply dw_look; (· exact rfl); (· exact rfl); (· (exact looked))); skip)
    refine dw_do rfl rfl ?_ dw_stop
    refine s_call rfl (rdigitsI e0 b0) rfl ?_
    rintro _ _ ⟨e_, rfl⟩
    obtain rfl := e_.symm
    refine wpl_nil (qone ⟨(by (refine st_again ?_ ?_; (· exact looked)); (refine st_again ?_ ?_; (· exact looked)); (refine st_again ?_ ?_; (· exact looked)); (refine st_again ?_ ?_; (· exact looked)); (refine st_again ?_ ?_; (· exact looked)); refine st_past (by kernel_rfl) ?_; exact st_nil), ?_⟩)
    ((apply dw_pure; (· exact rfl); (· exact rfl); (· (intro G; (refine s_concat (l := [110, 32]) rfl rfl (by simp only [List.length_append, List.length_cons, List.length_nil]; omega) rfl rfl ?_); exact looked))); (apply dw_pure; (· exact rfl); (· exact rfl); (· (intro G; (refine s_concat (m := [32, 113, 32]) rfl rfl (by simp only [List.length_append, List.length_cons, List.length_nil]; omega) rfl rfl ?_); exact looked))); skip)
    refine dw_do rfl rfl ?_ dw_stop
    refine s_call rfl (rdigitsI e1 b1) rfl ?_
    rintro _ _ ⟨e_, rfl⟩
    obtain rfl := e_.symm
    refine wpl_nil (qone ⟨(by (refine st_again ?_ ?_; (· exact looked)); (refine st_again ?_ ?_; (· exact looked)); (refine st_again ?_ ?_; (· exact looked)); (refine st_again ?_ ?_; (· exact looked)); refine st_past (by kernel_rfl) ?_; refine st_past (by kernel_rfl) ?_; exact st_nil), ?_⟩)
    ((apply dw_pure; (· exact rfl); (· exact rfl); (· (intro G; (refine s_concat rfl rfl (by simp only [List.length_append, List.length_cons, List.length_nil]; omega) rfl rfl ?_); exact looked))); (apply dw_pure; (· exact rfl); (· exact rfl); (· (intro G; (refine s_concat (m := [32, 103, 32]) rfl rfl (by simp only [List.length_append, List.length_cons, List.length_nil]; omega) rfl rfl ?_); exact looked))); skip)
    refine dw_do rfl rfl ?_ dw_stop
    refine s_call rfl (rdigitsI e2 b2) rfl ?_
    rintro _ _ ⟨e_, rfl⟩
    obtain rfl := e_.symm
    refine wpl_nil (qone ⟨(by (refine st_again ?_ ?_; (· exact looked)); (refine st_again ?_ ?_; (· exact looked)); (refine st_again ?_ ?_; (· exact looked)); refine st_past (by kernel_rfl) ?_; refine st_past (by kernel_rfl) ?_; refine st_past (by kernel_rfl) ?_; exact st_nil), ?_⟩)
    ((apply dw_pure; (· exact rfl); (· exact rfl); (· (intro G; (refine s_concat rfl rfl (by simp only [List.length_append, List.length_cons, List.length_nil]; omega) rfl rfl ?_); exact looked))); (apply dw_pure; (· exact rfl); (· exact rfl); (· (intro G; (refine s_concat (m := [32, 109, 32]) rfl rfl (by simp only [List.length_append, List.length_cons, List.length_nil]; omega) rfl rfl ?_); exact looked))); skip)
    refine dw_do rfl rfl ?_ dw_stop
    refine s_call rfl (rdigitsI e3 b3) rfl ?_
    rintro _ _ ⟨e_, rfl⟩
    obtain rfl := e_.symm
    refine wpl_nil (qone ⟨(by (refine st_again ?_ ?_; (· exact looked)); (refine st_again ?_ ?_; (· exact looked)); refine st_past (by kernel_rfl) ?_; refine st_past (by kernel_rfl) ?_; refine st_past (by kernel_rfl) ?_; refine st_past (by kernel_rfl) ?_; exact st_nil), ?_⟩)
    ((apply dw_pure; (· exact rfl); (· exact rfl); (· (intro G; (refine s_concat rfl rfl (by simp only [List.length_append, List.length_cons, List.length_nil]; omega) rfl rfl ?_); exact looked))); (apply dw_pure; (· exact rfl); (· exact rfl); (· (intro G; (refine s_concat (m := [32, 116, 32]) rfl rfl (by simp only [List.length_append, List.length_cons, List.length_nil]; omega) rfl rfl ?_); exact looked))); skip)
    refine dw_do rfl rfl ?_ dw_stop
    refine s_call rfl (rdigitsI e4 b4) rfl ?_
    rintro _ _ ⟨e_, rfl⟩
    obtain rfl := e_.symm
    refine wpl_nil (qone ⟨(by (refine st_again ?_ ?_; (· exact looked)); refine st_past (by kernel_rfl) ?_; refine st_past (by kernel_rfl) ?_; refine st_past (by kernel_rfl) ?_; refine st_past (by kernel_rfl) ?_; refine st_past (by kernel_rfl) ?_; exact st_nil), ?_⟩)
    ((apply dw_pure; (· exact rfl); (· exact rfl); (· (intro G; (refine s_concat rfl rfl (by simp only [List.length_append, List.length_cons, List.length_nil]; omega) rfl rfl ?_); exact looked))); (apply dw_pure; (· exact rfl); (· exact rfl); (· (intro G; (refine s_concat (m := [32, 115, 32]) rfl rfl (by simp only [List.length_append, List.length_cons, List.length_nil]; omega) rfl rfl ?_); exact looked))); skip)
    refine dw_do rfl rfl ?_ dw_stop
    refine s_call rfl (rdigitsI e5 b5) rfl ?_
    rintro _ _ ⟨e_, rfl⟩
    obtain rfl := e_.symm
    refine wpl_nil (qone ⟨(by refine st_past (by kernel_rfl) ?_; refine st_past (by kernel_rfl) ?_; refine st_past (by kernel_rfl) ?_; refine st_past (by kernel_rfl) ?_; refine st_past (by kernel_rfl) ?_; refine st_past (by kernel_rfl) ?_; exact st_nil), ?_⟩)
    ((apply dw_pure; (· exact rfl); (· exact rfl); (· (intro G; (refine s_concat rfl rfl (by simp only [List.length_append, List.length_cons, List.length_nil]; omega) rfl rfl ?_); exact looked))); (apply dw_pure; (· exact rfl); (· exact rfl); (· (intro G; exact looked))); refine dw_nil ?_; skip)
    refine walk ?_
    (first | (apply retRD1 (G := H) (.inr rfl) rfl; (· first | (refine rv_tmp (v := .string _) rfl) | exact rv_tmp rfl); (· exact Ent.auto)) | (apply retRD1 (G := H) (.inl rfl) rfl; (· first | (refine rv_tmp (v := .string _) rfl) | exact rv_tmp rfl); (· exact Ent.auto)))
    exact ⟨Ent.refl _, rfl⟩
  · rw [decide_eq_false hR, if_neg hR]
    refine walk ?_
    (first | (apply retRD1 (G := H) (.inr rfl) rfl; (· first | (refine rv_tmp (v := .string _) rfl) | exact rv_tmp rfl); (· exact Ent.auto)) | (apply retRD1 (G := H) (.inl rfl) rfl; (· first | (refine rv_tmp (v := .string _) rfl) | exact rv_tmp rfl); (· exact Ent.auto)))
    exact ⟨Ent.refl _, rfl⟩
end
end Go.Proofs.YtoheplamhocloaaDoor
