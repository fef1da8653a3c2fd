/- A system is held against what it should keep. No condition. -/
import Derived.Test.YtlhnmbajbhaaoaaIdInv5
import Derived.Test.YtlhnmbajbhaaoaaSL4
namespace Go.Proofs.Ytlhnmbajbhaaoaa
open Go Go.SL
set_option linter.unusedSimpArgs false
set_option linter.unusedVariables false
set_option maxRecDepth 10000
set_option maxHeartbeats 8000000
attribute [local irreducible] WP WPL QSeq QBlk QRet Does Cell Cells Rd Mine Ent Aside RV Yield TabAt SemAt IdeAt tal
section
variable {B : World} {H F G : HProp} {x : Nat} {L : IdL} {cnt : List Int} {sc : Value} {K s w : Int}
theorem is_spec : Does Try.prog B 27 [.int .i64 s, .int .i64 w] H fun r H' => H' = H ∧ r = .int .i64 (if s = w then 1 else 0) := by
  by_cases h : s = w
  · rw [if_pos h]
    refine fn_intro 8 Try.func27 rfl rfl rfl ?_
    refine walk ?_
    (first | refine ret1 (v := .int _ _) (.inr rfl) rfl rfl ?_ | refine ret1  (.inr rfl) rfl rfl ?_ | refine ret1 (v := .int _ _) (.inl rfl) rfl rfl ?_ | refine ret1  (.inl rfl) rfl rfl ?_)
    exact ⟨rfl, rfl⟩
  · rw [if_neg h]
    refine fn_intro 8 Try.func27 rfl rfl rfl ?_
    refine walk ?_
    (first | refine ret1 (v := .int _ _) (.inr rfl) rfl rfl ?_ | refine ret1  (.inr rfl) rfl rfl ?_ | refine ret1 (v := .int _ _) (.inl rfl) rfl rfl ?_ | refine ret1  (.inl rfl) rfl rfl ?_)
    exact ⟨rfl, rfl⟩
theorem tal_cell {α : Type} {q : α → Nat → Bool} {N : Nat} {l : List α} {b i : Nat} (h : i < N) : Cell B (blk b (zs (tal q N l)) 3) b i (.int .i64 (l.countP (fun x => q x i) : Int)) := by
  rw [← HProp.add_emp (blk b (zs (tal q N l)) 3)]
  exact Cell.blk (by rw [show zs (tal q N l) = (tal q N l).map (.int .i64) from rfl, List.getElem?_map, tal_get h]; rfl)
theorem tal_set {α : Type} {q : α → Nat → Bool} {N : Nat} {l : List α} {y : α} {i : Nat} (hi : i < N) (hq : ∀ j, j < N → q y j = decide (j = i)) : (zs (tal q N l)).set i (.int .i64 ((l.countP (fun x => q x i) : Int) + 1)) = zs (tal q N (l ++ [y])) := by
  rw [← tal_key hi hq]
  simp [zs, List.map_set]
theorem keeps_spec [i : HasAt IdeAt H x L F] (ok : L.I.ok K) (hK : K ≤ 90000) (h : Inv L.I cnt) (hs : Rd B F 1 sc 4 (zs cnt)) : Does Try.prog B 10 [ptr x, cfgV L.I.c, sc] H fun r H' => H' = H ∧ r = .bool true := by
  have hc := ok.c
  obtain ⟨_, c1, c2, c3, c4, c5, c6, _, _, c9, c10⟩ := hc
  have hml := ok.ml
  have hpl := ok.pl
  have htl := ok.tl
  have hlk : LOk L.I.sem := rowS_all ok.sk (by omega)
  obtain ⟨g, hg⟩ := Int.eq_ofNat_of_zero_le (show 0 ≤ L.I.c.g by omega)
  obtain ⟨n, hn⟩ := Int.eq_ofNat_of_zero_le (show 0 ≤ L.I.c.n by omega)
  rw [i.eq]
  refine Does.frame0 ?_
  refine fn_intro 289 Try.func10 rfl rfl rfl ?_
  refine walk ?_
  refine s_box (cs := cv L.I.c) rfl rfl rfl ?_
  intro b4
  refine walk ?_
  refine wp_cut_here (α := Nat × Nat × Nat) [7, 8, 9, 22, 23, 24, 25, 26, 27, 28, 29, 30] (fun z => [(7, .slice (some ⟨z.1, 0, none⟩) g g), (8, .slice (some ⟨z.2.1, 0, none⟩) g g), (9, .slice (some ⟨z.2.2, 0, none⟩) g g)])
    (fun z => blk z.1 (zs (List.replicate g 0)) 3 + (blk z.2.1 (zs (List.replicate g 0)) 3 + (blk z.2.2 (zs (List.replicate g 0)) 3 + (blk b4 (cv L.I.c) 23 + (IdeAt x L + F))))) (fun _ => True) ?_ ?_
  · skip
    (refine wp_draw [2, 5, 8] (.look 0 (.look 1 (.look 3 (.look 4 (.look 6 (.look 7 (.act 2 (.look 9 (.act 5 (.look 10 (.act 8 (.look 11 .nil) .stop)) (.act 8 (.act 5 (.look 10 (.look 11 .nil)) .stop) .stop))) (.act 5 (.act 2 (.look 9 (.look 10 (.act 8 (.look 11 .nil) .stop))) (.act 8 (.act 2 (.look 9 (.look 10 (.look 11 .nil))) .stop) .stop)) (.act 8 (.act 2 (.look 9 (.act 5 (.look 10 (.look 11 .nil)) .stop)) (.act 5 (.act 2 (.look 9 (.look 10 (.look 11 .nil))) .stop) .stop)) .stop))))))))) (by kernel_rfl) ?_; (apply dw_pure; (· exact rfl); (· exact rfl); (· (intro G; exact looked))); (apply dw_look; (· exact rfl); (· exact rfl); (· (exact looked))); (apply dw_pure; (· exact rfl); (· exact rfl); (· (intro G; exact looked))); (apply dw_look; (· exact rfl); (· exact rfl); (· (exact looked))); (apply dw_pure; (· exact rfl); (· exact rfl); (· (intro G; exact looked))); (apply dw_look; (· exact rfl); (· exact rfl); (· (exact looked))); skip)
    refine dw_do rfl rfl ?_ (dw_do rfl rfl ?_ (dw_do rfl rfl ?_ dw_stop))
    · skip
      refine s_makeSlice (k := g) (c := g) (by rw [← hg]; rfl) (by rw [← hg]; rfl) (Nat.le_refl _) ?_ rfl ?_
      · simp only [maxLen]; omega
      intro b7
      rw [zeros_zs]
      refine wpl_nil (qone ⟨(by (refine st_again ?_ ?_; (· exact looked)); (refine st_again ?_ ?_; (· exact looked)); refine st_past (by kernel_rfl) ?_; exact st_nil), ?_⟩)
      ((apply dw_pure; (· exact rfl); (· exact rfl); (· (intro G; exact looked))); skip)
      refine dw_do rfl rfl ?_ (dw_do rfl rfl ?_ dw_stop)
      · skip
        refine s_makeSlice (k := g) (c := g) (by rw [← hg]; rfl) (by rw [← hg]; rfl) (Nat.le_refl _) ?_ rfl ?_
        · simp only [maxLen]; omega
        intro b8
        rw [zeros_zs]
        refine wpl_nil (qone ⟨(by (refine st_again ?_ ?_; (· exact looked)); refine st_past (by kernel_rfl) ?_; (refine st_again ?_ ?_; (· exact looked)); exact st_nil), ?_⟩)
        ((apply dw_pure; (· exact rfl); (· exact rfl); (· (intro G; exact looked))); skip)
        refine dw_do rfl rfl ?_ dw_stop
        refine s_makeSlice (k := g) (c := g) (by rw [← hg]; rfl) (by rw [← hg]; rfl) (Nat.le_refl _) ?_ rfl ?_
        · simp only [maxLen]; omega
        intro b9
        rw [zeros_zs]
        refine wpl_nil (qone ⟨(by refine st_past (by kernel_rfl) ?_; (refine st_again ?_ ?_; (· exact looked)); (refine st_again ?_ ?_; (· exact looked)); exact st_nil), ?_⟩)
        ((apply dw_pure; (· exact rfl); (· exact rfl); (· (intro G; exact looked))); refine dw_nil ?_; skip)
        refine walk ?_
        exact ⟨(b7, b8, b9), asided, agreed, Ent.auto, trivial⟩
      · skip
        refine s_makeSlice (k := g) (c := g) (by rw [← hg]; rfl) (by rw [← hg]; rfl) (Nat.le_refl _) ?_ rfl ?_
        · simp only [maxLen]; omega
        intro b9
        rw [zeros_zs]
        refine wpl_nil (qone ⟨(by refine st_past (by kernel_rfl) ?_; (refine st_again ?_ ?_; (· exact looked)); (refine st_again ?_ ?_; (· exact looked)); exact st_nil), ?_⟩)
        (skip)
        refine dw_do rfl rfl ?_ dw_stop
        refine s_makeSlice (k := g) (c := g) (by rw [← hg]; rfl) (by rw [← hg]; rfl) (Nat.le_refl _) ?_ rfl ?_
        · simp only [maxLen]; omega
        intro b8
        rw [zeros_zs]
        refine wpl_nil (qone ⟨(by (refine st_again ?_ ?_; (· exact looked)); refine st_past (by kernel_rfl) ?_; (refine st_again ?_ ?_; (· exact looked)); exact st_nil), ?_⟩)
        ((apply dw_pure; (· exact rfl); (· exact rfl); (· (intro G; exact looked))); (apply dw_pure; (· exact rfl); (· exact rfl); (· (intro G; exact looked))); refine dw_nil ?_; skip)
        refine walk ?_
        exact ⟨(b7, b8, b9), asided, agreed, Ent.auto, trivial⟩
    · skip
      refine s_makeSlice (k := g) (c := g) (by rw [← hg]; rfl) (by rw [← hg]; rfl) (Nat.le_refl _) ?_ rfl ?_
      · simp only [maxLen]; omega
      intro b8
      rw [zeros_zs]
      refine wpl_nil (qone ⟨(by (refine st_again ?_ ?_; (· exact looked)); refine st_past (by kernel_rfl) ?_; (refine st_again ?_ ?_; (· exact looked)); exact st_nil), ?_⟩)
      (skip)
      refine dw_do rfl rfl ?_ (dw_do rfl rfl ?_ dw_stop)
      · skip
        refine s_makeSlice (k := g) (c := g) (by rw [← hg]; rfl) (by rw [← hg]; rfl) (Nat.le_refl _) ?_ rfl ?_
        · simp only [maxLen]; omega
        intro b7
        rw [zeros_zs]
        refine wpl_nil (qone ⟨(by (refine st_again ?_ ?_; (· exact looked)); (refine st_again ?_ ?_; (· exact looked)); refine st_past (by kernel_rfl) ?_; exact st_nil), ?_⟩)
        ((apply dw_pure; (· exact rfl); (· exact rfl); (· (intro G; exact looked))); (apply dw_pure; (· exact rfl); (· exact rfl); (· (intro G; exact looked))); skip)
        refine dw_do rfl rfl ?_ dw_stop
        refine s_makeSlice (k := g) (c := g) (by rw [← hg]; rfl) (by rw [← hg]; rfl) (Nat.le_refl _) ?_ rfl ?_
        · simp only [maxLen]; omega
        intro b9
        rw [zeros_zs]
        refine wpl_nil (qone ⟨(by refine st_past (by kernel_rfl) ?_; (refine st_again ?_ ?_; (· exact looked)); (refine st_again ?_ ?_; (· exact looked)); exact st_nil), ?_⟩)
        ((apply dw_pure; (· exact rfl); (· exact rfl); (· (intro G; exact looked))); refine dw_nil ?_; skip)
        refine walk ?_
        exact ⟨(b7, b8, b9), asided, agreed, Ent.auto, trivial⟩
      · skip
        refine s_makeSlice (k := g) (c := g) (by rw [← hg]; rfl) (by rw [← hg]; rfl) (Nat.le_refl _) ?_ rfl ?_
        · simp only [maxLen]; omega
        intro b9
        rw [zeros_zs]
        refine wpl_nil (qone ⟨(by refine st_past (by kernel_rfl) ?_; (refine st_again ?_ ?_; (· exact looked)); (refine st_again ?_ ?_; (· exact looked)); exact st_nil), ?_⟩)
        (skip)
        refine dw_do rfl rfl ?_ dw_stop
        refine s_makeSlice (k := g) (c := g) (by rw [← hg]; rfl) (by rw [← hg]; rfl) (Nat.le_refl _) ?_ rfl ?_
        · simp only [maxLen]; omega
        intro b7
        rw [zeros_zs]
        refine wpl_nil (qone ⟨(by (refine st_again ?_ ?_; (· exact looked)); (refine st_again ?_ ?_; (· exact looked)); refine st_past (by kernel_rfl) ?_; exact st_nil), ?_⟩)
        ((apply dw_pure; (· exact rfl); (· exact rfl); (· (intro G; exact looked))); (apply dw_pure; (· exact rfl); (· exact rfl); (· (intro G; exact looked))); (apply dw_pure; (· exact rfl); (· exact rfl); (· (intro G; exact looked))); refine dw_nil ?_; skip)
        refine walk ?_
        exact ⟨(b7, b8, b9), asided, agreed, Ent.auto, trivial⟩
    · skip
      refine s_makeSlice (k := g) (c := g) (by rw [← hg]; rfl) (by rw [← hg]; rfl) (Nat.le_refl _) ?_ rfl ?_
      · simp only [maxLen]; omega
      intro b9
      rw [zeros_zs]
      refine wpl_nil (qone ⟨(by refine st_past (by kernel_rfl) ?_; (refine st_again ?_ ?_; (· exact looked)); (refine st_again ?_ ?_; (· exact looked)); exact st_nil), ?_⟩)
      (skip)
      refine dw_do rfl rfl ?_ (dw_do rfl rfl ?_ dw_stop)
      · skip
        refine s_makeSlice (k := g) (c := g) (by rw [← hg]; rfl) (by rw [← hg]; rfl) (Nat.le_refl _) ?_ rfl ?_
        · simp only [maxLen]; omega
        intro b7
        rw [zeros_zs]
        refine wpl_nil (qone ⟨(by (refine st_again ?_ ?_; (· exact looked)); (refine st_again ?_ ?_; (· exact looked)); refine st_past (by kernel_rfl) ?_; exact st_nil), ?_⟩)
        ((apply dw_pure; (· exact rfl); (· exact rfl); (· (intro G; exact looked))); skip)
        refine dw_do rfl rfl ?_ dw_stop
        refine s_makeSlice (k := g) (c := g) (by rw [← hg]; rfl) (by rw [← hg]; rfl) (Nat.le_refl _) ?_ rfl ?_
        · simp only [maxLen]; omega
        intro b8
        rw [zeros_zs]
        refine wpl_nil (qone ⟨(by (refine st_again ?_ ?_; (· exact looked)); refine st_past (by kernel_rfl) ?_; (refine st_again ?_ ?_; (· exact looked)); exact st_nil), ?_⟩)
        ((apply dw_pure; (· exact rfl); (· exact rfl); (· (intro G; exact looked))); (apply dw_pure; (· exact rfl); (· exact rfl); (· (intro G; exact looked))); refine dw_nil ?_; skip)
        refine walk ?_
        exact ⟨(b7, b8, b9), asided, agreed, Ent.auto, trivial⟩
      · skip
        refine s_makeSlice (k := g) (c := g) (by rw [← hg]; rfl) (by rw [← hg]; rfl) (Nat.le_refl _) ?_ rfl ?_
        · simp only [maxLen]; omega
        intro b8
        rw [zeros_zs]
        refine wpl_nil (qone ⟨(by (refine st_again ?_ ?_; (· exact looked)); refine st_past (by kernel_rfl) ?_; (refine st_again ?_ ?_; (· exact looked)); exact st_nil), ?_⟩)
        (skip)
        refine dw_do rfl rfl ?_ dw_stop
        refine s_makeSlice (k := g) (c := g) (by rw [← hg]; rfl) (by rw [← hg]; rfl) (Nat.le_refl _) ?_ rfl ?_
        · simp only [maxLen]; omega
        intro b7
        rw [zeros_zs]
        refine wpl_nil (qone ⟨(by (refine st_again ?_ ?_; (· exact looked)); (refine st_again ?_ ?_; (· exact looked)); refine st_past (by kernel_rfl) ?_; exact st_nil), ?_⟩)
        ((apply dw_pure; (· exact rfl); (· exact rfl); (· (intro G; exact looked))); (apply dw_pure; (· exact rfl); (· exact rfl); (· (intro G; exact looked))); (apply dw_pure; (· exact rfl); (· exact rfl); (· (intro G; exact looked))); refine dw_nil ?_; skip)
        refine walk ?_
        exact ⟨(b7, b8, b9), asided, agreed, Ent.auto, trivial⟩
  rintro ⟨b7, b8, b9⟩ f1 _
  simp only [putAll]
  refine walk ?_
  refine s_makeSlice (k := n) (c := n) (by rw [← hn]; rfl) (by rw [← hn]; rfl) (Nat.le_refl _) ?_ rfl ?_
  · simp only [maxLen]; omega
  intro b10
  rw [zeros_zs]
  refine walk ?_
  refine wp_loopF (α := Nat) [6, 11, 12, 13, 14, 34, 35, 36, 37, 38, 39, 40, 41, 42, 43, 44, 45, 46, 47, 48, 49, 50, 51, 52, 53, 54, 55, 56, 57, 58, 59, 60, 61, 62, 63, 64, 65, 66, 67, 68, 69, 70, 71, 72, 73, 74, 75, 76, 77, 78, 79, 80, 81, 82, 83, 84, 85, 86, 87, 88, 89, 90, 91, 92, 93, 94, 95, 96, 97, 98, 99, 100, 101, 102, 103, 104, 105, 106, 107, 108, 109, 110, 111, 112, 113, 114, 115, 116, 117, 118, 119, 120, 121, 122, 123, 124, 125, 126, 127, 128, 129, 130, 131, 132, 133, 134, 135, 136, 137, 138, 139, 140, 141, 142, 143, 144, 145, 146, 147, 148, 149, 150, 151, 152, 153] (fun k => [(12, .int .i64 k), (11, .int .i64 (((L.I.ms.take k).countP fun m => decide (m.a = 3) : Nat) : Int))]) (fun k => blk b10 (zs (tal qP n (L.I.ms.take (k)))) 3 + (blk b7 (zs (tal qR g (L.I.ms.take (k)))) 3 + (blk b8 (zs (tal qC g (L.I.ms.take (k)))) 3 + (blk b9 (zs (List.replicate g 0)) 3 + (blk b4 (cv L.I.c) 23 + (IdeAt x L + F)))))) (fun k => k ≤ L.I.ms.length) (fun k => L.I.ms.length - k) 0 agreed ?_ (Nat.zero_le _) ?_
  · simp only [List.take_zero, tal_nil]
    exact Ent.auto
  intro k f2 hk
  simp only [putAll]
  by_cases hlt : k < L.I.ms.length
  · obtain ⟨m, hm⟩ : ∃ m, L.I.ms[k] = m := ⟨_, rfl⟩
    have hmk : L.I.ms[k]? = some m := by rw [List.getElem?_eq_getElem hlt, hm]
    have htake : L.I.ms.take (k + 1) = L.I.ms.take k ++ [m] := by rw [List.take_succ_eq_append_getElem hlt, hm]
    obtain ⟨mi, mp⟩ := h.pp.mi k m hmk
    have hst : stC L.I ((k : Nat) : Int) = [.int .i64 m.a, .int .i64 m.p, .int .i64 m.g] := by
      unfold stC Ide.mAt
      rw [if_pos (by omega), Int.toNat_natCast, hmk]; rfl
    have hok : decide (0 ≤ ((k : Nat) : Int) ∧ ((k : Nat) : Int) < L.I.ms.length) = true := decide_eq_true (by omega)
    have ma := mi.a
    have mpb := mi.p
    have mgb := mi.g
    have cle := List.countP_le_length (p := fun m : Mc => decide (m.a = 3)) (l := L.I.ms.take k)
    rw [List.length_take] at cle
    have cle16 : (L.I.ms.take k).countP (fun m => decide (m.a = 3)) ≤ 16 := by omega
    have eA : (L.I.ms.take (k + 1)).countP (fun m => decide (m.a = 3)) = (L.I.ms.take k).countP (fun m => decide (m.a = 3)) + if m.a = 3 then 1 else 0 := by
      rw [htake, List.countP_append]
      simp [List.countP_cons]
    have hP : 0 ≤ m.p → ∃ pk : Nat, m.p = (pk : Int) ∧ pk < n ∧ (∀ j, j < n → qP m j = decide (j = pk)) ∧ (if 0 ≤ m.p ∧ m.p < L.I.ps.length then L.I.pAt m.p else -3) = (k : Int) := by
      intro h0
      refine ⟨m.p.toNat, by omega, by omega, fun j _ => decide_eq_decide.2 (by omega), ?_⟩
      rw [if_pos (by omega)]
      unfold Ide.pAt
      rw [mp h0]; rfl
    have hcP : ∀ pk, (L.I.ms.take k).countP (fun y => qP y pk) ≤ 16 := fun pk => by
      have := List.countP_le_length (p := fun y => qP y pk) (l := L.I.ms.take k)
      rw [List.length_take] at this
      omega
    have hcR : ∀ pk, (L.I.ms.take k).countP (fun y => qR y pk) ≤ 16 := fun pk => by
      have := List.countP_le_length (p := fun y => qR y pk) (l := L.I.ms.take k)
      rw [List.length_take] at this
      omega
    have hcC : ∀ pk, (L.I.ms.take k).countP (fun y => qC y pk) ≤ 16 := fun pk => by
      have := List.countP_le_length (p := fun y => qC y pk) (l := L.I.ms.take k)
      rw [List.length_take] at this
      omega
    have nP : m.p < 0 → tal qP n (L.I.ms.take (k + 1)) = tal qP n (L.I.ms.take k) := fun h0 => by rw [htake]; exact tal_none fun j _ => decide_eq_false (by omega)
    have nR : m.a ≠ 2 → tal qR g (L.I.ms.take (k + 1)) = tal qR g (L.I.ms.take k) := fun h0 => by rw [htake]; exact tal_none fun j _ => by simp [qR, h0]
    have nC : m.a ≠ 3 → tal qC g (L.I.ms.take (k + 1)) = tal qC g (L.I.ms.take k) := fun h0 => by rw [htake]; exact tal_none fun j _ => by simp [qC, h0]
    have mga := mi.ga
    rcases (show m.a = 0 ∨ m.a = 1 ∨ m.a = 2 ∨ m.a = 3 by omega) with a | a | a | a
    · have p0 := mi.rest a
      have g0 : m.g < 0 := by omega
      rw [if_neg (by omega)] at eA
      have e1 := nP p0
      have e2 := nR (by omega)
      have e3 := nC (by omega)
      refine walk ?_
      refine s_call rfl (iM (x := x) (L := L) (m := ((k : Nat) : Int))) rfl ?_
      rintro _ _ ⟨e_, rfl⟩
      obtain rfl := e_.symm
      rw [hst, hok]
      refine walk ?_
      refine s_alloc rfl ?_
      intro b13
      refine walk ?_
      refine s_storeV (vs := [.int .i64 m.a, .int .i64 m.p, .int .i64 m.g]) rfl rfl rfl rfl rfl ?_
      refine walk ?_
      refine ⟨k + 1, asided, agreed, ?_, by omega, by omega⟩
      rw [e1, e2, e3]
      exact Ent.auto
    · have p0 := mi.on (.inl a)
      have g0 : m.g < 0 := by omega
      rw [if_neg (by omega)] at eA
      have e2 := nR (by omega)
      have e3 := nC (by omega)
      obtain ⟨pk, hpk, hpn, qPk, hPk⟩ := hP p0
      have cP := tal_cell (B := B) (q := qP) (l := L.I.ms.take k) (b := b10) hpn
      have bP := hcP pk
      refine walk ?_
      refine s_call rfl (iM (x := x) (L := L) (m := ((k : Nat) : Int))) rfl ?_
      rintro _ _ ⟨e_, rfl⟩
      obtain rfl := e_.symm
      rw [hst, hok]
      refine walk ?_
      refine s_alloc rfl ?_
      intro b13
      refine walk ?_
      refine s_storeV (vs := [.int .i64 m.a, .int .i64 m.p, .int .i64 m.g]) rfl rfl rfl rfl rfl ?_
      refine walk ?_
      (apply s_indexAddr (j := pk) (o' := pk); (· exact rfl); (· exact rfl); (· omega); (· omega); (· omega); (· exact rfl))
      refine walk ?_
      (apply s_indexAddr (j := pk) (o' := pk); (· exact rfl); (· exact rfl); (· omega); (· omega); (· omega); (· exact rfl))
      refine s_store (v := .int .i64 ((((L.I.ms.take k).countP (fun y => qP y pk) : Nat) : Int) + 1)) (cs' := zs (tal qP n (L.I.ms.take (k + 1)))) rfl rfl rfl (by rw [zs_length, tal_len]; omega) (by rw [htake]; exact tal_set (by omega) qPk) ?_
      refine walk ?_
      refine s_call rfl (iP (x := x) (L := L) (p := m.p)) rfl ?_
      rintro _ _ ⟨e_, rfl⟩
      obtain rfl := e_.symm
      rw [hPk]
      refine walk ?_
      refine ⟨k + 1, asided, agreed, ?_, by omega, by omega⟩
      rw [e2, e3]
      exact Ent.auto
    · have p0 := mi.on (.inr a)
      have g0 : 0 ≤ m.g := by omega
      rw [if_neg (by omega)] at eA
      have e3 := nC (by omega)
      obtain ⟨pk, hpk, hpn, qPk, hPk⟩ := hP p0
      obtain ⟨gk, hgk⟩ := Int.eq_ofNat_of_zero_le g0
      have cP := tal_cell (B := B) (q := qP) (l := L.I.ms.take k) (b := b10) hpn
      have cR := tal_cell (B := B) (q := qR) (l := L.I.ms.take k) (b := b7) (N := g) (i := gk) (by omega)
      have bP := hcP pk
      have bR := hcR gk
      refine walk ?_
      refine s_call rfl (iM (x := x) (L := L) (m := ((k : Nat) : Int))) rfl ?_
      rintro _ _ ⟨e_, rfl⟩
      obtain rfl := e_.symm
      rw [hst, hok]
      refine walk ?_
      refine s_alloc rfl ?_
      intro b13
      refine walk ?_
      refine s_storeV (vs := [.int .i64 m.a, .int .i64 m.p, .int .i64 m.g]) rfl rfl rfl rfl rfl ?_
      refine walk ?_
      (apply s_indexAddr (j := pk) (o' := pk); (· exact rfl); (· exact rfl); (· omega); (· omega); (· omega); (· exact rfl))
      refine walk ?_
      (apply s_indexAddr (j := pk) (o' := pk); (· exact rfl); (· exact rfl); (· omega); (· omega); (· omega); (· exact rfl))
      refine s_store (v := .int .i64 ((((L.I.ms.take k).countP (fun y => qP y pk) : Nat) : Int) + 1)) (cs' := zs (tal qP n (L.I.ms.take (k + 1)))) rfl rfl rfl (by rw [zs_length, tal_len]; omega) (by rw [htake]; exact tal_set (by omega) qPk) ?_
      refine walk ?_
      refine s_call rfl (iP (x := x) (L := L) (p := m.p)) rfl ?_
      rintro _ _ ⟨e_, rfl⟩
      obtain rfl := e_.symm
      rw [hPk]
      refine walk ?_
      (apply s_indexAddr (j := gk) (o' := gk); (· exact rfl); (· exact rfl); (· omega); (· omega); (· omega); (· exact rfl))
      refine walk ?_
      (apply s_indexAddr (j := gk) (o' := gk); (· exact rfl); (· exact rfl); (· omega); (· omega); (· omega); (· exact rfl))
      refine s_store (v := .int .i64 ((((L.I.ms.take k).countP (fun y => qR y gk) : Nat) : Int) + 1)) (cs' := zs (tal qR g (L.I.ms.take (k + 1)))) rfl rfl rfl (by rw [zs_length, tal_len]; omega) (by rw [htake]; exact tal_set (by omega) (fun j _ => by simp [qR, a, hgk]; omega)) ?_
      refine walk ?_
      refine ⟨k + 1, asided, agreed, ?_, by omega, by omega⟩
      rw [e3]
      exact Ent.auto
    · have g0 : 0 ≤ m.g := by omega
      rw [if_pos a] at eA
      have e2 := nR (by omega)
      obtain ⟨gk, hgk⟩ := Int.eq_ofNat_of_zero_le g0
      have cC := tal_cell (B := B) (q := qC) (l := L.I.ms.take k) (b := b8) (N := g) (i := gk) (by omega)
      have bC := hcC gk
      by_cases p0 : 0 ≤ m.p
      · obtain ⟨pk, hpk, hpn, qPk, hPk⟩ := hP p0
        have cP := tal_cell (B := B) (q := qP) (l := L.I.ms.take k) (b := b10) hpn
        have bP := hcP pk
        refine walk ?_
        refine s_call rfl (iM (x := x) (L := L) (m := ((k : Nat) : Int))) rfl ?_
        rintro _ _ ⟨e_, rfl⟩
        obtain rfl := e_.symm
        rw [hst, hok]
        refine walk ?_
        refine s_alloc rfl ?_
        intro b13
        refine walk ?_
        refine s_storeV (vs := [.int .i64 m.a, .int .i64 m.p, .int .i64 m.g]) rfl rfl rfl rfl rfl ?_
        refine walk ?_
        (apply s_indexAddr (j := pk) (o' := pk); (· exact rfl); (· exact rfl); (· omega); (· omega); (· omega); (· exact rfl))
        refine walk ?_
        (apply s_indexAddr (j := pk) (o' := pk); (· exact rfl); (· exact rfl); (· omega); (· omega); (· omega); (· exact rfl))
        refine s_store (v := .int .i64 ((((L.I.ms.take k).countP (fun y => qP y pk) : Nat) : Int) + 1)) (cs' := zs (tal qP n (L.I.ms.take (k + 1)))) rfl rfl rfl (by rw [zs_length, tal_len]; omega) (by rw [htake]; exact tal_set (by omega) qPk) ?_
        refine walk ?_
        refine s_call rfl (iP (x := x) (L := L) (p := m.p)) rfl ?_
        rintro _ _ ⟨e_, rfl⟩
        obtain rfl := e_.symm
        rw [hPk]
        refine walk ?_
        (apply s_indexAddr (j := gk) (o' := gk); (· exact rfl); (· exact rfl); (· omega); (· omega); (· omega); (· exact rfl))
        refine walk ?_
        (apply s_indexAddr (j := gk) (o' := gk); (· exact rfl); (· exact rfl); (· omega); (· omega); (· omega); (· exact rfl))
        refine s_store (v := .int .i64 ((((L.I.ms.take k).countP (fun y => qC y gk) : Nat) : Int) + 1)) (cs' := zs (tal qC g (L.I.ms.take (k + 1)))) rfl rfl rfl (by rw [zs_length, tal_len]; omega) (by rw [htake]; exact tal_set (by omega) (fun j _ => by simp [qC, a, hgk]; omega)) ?_
        refine walk ?_
        refine ⟨k + 1, asided, agreed, ?_, by omega, by omega⟩
        rw [e2]
        exact Ent.auto
      · have e1 := nP (by omega)
        refine walk ?_
        refine s_call rfl (iM (x := x) (L := L) (m := ((k : Nat) : Int))) rfl ?_
        rintro _ _ ⟨e_, rfl⟩
        obtain rfl := e_.symm
        rw [hst, hok]
        refine walk ?_
        refine s_alloc rfl ?_
        intro b13
        refine walk ?_
        refine s_storeV (vs := [.int .i64 m.a, .int .i64 m.p, .int .i64 m.g]) rfl rfl rfl rfl rfl ?_
        refine walk ?_
        (apply s_indexAddr (j := gk) (o' := gk); (· exact rfl); (· exact rfl); (· omega); (· omega); (· omega); (· exact rfl))
        refine walk ?_
        (apply s_indexAddr (j := gk) (o' := gk); (· exact rfl); (· exact rfl); (· omega); (· omega); (· omega); (· exact rfl))
        refine s_store (v := .int .i64 ((((L.I.ms.take k).countP (fun y => qC y gk) : Nat) : Int) + 1)) (cs' := zs (tal qC g (L.I.ms.take (k + 1)))) rfl rfl rfl (by rw [zs_length, tal_len]; omega) (by rw [htake]; exact tal_set (by omega) (fun j _ => by simp [qC, a, hgk]; omega)) ?_
        refine walk ?_
        refine ⟨k + 1, asided, agreed, ?_, by omega, by omega⟩
        rw [e1, e2]
        exact Ent.auto
  · have hkl : L.I.ms.take k = L.I.ms := List.take_of_length_le (by omega)
    rw [hkl]
    refine walk ?_
    unfold Rd at hs
    obtain ⟨asc, capc, rfl, hlc, _, hcc⟩ := hs
    have hcl := h.cl
    obtain ⟨bc, oc, rfl, hccs⟩ := Rd.addr (k := 0) (m := 4) (by rw [zs_length]; omega) hcc (by omega)
    refine wp_loopF (α := Nat) [6, 15, 16, 17, 154, 155, 156, 157, 158, 159, 160, 161, 162, 163, 164, 165, 166, 167, 168, 169, 170, 171, 172, 173, 174, 175, 176, 177, 178, 179, 180, 181, 182, 183, 184, 185, 186, 187, 188, 189, 190, 191, 192, 193, 194, 195, 196, 197, 198, 199, 200, 201, 202, 203, 204, 205, 206, 207, 208, 209] (fun s => [(15, .int .i64 s)]) (fun s => blk b10 (zs (tal qP n L.I.ms)) 3 + (blk b7 (zs (tal qR g L.I.ms)) 3 + (blk b8 (zs (tal qC g L.I.ms)) 3 + (blk b9 (zs (tal qW g (allW (L.I.sem.take s)))) 3 + (blk b4 (cv L.I.c) 23 + (IdeAt x L + F)))))) (fun s => s ≤ 4) (fun s => 4 - s) 0 agreed ?_ (Nat.zero_le _) ?_
    · simp only [List.take_zero, show allW [] = [] from rfl, tal_nil]
      exact Ent.auto
    intro s f3 hs4
    simp only [putAll]
    by_cases hlt2 : s < 4
    · have hsl := ok.sl
      obtain ⟨l, c, hlc2⟩ : ∃ l c, L.I.sem[s]? = some (l, c) := ⟨_, _, List.getElem?_eq_getElem (by omega)⟩
      obtain ⟨e1, e2, e3, e4, e5⟩ := h.se s l c hlc2
      have hro : rowS L.I.sem ((s : Nat) : Int) = l := by unfold rowS; rw [if_pos (by omega), Int.toNat_natCast, hlc2]; rfl
      have hct : L.I.count ((s : Nat) : Int) = c := by unfold Ide.count; rw [if_pos (by omega), Int.toNat_natCast, hlc2]; rfl
      have hcx : max 0 (L.I.count ((s : Nat) : Int)) = c := by rw [hct]; omega
      have hcc1 : Cell B F bc (oc + s) (.int .i64 c) := hccs.cell (by rw [show zs cnt = cnt.map (.int .i64) from rfl, List.getElem?_map, e1]; rfl)
      have hsg : L.I.sem[s]'(by omega) = (l, c) := by have := List.getElem?_eq_getElem (l := L.I.sem) (i := s) (by omega); rw [hlc2] at this; exact (Option.some.inj this).symm
      have hW1 : allW (L.I.sem.take (s + 1)) = allW (L.I.sem.take s) ++ l := by
        unfold allW
        rw [List.take_succ_eq_append_getElem (by omega), hsg]
        simp
      have hsp : allW L.I.sem = allW (L.I.sem.take s) ++ (l ++ allW (L.I.sem.drop (s + 1))) := by
        have e : L.I.sem = L.I.sem.take s ++ (l, c) :: L.I.sem.drop (s + 1) := by rw [← hsg, ← List.drop_eq_getElem_cons, List.take_append_drop]
        conv => lhs; rw [e]
        unfold allW
        simp
      have hll := ok.sk s l c hlc2
      refine walk ?_
      refine s_call rfl (iWaits (x := x) (L := L) (s := ((s : Nat) : Int)) hlk) rfl ?_
      rintro r _ rfl
      rw [hro]
      refine WPL.shape ?_
      rintro ao cap rfl hl1 hl2 hl3
      refine WPL.rd fun rdW => ?_
      refine walk ?_
      refine wp_loopF (α := Nat) [6, 17, 161, 162, 163, 164, 165, 166, 167, 168, 169, 170, 171, 172, 173, 174, 175, 176, 177, 178, 179, 180, 181, 182, 183, 184, 185, 186, 187, 188, 189] (fun i => [(17, .int .i64 i)]) (fun i => Mine 3 1 (.slice ao l.length cap) l.length (zs l) + (blk b10 (zs (tal qP n L.I.ms)) 3 + (blk b7 (zs (tal qR g L.I.ms)) 3 + (blk b8 (zs (tal qC g L.I.ms)) 3 + (blk b9 (zs (tal qW g (allW (L.I.sem.take s) ++ l.take i))) 3 + (blk b4 (cv L.I.c) 23 + (IdeAt x L + F))))))) (fun i => i ≤ l.length) (fun i => l.length - i) 0 agreed ?_ (Nat.zero_le _) ?_
      · simp only [List.take_zero, List.append_nil]
        exact Ent.auto
      intro i f4 hi
      simp only [putAll]
      by_cases hlt3 : i < l.length
      · obtain ⟨y, hy⟩ : ∃ y, l[i] = y := ⟨_, rfl⟩
        have hyl : y ∈ l := by rw [← hy]; exact List.getElem_mem _
        obtain ⟨y0, y1⟩ := e2 y hyl
        obtain ⟨yk, hyk⟩ := Int.eq_ofNat_of_zero_le y0
        obtain ⟨ao', cap', hv', _, _, hcw⟩ := (by unfold Rd at rdW; exact rdW)
        cases hv'
        obtain ⟨bw, ow, rfl, hcws⟩ := Rd.addr (k := i) (by rw [zs_length]; omega) hcw hlt3
        have hcy := hcws.cell (zs_get l i hlt3)
        rw [hy] at hcy
        have htk : l.take (i + 1) = l.take i ++ [y] := by rw [List.take_succ_eq_append_getElem hlt3, hy]
        have cW := tal_cell (B := B) (q := qW) (l := allW (L.I.sem.take s) ++ l.take i) (b := b9) (N := g) (i := yk) (by omega)
        have bW : (allW (L.I.sem.take s) ++ l.take i).countP (fun z => qW z yk) ≤ 1 := by
          have a1 := allW_count L.I.sem yk
          rw [(h.st ((yk : Nat) : Int) (by omega) (by omega)).2.2, hsp, List.countP_append, List.countP_append] at a1
          have a2 : l.countP (fun z => qW z yk) = (l.take i).countP (fun z => qW z yk) + (l.drop i).countP (fun z => qW z yk) := by rw [← List.countP_append, List.take_append_drop]
          rw [List.countP_append]
          split at a1 <;> omega
        refine walk ?_
        (refine wp_draw [] (.look 0 (.look 1 (.look 2 (.look 3 (.look 4 (.look 5 (.look 6 (.look 7 (.look 8 (.look 9 (.look 10 (.look 11 (.look 12 (.look 13 .nil)))))))))))))) (by kernel_rfl) ?_; (apply dw_pure; (· exact rfl); (· exact rfl); (· (intro G; exact looked))); (apply dw_pure; (· exact rfl); (· exact rfl); (· (intro G; exact looked))); (apply dw_pure; (· exact rfl); (· exact rfl); (· (intro G; (first | (refine step_wanted rfl rfl ?_; (apply s_indexAddr (j := i) (o' := ow + i); (· exact rfl); (· exact rfl); (· omega); (· omega); (· omega); (· exact rfl))) | (apply s_indexAddr (j := i) (o' := ow + i); (· exact rfl); (· exact rfl); (· omega); (· omega); (· omega); (· exact rfl)) | skip); exact looked))); (apply dw_look; (· exact rfl); (· exact rfl); (· (exact looked))); (apply dw_pure; (· exact rfl); (· exact rfl); (· (intro G; exact looked))); (apply dw_pure; (· exact rfl); (· exact rfl); (· (intro G; exact looked))); (apply dw_pure; (· exact rfl); (· exact rfl); (· (intro G; exact looked))); (apply dw_pure; (· exact rfl); (· exact rfl); (· (intro G; exact looked))); (apply dw_pure; (· exact rfl); (· exact rfl); (· (intro G; (first | (refine step_wanted rfl rfl ?_; (apply s_indexAddr (j := i) (o' := ow + i); (· exact rfl); (· exact rfl); (· omega); (· omega); (· omega); (· exact rfl))) | (apply s_indexAddr (j := i) (o' := ow + i); (· exact rfl); (· exact rfl); (· omega); (· omega); (· omega); (· exact rfl)) | skip); exact looked))); (apply dw_look; (· exact rfl); (· exact rfl); (· (exact looked))); (apply dw_pure; (· exact rfl); (· exact rfl); (· (intro G; exact looked))); (apply dw_look; (· exact rfl); (· exact rfl); (· (exact looked))); (apply dw_pure; (· exact rfl); (· exact rfl); (· (intro G; exact looked))); (apply dw_pure; (· exact rfl); (· exact rfl); (· (intro G; exact looked))); refine dw_nil ?_)
        refine walk ?_
        (apply s_indexAddr (j := yk) (o' := yk); (· exact rfl); (· exact rfl); (· omega); (· omega); (· omega); (· exact rfl))
        refine walk ?_
        (apply s_indexAddr (j := yk) (o' := yk); (· exact rfl); (· exact rfl); (· omega); (· omega); (· omega); (· exact rfl))
        refine s_store (v := .int .i64 ((((allW (L.I.sem.take s) ++ l.take i).countP (fun z => qW z yk) : Nat) : Int) + 1)) (cs' := zs (tal qW g (allW (L.I.sem.take s) ++ l.take (i + 1)))) rfl rfl rfl (by rw [zs_length, tal_len]; omega) (by rw [htk, ← List.append_assoc]; exact tal_set (by omega) (fun j _ => decide_eq_decide.2 (by omega))) ?_
        refine walk ?_
        exact ⟨i + 1, asided, agreed, Ent.auto, by omega, by omega⟩
      · have hil : l.take i = l := List.take_of_length_le (by omega)
        rw [hil]
        by_cases hl0 : 0 < l.length
        · have hc0 : c = 0 := by
            by_cases hcp : 0 < c
            · have := e3 hcp
              rw [this] at hl0
              simp at hl0
            · omega
          refine walk ?_
          (refine wp_draw [2] (.look 0 (.look 1 (.look 3 (.look 4 (.look 5 (.look 6 (.act 2 (.look 7 (.look 8 (.look 9 (.look 10 (.look 11 (.look 12 (.look 13 (.look 14 (.look 15 (.look 16 (.look 17 (.look 18 (.look 19 .nil))))))))))))) .stop))))))) (by kernel_rfl) ?_; (apply dw_pure; (· exact rfl); (· exact rfl); (· (intro G; exact looked))); (apply dw_pure; (· exact rfl); (· exact rfl); (· (intro G; exact looked))); (apply dw_pure; (· exact rfl); (· exact rfl); (· (intro G; exact looked))); (apply dw_pure; (· exact rfl); (· exact rfl); (· (intro G; exact looked))); (apply dw_pure; (· exact rfl); (· exact rfl); (· (intro G; (first | (refine step_wanted rfl rfl ?_; (apply s_indexAddr (j := s) (o' := oc + s); (· exact rfl); (· exact rfl); (· omega); (· omega); (· omega); (· exact rfl))) | (apply s_indexAddr (j := s) (o' := oc + s); (· exact rfl); (· exact rfl); (· omega); (· omega); (· omega); (· exact rfl)) | skip); exact looked))); (apply dw_look; (· exact rfl); (· exact rfl); (· (exact looked))); skip)
          refine dw_do rfl rfl ?_ dw_stop
          refine s_call rfl (iCountX (x := x) (L := L) (s := ((s : Nat) : Int))) rfl ?_
          rintro _ _ ⟨e_, rfl⟩
          obtain rfl := e_.symm
          rw [hcx]
          refine wpl_nil (qone ⟨(by (refine st_again ?_ ?_; (· exact looked)); exact st_nil), ?_⟩)
          ((apply dw_pure; (· exact rfl); (· exact rfl); (· (intro G; exact looked))); (apply dw_pure; (· exact rfl); (· exact rfl); (· (intro G; exact looked))); (apply dw_pure; (· exact rfl); (· exact rfl); (· (intro G; exact looked))); (apply dw_pure; (· exact rfl); (· exact rfl); (· (intro G; exact looked))); (apply dw_pure; (· exact rfl); (· exact rfl); (· (intro G; exact looked))); (apply dw_pure; (· exact rfl); (· exact rfl); (· (intro G; exact looked))); (apply dw_pure; (· exact rfl); (· exact rfl); (· (intro G; exact looked))); (apply dw_pure; (· exact rfl); (· exact rfl); (· (intro G; exact looked))); (apply dw_pure; (· exact rfl); (· exact rfl); (· (intro G; (first | (refine step_wanted rfl rfl ?_; (apply s_indexAddr (j := s) (o' := oc + s); (· exact rfl); (· exact rfl); (· omega); (· omega); (· omega); (· exact rfl))) | (apply s_indexAddr (j := s) (o' := oc + s); (· exact rfl); (· exact rfl); (· omega); (· omega); (· omega); (· exact rfl)) | skip); exact looked))); (apply dw_look; (· exact rfl); (· exact rfl); (· (exact looked))); (apply dw_pure; (· exact rfl); (· exact rfl); (· (intro G; exact looked))); (apply dw_pure; (· exact rfl); (· exact rfl); (· (intro G; exact looked))); (apply dw_pure; (· exact rfl); (· exact rfl); (· (intro G; exact looked))); refine dw_nil ?_; skip)
          refine walk ?_
          refine ⟨s + 1, asided, agreed, ?_, by omega, by omega⟩
          rw [hW1]
          exact Ent.auto
        · have hl00 : l.length = 0 := by omega
          refine walk ?_
          (refine wp_draw [2] (.look 0 (.look 1 (.look 3 (.look 4 (.look 5 (.look 6 (.act 2 (.look 7 (.look 8 (.look 9 (.look 10 (.look 11 (.look 12 (.look 13 (.look 14 (.look 15 (.look 16 (.look 17 (.look 18 (.look 19 .nil))))))))))))) .stop))))))) (by kernel_rfl) ?_; (apply dw_pure; (· exact rfl); (· exact rfl); (· (intro G; exact looked))); (apply dw_pure; (· exact rfl); (· exact rfl); (· (intro G; exact looked))); (apply dw_pure; (· exact rfl); (· exact rfl); (· (intro G; exact looked))); (apply dw_pure; (· exact rfl); (· exact rfl); (· (intro G; exact looked))); (apply dw_pure; (· exact rfl); (· exact rfl); (· (intro G; (first | (refine step_wanted rfl rfl ?_; (apply s_indexAddr (j := s) (o' := oc + s); (· exact rfl); (· exact rfl); (· omega); (· omega); (· omega); (· exact rfl))) | (apply s_indexAddr (j := s) (o' := oc + s); (· exact rfl); (· exact rfl); (· omega); (· omega); (· omega); (· exact rfl)) | skip); exact looked))); (apply dw_look; (· exact rfl); (· exact rfl); (· (exact looked))); skip)
          refine dw_do rfl rfl ?_ dw_stop
          refine s_call rfl (iCountX (x := x) (L := L) (s := ((s : Nat) : Int))) rfl ?_
          rintro _ _ ⟨e_, rfl⟩
          obtain rfl := e_.symm
          rw [hcx]
          refine wpl_nil (qone ⟨(by (refine st_again ?_ ?_; (· exact looked)); exact st_nil), ?_⟩)
          ((apply dw_pure; (· exact rfl); (· exact rfl); (· (intro G; exact looked))); (apply dw_pure; (· exact rfl); (· exact rfl); (· (intro G; exact looked))); (apply dw_pure; (· exact rfl); (· exact rfl); (· (intro G; exact looked))); (apply dw_pure; (· exact rfl); (· exact rfl); (· (intro G; exact looked))); (apply dw_pure; (· exact rfl); (· exact rfl); (· (intro G; exact looked))); (apply dw_pure; (· exact rfl); (· exact rfl); (· (intro G; exact looked))); (apply dw_pure; (· exact rfl); (· exact rfl); (· (intro G; exact looked))); (apply dw_pure; (· exact rfl); (· exact rfl); (· (intro G; exact looked))); (apply dw_pure; (· exact rfl); (· exact rfl); (· (intro G; (first | (refine step_wanted rfl rfl ?_; (apply s_indexAddr (j := s) (o' := oc + s); (· exact rfl); (· exact rfl); (· omega); (· omega); (· omega); (· exact rfl))) | (apply s_indexAddr (j := s) (o' := oc + s); (· exact rfl); (· exact rfl); (· omega); (· omega); (· omega); (· exact rfl)) | skip); exact looked))); (apply dw_look; (· exact rfl); (· exact rfl); (· (exact looked))); (apply dw_pure; (· exact rfl); (· exact rfl); (· (intro G; exact looked))); (apply dw_pure; (· exact rfl); (· exact rfl); (· (intro G; exact looked))); (apply dw_pure; (· exact rfl); (· exact rfl); (· (intro G; exact looked))); refine dw_nil ?_; skip)
          refine walk ?_
          refine ⟨s + 1, asided, agreed, ?_, by omega, by omega⟩
          rw [hW1]
          exact Ent.auto
    · have hs44 : s = 4 := by omega
      have hsl := ok.sl
      have hWa : L.I.sem.take s = L.I.sem := List.take_of_length_le (by omega)
      rw [hWa]
      refine walk ?_
      refine wp_loopF (α := Nat) [6, 18, 210, 211, 212, 213, 214, 215, 216, 217, 218, 219, 220, 221, 222, 223, 224, 225, 226, 227, 228, 229, 230, 231, 232, 233, 234, 235, 236, 237, 238] (fun p => [(18, .int .i64 p)]) (fun p => blk b10 (zs (tal qP n L.I.ms)) 3 + (blk b7 (zs (tal qR g L.I.ms)) 3 + (blk b8 (zs (tal qC g L.I.ms)) 3 + (blk b9 (zs (tal qW g (allW L.I.sem))) 3 + (blk b4 (cv L.I.c) 23 + (IdeAt x L + F)))))) (fun p => p ≤ n) (fun p => n - p) 0 agreed (Ent.refl _) (Nat.zero_le _) ?_
      intro p f5 hp
      simp only [putAll]
      by_cases hlt4 : p < n
      · obtain ⟨v, hv⟩ : ∃ v, L.I.ps[p]? = some v := ⟨_, List.getElem?_eq_getElem (by omega)⟩
        have cP := tal_cell (B := B) (q := qP) (l := L.I.ms) (b := b10) hlt4
        have hPv : (if 0 ≤ ((p : Nat) : Int) ∧ ((p : Nat) : Int) < L.I.ps.length then L.I.pAt ((p : Nat) : Int) else -3) = v := by
          rw [if_pos (by omega)]
          unfold Ide.pAt
          rw [Int.toNat_natCast, hv]; rfl
        rcases h.pp.count hv with ⟨hc0, e | e⟩ | ⟨hc1, hv0⟩
        · skip
          refine walk ?_
          (refine wp_draw [13, 18] (.look 0 (.look 1 (.look 2 (.look 3 (.look 4 (.look 5 (.look 6 (.look 7 (.look 8 (.look 9 (.look 10 (.look 11 (.look 12 (.act 13 (.look 14 (.look 15 (.look 16 (.look 17 (.act 18 (.look 19 (.look 20 (.look 21 (.look 22 .nil)))) .stop))))) .stop)))))))))))))) (by kernel_rfl) ?_; (apply dw_pure; (· exact rfl); (· exact rfl); (· (intro G; exact looked))); (apply dw_pure; (· exact rfl); (· exact rfl); (· (intro G; exact looked))); (apply dw_pure; (· exact rfl); (· exact rfl); (· (intro G; (first | (refine step_wanted rfl rfl ?_; (apply s_indexAddr (j := p) (o' := p); (· exact rfl); (· exact rfl); (· omega); (· omega); (· omega); (· exact rfl))) | (apply s_indexAddr (j := p) (o' := p); (· exact rfl); (· exact rfl); (· omega); (· omega); (· omega); (· exact rfl)) | skip); exact looked))); (apply dw_look; (· exact rfl); (· exact rfl); (· (exact looked))); (apply dw_pure; (· exact rfl); (· exact rfl); (· (intro G; exact looked))); (apply dw_pure; (· exact rfl); (· exact rfl); (· (intro G; exact looked))); (apply dw_pure; (· exact rfl); (· exact rfl); (· (intro G; exact looked))); (apply dw_pure; (· exact rfl); (· exact rfl); (· (intro G; exact looked))); (apply dw_pure; (· exact rfl); (· exact rfl); (· (intro G; (first | (refine step_wanted rfl rfl ?_; (apply s_indexAddr (j := p) (o' := p); (· exact rfl); (· exact rfl); (· omega); (· omega); (· omega); (· exact rfl))) | (apply s_indexAddr (j := p) (o' := p); (· exact rfl); (· exact rfl); (· omega); (· omega); (· omega); (· exact rfl)) | skip); exact looked))); (apply dw_look; (· exact rfl); (· exact rfl); (· (exact looked))); (apply dw_pure; (· exact rfl); (· exact rfl); (· (intro G; exact looked))); (apply dw_pure; (· exact rfl); (· exact rfl); (· (intro G; exact looked))); (apply dw_pure; (· exact rfl); (· exact rfl); (· (intro G; exact looked))); skip)
          refine dw_do rfl rfl ?_ dw_stop
          refine step_wanted rfl rfl ?_
          refine s_call rfl (iP (x := x) (L := L) (p := ((p : Nat) : Int))) rfl ?_
          rintro _ _ ⟨e_, rfl⟩
          obtain rfl := e_.symm
          rw [hPv]
          refine wpl_nil (qone ⟨(by (refine st_again ?_ ?_; (· exact looked)); refine st_past (by kernel_rfl) ?_; exact st_nil), ?_⟩)
          ((apply dw_pure; (· exact rfl); (· exact rfl); (· (intro G; exact looked))); (apply dw_pure; (· exact rfl); (· exact rfl); (· (intro G; exact looked))); (apply dw_pure; (· exact rfl); (· exact rfl); (· (intro G; exact looked))); (apply dw_pure; (· exact rfl); (· exact rfl); (· (intro G; exact looked))); skip)
          refine dw_do rfl rfl ?_ dw_stop
          (first | refine step_unwanted rfl rfl rfl rfl ?_ | refine step_unwantedU rfl rfl rfl ?_ | refine step_unwanted0 rfl rfl rfl ?_ | refine step_unwantedU0 rfl rfl ?_)
          refine wpl_nil (qone ⟨(by (refine st_again ?_ ?_; (· exact looked)); refine st_past (by kernel_rfl) ?_; exact st_nil), ?_⟩)
          ((apply dw_pure; (· exact rfl); (· exact rfl); (· (intro G; exact looked))); (apply dw_pure; (· exact rfl); (· exact rfl); (· (intro G; exact looked))); (apply dw_pure; (· exact rfl); (· exact rfl); (· (intro G; exact looked))); (apply dw_pure; (· exact rfl); (· exact rfl); (· (intro G; exact looked))); refine dw_nil ?_; skip)
          refine walk ?_
          exact ⟨p + 1, asided, agreed, Ent.auto, by omega, by omega⟩
        · skip
          refine walk ?_
          (refine wp_draw [13, 18] (.look 0 (.look 1 (.look 2 (.look 3 (.look 4 (.look 5 (.look 6 (.look 7 (.look 8 (.look 9 (.look 10 (.look 11 (.look 12 (.act 13 (.look 14 (.look 15 (.look 16 (.look 17 (.act 18 (.look 19 (.look 20 (.look 21 (.look 22 .nil)))) .stop))))) .stop)))))))))))))) (by kernel_rfl) ?_; (apply dw_pure; (· exact rfl); (· exact rfl); (· (intro G; exact looked))); (apply dw_pure; (· exact rfl); (· exact rfl); (· (intro G; exact looked))); (apply dw_pure; (· exact rfl); (· exact rfl); (· (intro G; (first | (refine step_wanted rfl rfl ?_; (apply s_indexAddr (j := p) (o' := p); (· exact rfl); (· exact rfl); (· omega); (· omega); (· omega); (· exact rfl))) | (apply s_indexAddr (j := p) (o' := p); (· exact rfl); (· exact rfl); (· omega); (· omega); (· omega); (· exact rfl)) | skip); exact looked))); (apply dw_look; (· exact rfl); (· exact rfl); (· (exact looked))); (apply dw_pure; (· exact rfl); (· exact rfl); (· (intro G; exact looked))); (apply dw_pure; (· exact rfl); (· exact rfl); (· (intro G; exact looked))); (apply dw_pure; (· exact rfl); (· exact rfl); (· (intro G; exact looked))); (apply dw_pure; (· exact rfl); (· exact rfl); (· (intro G; exact looked))); (apply dw_pure; (· exact rfl); (· exact rfl); (· (intro G; (first | (refine step_wanted rfl rfl ?_; (apply s_indexAddr (j := p) (o' := p); (· exact rfl); (· exact rfl); (· omega); (· omega); (· omega); (· exact rfl))) | (apply s_indexAddr (j := p) (o' := p); (· exact rfl); (· exact rfl); (· omega); (· omega); (· omega); (· exact rfl)) | skip); exact looked))); (apply dw_look; (· exact rfl); (· exact rfl); (· (exact looked))); (apply dw_pure; (· exact rfl); (· exact rfl); (· (intro G; exact looked))); (apply dw_pure; (· exact rfl); (· exact rfl); (· (intro G; exact looked))); (apply dw_pure; (· exact rfl); (· exact rfl); (· (intro G; exact looked))); skip)
          refine dw_do rfl rfl ?_ dw_stop
          refine step_wanted rfl rfl ?_
          refine s_call rfl (iP (x := x) (L := L) (p := ((p : Nat) : Int))) rfl ?_
          rintro _ _ ⟨e_, rfl⟩
          obtain rfl := e_.symm
          rw [hPv]
          refine wpl_nil (qone ⟨(by (refine st_again ?_ ?_; (· exact looked)); refine st_past (by kernel_rfl) ?_; exact st_nil), ?_⟩)
          ((apply dw_pure; (· exact rfl); (· exact rfl); (· (intro G; exact looked))); (apply dw_pure; (· exact rfl); (· exact rfl); (· (intro G; exact looked))); (apply dw_pure; (· exact rfl); (· exact rfl); (· (intro G; exact looked))); (apply dw_pure; (· exact rfl); (· exact rfl); (· (intro G; exact looked))); skip)
          refine dw_do rfl rfl ?_ dw_stop
          refine step_wanted rfl rfl ?_
          refine s_call rfl (iP (x := x) (L := L) (p := ((p : Nat) : Int))) rfl ?_
          rintro _ _ ⟨e_, rfl⟩
          obtain rfl := e_.symm
          rw [hPv]
          refine wpl_nil (qone ⟨(by (refine st_again ?_ ?_; (· exact looked)); refine st_past (by kernel_rfl) ?_; exact st_nil), ?_⟩)
          ((apply dw_pure; (· exact rfl); (· exact rfl); (· (intro G; exact looked))); (apply dw_pure; (· exact rfl); (· exact rfl); (· (intro G; exact looked))); (apply dw_pure; (· exact rfl); (· exact rfl); (· (intro G; exact looked))); (apply dw_pure; (· exact rfl); (· exact rfl); (· (intro G; exact looked))); refine dw_nil ?_; skip)
          refine walk ?_
          exact ⟨p + 1, asided, agreed, Ent.auto, by omega, by omega⟩
        · skip
          refine walk ?_
          (refine wp_draw [13, 18] (.look 0 (.look 1 (.look 2 (.look 3 (.look 4 (.look 5 (.look 6 (.look 7 (.look 8 (.look 9 (.look 10 (.look 11 (.look 12 (.act 13 (.look 14 (.look 15 (.look 16 (.look 17 (.act 18 (.look 19 (.look 20 (.look 21 (.look 22 .nil)))) .stop))))) .stop)))))))))))))) (by kernel_rfl) ?_; (apply dw_pure; (· exact rfl); (· exact rfl); (· (intro G; exact looked))); (apply dw_pure; (· exact rfl); (· exact rfl); (· (intro G; exact looked))); (apply dw_pure; (· exact rfl); (· exact rfl); (· (intro G; (first | (refine step_wanted rfl rfl ?_; (apply s_indexAddr (j := p) (o' := p); (· exact rfl); (· exact rfl); (· omega); (· omega); (· omega); (· exact rfl))) | (apply s_indexAddr (j := p) (o' := p); (· exact rfl); (· exact rfl); (· omega); (· omega); (· omega); (· exact rfl)) | skip); exact looked))); (apply dw_look; (· exact rfl); (· exact rfl); (· (exact looked))); (apply dw_pure; (· exact rfl); (· exact rfl); (· (intro G; exact looked))); (apply dw_pure; (· exact rfl); (· exact rfl); (· (intro G; exact looked))); (apply dw_pure; (· exact rfl); (· exact rfl); (· (intro G; exact looked))); (apply dw_pure; (· exact rfl); (· exact rfl); (· (intro G; exact looked))); (apply dw_pure; (· exact rfl); (· exact rfl); (· (intro G; (first | (refine step_wanted rfl rfl ?_; (apply s_indexAddr (j := p) (o' := p); (· exact rfl); (· exact rfl); (· omega); (· omega); (· omega); (· exact rfl))) | (apply s_indexAddr (j := p) (o' := p); (· exact rfl); (· exact rfl); (· omega); (· omega); (· omega); (· exact rfl)) | skip); exact looked))); (apply dw_look; (· exact rfl); (· exact rfl); (· (exact looked))); (apply dw_pure; (· exact rfl); (· exact rfl); (· (intro G; exact looked))); (apply dw_pure; (· exact rfl); (· exact rfl); (· (intro G; exact looked))); (apply dw_pure; (· exact rfl); (· exact rfl); (· (intro G; exact looked))); skip)
          refine dw_do rfl rfl ?_ dw_stop
          refine step_wanted rfl rfl ?_
          refine s_call rfl (iP (x := x) (L := L) (p := ((p : Nat) : Int))) rfl ?_
          rintro _ _ ⟨e_, rfl⟩
          obtain rfl := e_.symm
          rw [hPv]
          refine wpl_nil (qone ⟨(by (refine st_again ?_ ?_; (· exact looked)); refine st_past (by kernel_rfl) ?_; exact st_nil), ?_⟩)
          ((apply dw_pure; (· exact rfl); (· exact rfl); (· (intro G; exact looked))); (apply dw_pure; (· exact rfl); (· exact rfl); (· (intro G; exact looked))); (apply dw_pure; (· exact rfl); (· exact rfl); (· (intro G; exact looked))); (apply dw_pure; (· exact rfl); (· exact rfl); (· (intro G; exact looked))); skip)
          refine dw_do rfl rfl ?_ dw_stop
          refine step_wanted rfl rfl ?_
          refine s_call rfl (iP (x := x) (L := L) (p := ((p : Nat) : Int))) rfl ?_
          rintro _ _ ⟨e_, rfl⟩
          obtain rfl := e_.symm
          rw [hPv]
          refine wpl_nil (qone ⟨(by (refine st_again ?_ ?_; (· exact looked)); refine st_past (by kernel_rfl) ?_; exact st_nil), ?_⟩)
          ((apply dw_pure; (· exact rfl); (· exact rfl); (· (intro G; exact looked))); (apply dw_pure; (· exact rfl); (· exact rfl); (· (intro G; exact looked))); (apply dw_pure; (· exact rfl); (· exact rfl); (· (intro G; exact looked))); (apply dw_pure; (· exact rfl); (· exact rfl); (· (intro G; exact looked))); refine dw_nil ?_; skip)
          refine walk ?_
          exact ⟨p + 1, asided, agreed, Ent.auto, by omega, by omega⟩
      · refine walk ?_
        refine wp_loopF (α := Nat) [6, 19, 20, 21, 239, 240, 241, 242, 243, 244, 245, 246, 247, 248, 249, 250, 251, 252, 253, 254, 255, 256, 257, 258, 259, 260, 261, 262, 263, 264, 265, 266, 267, 268, 269, 270, 271, 272, 273, 274, 275] (fun q => [(19, .int .i64 q)]) (fun q => blk b10 (zs (tal qP n L.I.ms)) 3 + (blk b7 (zs (tal qR g L.I.ms)) 3 + (blk b8 (zs (tal qC g L.I.ms)) 3 + (blk b9 (zs (tal qW g (allW L.I.sem))) 3 + (blk b4 (cv L.I.c) 23 + (IdeAt x L + F)))))) (fun q => q ≤ g) (fun q => g - q) 0 agreed (Ent.refl _) (Nat.zero_le _) ?_
        intro q f6 hq
        simp only [putAll]
        by_cases hlt5 : q < g
        · have cR := tal_cell (B := B) (q := qR) (l := L.I.ms) (b := b7) hlt5
          have cC := tal_cell (B := B) (q := qC) (l := L.I.ms) (b := b8) hlt5
          have cW := tal_cell (B := B) (q := qW) (l := allW L.I.sem) (b := b9) hlt5
          rw [allW_count] at cW
          obtain ⟨d1, d2, d3⟩ := h.st ((q : Nat) : Int) (by omega) (by omega)
          have d1' : L.I.ms.countP (fun z => qR z q) = if L.I.stat ((q : Nat) : Int) = 2 then 1 else 0 := d1
          have d2' : L.I.ms.countP (fun z => qC z q) = if L.I.stat ((q : Nat) : Int) = 4 then 1 else 0 := d2
          obtain ⟨r2, hr2⟩ : ∃ r : Int, (if L.I.stat ((q : Nat) : Int) = 2 then (1 : Int) else 0) = r := ⟨_, rfl⟩
          obtain ⟨r4, hr4⟩ : ∃ r : Int, (if L.I.stat ((q : Nat) : Int) = 4 then (1 : Int) else 0) = r := ⟨_, rfl⟩
          obtain ⟨r3, hr3⟩ : ∃ r : Int, (if L.I.stat ((q : Nat) : Int) = 3 then (1 : Int) else 0) = r := ⟨_, rfl⟩
          have n2 : ((L.I.ms.countP (fun z => qR z q) : Nat) : Int) = r2 := by rw [d1', ← hr2]; split <;> rfl
          have n4 : ((L.I.ms.countP (fun z => qC z q) : Nat) : Int) = r4 := by rw [d2', ← hr4]; split <;> rfl
          have n3 : ((nWaits L.I.sem ((q : Nat) : Int) : Nat) : Int) = r3 := by rw [d3, ← hr3]; split <;> rfl
          refine walk ?_
          refine s_call rfl (iStatus (x := x) (L := L) (g := ((q : Nat) : Int))) rfl ?_
          rintro _ _ ⟨e_, rfl⟩
          obtain rfl := e_.symm
          refine walk ?_
          (refine wp_draw [1, 9, 18] (.look 0 (.look 2 (.look 3 (.look 4 (.look 5 (.act 1 (.look 6 (.look 7 (.look 8 (.look 10 (.look 11 (.look 12 (.look 13 (.act 9 (.look 14 (.look 15 (.look 16 (.look 17 (.look 19 (.look 20 (.look 21 (.look 22 (.act 18 (.look 23 (.look 24 .nil)) .stop))))))))) .stop)))))))) .stop)))))) (by kernel_rfl) ?_; (apply dw_pure; (· exact rfl); (· exact rfl); (· (intro G; exact looked))); (apply dw_pure; (· exact rfl); (· exact rfl); (· (intro G; exact looked))); (apply dw_pure; (· exact rfl); (· exact rfl); (· (intro G; exact looked))); (apply dw_pure; (· exact rfl); (· exact rfl); (· (intro G; (first | (refine step_wanted rfl rfl ?_; (apply s_indexAddr (j := q) (o' := q); (· exact rfl); (· exact rfl); (· omega); (· omega); (· omega); (· exact rfl))) | (apply s_indexAddr (j := q) (o' := q); (· exact rfl); (· exact rfl); (· omega); (· omega); (· omega); (· exact rfl)) | skip); exact looked))); (apply dw_look; (· exact rfl); (· exact rfl); (· (exact looked))); skip)
          refine dw_do rfl rfl ?_ dw_stop
          refine s_call rfl (is_spec (s := L.I.stat ((q : Nat) : Int)) (w := 2)) rfl ?_
          rintro _ _ ⟨e_, rfl⟩
          obtain rfl := e_.symm
          rw [hr2]
          refine wpl_nil (qone ⟨(by (refine st_again ?_ ?_; (· exact looked)); exact st_nil), ?_⟩)
          ((apply dw_pure; (· exact rfl); (· exact rfl); (· (intro G; exact looked))); (apply dw_pure; (· exact rfl); (· exact rfl); (· (intro G; exact looked))); (apply dw_pure; (· exact rfl); (· exact rfl); (· (intro G; exact looked))); (apply dw_pure; (· exact rfl); (· exact rfl); (· (intro G; exact looked))); (apply dw_pure; (· exact rfl); (· exact rfl); (· (intro G; exact looked))); (apply dw_pure; (· exact rfl); (· exact rfl); (· (intro G; (first | (refine step_wanted rfl rfl ?_; (apply s_indexAddr (j := q) (o' := q); (· exact rfl); (· exact rfl); (· omega); (· omega); (· omega); (· exact rfl))) | (apply s_indexAddr (j := q) (o' := q); (· exact rfl); (· exact rfl); (· omega); (· omega); (· omega); (· exact rfl)) | skip); exact looked))); (apply dw_look; (· exact rfl); (· exact rfl); (· (exact looked))); skip)
          refine dw_do rfl rfl ?_ dw_stop
          refine step_wanted rfl rfl ?_
          refine s_call rfl (is_spec (s := L.I.stat ((q : Nat) : Int)) (w := 4)) rfl ?_
          rintro _ _ ⟨e_, rfl⟩
          obtain rfl := e_.symm
          rw [hr4]
          refine wpl_nil (qone ⟨(by (refine st_again ?_ ?_; (· exact looked)); refine st_past (by kernel_rfl) ?_; exact st_nil), ?_⟩)
          ((apply dw_pure; (· exact rfl); (· exact rfl); (· (intro G; exact looked))); (apply dw_pure; (· exact rfl); (· exact rfl); (· (intro G; exact looked))); (apply dw_pure; (· exact rfl); (· exact rfl); (· (intro G; exact looked))); (apply dw_pure; (· exact rfl); (· exact rfl); (· (intro G; exact looked))); (apply dw_pure; (· exact rfl); (· exact rfl); (· (intro G; exact looked))); (apply dw_pure; (· exact rfl); (· exact rfl); (· (intro G; exact looked))); (apply dw_pure; (· exact rfl); (· exact rfl); (· (intro G; (first | (refine step_wanted rfl rfl ?_; (apply s_indexAddr (j := q) (o' := q); (· exact rfl); (· exact rfl); (· omega); (· omega); (· omega); (· exact rfl))) | (apply s_indexAddr (j := q) (o' := q); (· exact rfl); (· exact rfl); (· omega); (· omega); (· omega); (· exact rfl)) | skip); exact looked))); (apply dw_look; (· exact rfl); (· exact rfl); (· (exact looked))); skip)
          refine dw_do rfl rfl ?_ dw_stop
          refine step_wanted rfl rfl ?_
          refine s_call rfl (is_spec (s := L.I.stat ((q : Nat) : Int)) (w := 3)) rfl ?_
          rintro _ _ ⟨e_, rfl⟩
          obtain rfl := e_.symm
          rw [hr3]
          refine wpl_nil (qone ⟨(by (refine st_again ?_ ?_; (· exact looked)); refine st_past (by kernel_rfl) ?_; refine st_past (by kernel_rfl) ?_; exact st_nil), ?_⟩)
          ((apply dw_pure; (· exact rfl); (· exact rfl); (· (intro G; exact looked))); (apply dw_pure; (· exact rfl); (· exact rfl); (· (intro G; exact looked))); refine dw_nil ?_; skip)
          refine walk ?_
          exact ⟨q + 1, asided, agreed, Ent.auto, by omega, by omega⟩
        · have hca := h.ca
          have hcm : L.I.ms.length ≤ 16 := by omega
          have hce : L.I.callers = L.I.ms.countP (fun m => decide (m.a = 3)) := rfl
          rw [hce] at hca
          refine walk ?_
          refine s_call rfl (iCallers (x := x) (L := L) hcm) rfl ?_
          rintro _ _ ⟨e_, rfl⟩
          obtain rfl := e_.symm
          rw [hce]
          refine walk ?_
          (first | (apply retRD1 (G := (IdeAt x L + F)) (.inr rfl) rfl; (· first | (refine rv_tmp (v := .bool _) rfl) | exact rv_tmp rfl); (· exact Ent.auto)) | (apply retRD1 (G := (IdeAt x L + F)) (.inl rfl) rfl; (· first | (refine rv_tmp (v := .bool _) rfl) | exact rv_tmp rfl); (· exact Ent.auto)))
          exact ⟨Ent.refl _, rfl⟩
end
end Go.Proofs.Ytlhnmbajbhaaoaa
