/- A system is held against what it should keep. Systems: the chapter's example; one that is not there. The law on what a system keeps. Two systems that differ in where calls began, where nobody calls. Notes that are taken, by both. The reference's table: a value of three rows. The reference's table: making, setting. The reference's table: setting. The reference's table: a new one; who has a status. The reference's table: contracts. No condition. -/
import Derived.Test.YtlhnmbajbhaaoaaGreatSL2
import Derived.Test.YtlhnmbajbhaaoaaGreatB6
import Derived.Test.YtlhnmbajbhaaoaaGreatSL3
import Derived.Test.YtlhnmbajbhaaoaaGreatB1
namespace Go.Proofs.YtlhnmbajbhaaoaaGreat
open Go Go.SL
set_option linter.unusedSimpArgs false
set_option linter.unusedVariables false
set_option maxRecDepth 10000
set_option maxHeartbeats 8000000
attribute [local irreducible] WP WPL QSeq QBlk QRet Does Cell Cells Rd Mine Ent Aside RV Yield TabAt SemAt IdeAt tal
section
variable {B : World} {H F G : HProp} {x : Nat} {L : IdL} {cnt : List Int} {sc : Value} {K s w : Int}
theorem is_spec : Does Tryz.prog B 111 [.int .i64 s, .int .i64 w] H fun r H' => H' = H ∧ r = .int .i64 (if s = w then 1 else 0) := by
  by_cases h : s = w
  · rw [if_pos h]
    refine fn_intro 8 Tryz.func111 rfl rfl rfl ?_
    refine walk ?_
    (first | refine ret1 (v := .int _ _) (.inr rfl) rfl rfl ?_ | refine ret1  (.inr rfl) rfl rfl ?_ | refine ret1 (v := .int _ _) (.inl rfl) rfl rfl ?_ | refine ret1  (.inl rfl) rfl rfl ?_)
    exact ⟨rfl, rfl⟩
  · rw [if_neg h]
    refine fn_intro 8 Tryz.func111 rfl rfl rfl ?_
    refine walk ?_
    (first | refine ret1 (v := .int _ _) (.inr rfl) rfl rfl ?_ | refine ret1  (.inr rfl) rfl rfl ?_ | refine ret1 (v := .int _ _) (.inl rfl) rfl rfl ?_ | refine ret1  (.inl rfl) rfl rfl ?_)
    exact ⟨rfl, rfl⟩
theorem tal_cell {α : Type} {q : α → Nat → Bool} {N : Nat} {l : List α} {b i : Nat} (h : i < N) : Cell B (blk b (zs (tal q N l)) 3) b i (.int .i64 (l.countP (fun x => q x i) : Int)) := by
  rw [← HProp.add_emp (blk b (zs (tal q N l)) 3)]
  exact Cell.blk (by rw [show zs (tal q N l) = (tal q N l).map (.int .i64) from rfl, List.getElem?_map, tal_get h]; rfl)
theorem tal_set {α : Type} {q : α → Nat → Bool} {N : Nat} {l : List α} {y : α} {i : Nat} (hi : i < N) (hq : ∀ j, j < N → q y j = decide (j = i)) : (zs (tal q N l)).set i (.int .i64 ((l.countP (fun x => q x i) : Int) + 1)) = zs (tal q N (l ++ [y])) := by
  rw [← tal_key hi hq]
  simp [zs, List.map_set]
theorem keeps_spec [i : HasAt IdeAt H x L F] (ok : L.I.ok K) (hK : K ≤ 90000) (h : Inv L.I cnt) (hs : Rd B F 1 sc 4 (zs cnt)) : Does Tryz.prog B 60 [ptr x, cfgV L.I.c, sc] H fun r H' => H' = H ∧ r = .bool true := by
  have hc := ok.c
  obtain ⟨_, c1, c2, c3, c4, c5, c6, _, _, c9, c10⟩ := hc
  have hml := ok.ml
  have hpl := ok.pl
  have htl := ok.tl
  have hlk : LOk L.I.sem := rowS_all ok.sk (by omega)
  obtain ⟨g, hg⟩ := Int.eq_ofNat_of_zero_le (show 0 ≤ L.I.c.g by omega)
  obtain ⟨n, hn⟩ := Int.eq_ofNat_of_zero_le (show 0 ≤ L.I.c.n by omega)
  rw [i.eq]
  refine Does.frame0 ?_
  refine fn_intro 289 Tryz.func60 rfl rfl rfl ?_
  refine walk ?_
  refine s_box (cs := cv L.I.c) rfl rfl rfl ?_
  intro b4
  refine walk ?_
  refine wp_cut_here (α := Nat × Nat × Nat) [7, 8, 9, 22, 23, 24, 25, 26, 27, 28, 29, 30] (fun z => [(7, .slice (some ⟨z.1, 0, none⟩) g g), (8, .slice (some ⟨z.2.1, 0, none⟩) g g), (9, .slice (some ⟨z.2.2, 0, none⟩) g g)])
    (fun z => blk z.1 (zs (List.replicate g 0)) 3 + (blk z.2.1 (zs (List.replicate g 0)) 3 + (blk z.2.2 (zs (List.replicate g 0)) 3 + (blk b4 (cv L.I.c) 23 + (IdeAt x L + F))))) (fun _ => True) ?_ ?_
  · skip
    (refine wp_draw [2, 5, 8] (.look 0 (.look 1 (.look 3 (.look 4 (.look 6 (.look 7 (.act 2 (.look 9 (.act 5 (.look 10 (.act 8 (.look 11 .nil) .stop)) (.act 8 (.act 5 (.look 10 (.look 11 .nil)) .stop) .stop))) (.act 5 (.act 2 (.look 9 (.look 10 (.act 8 (.look 11 .nil) .stop))) (.act 8 (.act 2 (.look 9 (.look 10 (.look 11 .nil))) .stop) .stop)) (.act 8 (.act 2 (.look 9 (.act 5 (.look 10 (.look 11 .nil)) .stop)) (.act 5 (.act 2 (.look 9 (.look 10 (.look 11 .nil))) .stop) .stop)) .stop))))))))) (by kernel_rfl) ?_; refine dwP ?_; refine dwL ?_; refine dwP ?_; refine dwL ?_; refine dwP ?_; refine dwL ?_; skip)
    refine dw_do rfl rfl ?_ (dw_do rfl rfl ?_ (dw_do rfl rfl ?_ dw_stop))
    · skip
      refine s_makeSlice (k := g) (c := g) (by rw [← hg]; rfl) (by rw [← hg]; rfl) (Nat.le_refl _) ?_ rfl ?_
      · simp only [maxLen]; omega
      intro b7
      rw [zeros_zs]
      refine wpl_nil (qone ⟨(by (refine st_again ?_ ?_; (· exact looked)); (refine st_again ?_ ?_; (· exact looked)); refine st_past (by kernel_rfl) ?_; exact st_nil), ?_⟩)
      (refine dwP ?_; skip)
      refine dw_do rfl rfl ?_ (dw_do rfl rfl ?_ dw_stop)
      · skip
        refine s_makeSlice (k := g) (c := g) (by rw [← hg]; rfl) (by rw [← hg]; rfl) (Nat.le_refl _) ?_ rfl ?_
        · simp only [maxLen]; omega
        intro b8
        rw [zeros_zs]
        refine wpl_nil (qone ⟨(by (refine st_again ?_ ?_; (· exact looked)); refine st_past (by kernel_rfl) ?_; (refine st_again ?_ ?_; (· exact looked)); exact st_nil), ?_⟩)
        (refine dwP ?_; skip)
        refine dw_do rfl rfl ?_ dw_stop
        refine s_makeSlice (k := g) (c := g) (by rw [← hg]; rfl) (by rw [← hg]; rfl) (Nat.le_refl _) ?_ rfl ?_
        · simp only [maxLen]; omega
        intro b9
        rw [zeros_zs]
        refine wpl_nil (qone ⟨(by refine st_past (by kernel_rfl) ?_; (refine st_again ?_ ?_; (· exact looked)); (refine st_again ?_ ?_; (· exact looked)); exact st_nil), ?_⟩)
        (refine dwP ?_; refine dw_nil ?_; skip)
        refine walk ?_
        exact ⟨(b7, b8, b9), asided, agreed, Ent.auto, trivial⟩
      · skip
        refine s_makeSlice (k := g) (c := g) (by rw [← hg]; rfl) (by rw [← hg]; rfl) (Nat.le_refl _) ?_ rfl ?_
        · simp only [maxLen]; omega
        intro b9
        rw [zeros_zs]
        refine wpl_nil (qone ⟨(by refine st_past (by kernel_rfl) ?_; (refine st_again ?_ ?_; (· exact looked)); (refine st_again ?_ ?_; (· exact looked)); exact st_nil), ?_⟩)
        (skip)
        refine dw_do rfl rfl ?_ dw_stop
        refine s_makeSlice (k := g) (c := g) (by rw [← hg]; rfl) (by rw [← hg]; rfl) (Nat.le_refl _) ?_ rfl ?_
        · simp only [maxLen]; omega
        intro b8
        rw [zeros_zs]
        refine wpl_nil (qone ⟨(by (refine st_again ?_ ?_; (· exact looked)); refine st_past (by kernel_rfl) ?_; (refine st_again ?_ ?_; (· exact looked)); exact st_nil), ?_⟩)
        (refine dwP ?_; refine dwP ?_; refine dw_nil ?_; skip)
        refine walk ?_
        exact ⟨(b7, b8, b9), asided, agreed, Ent.auto, trivial⟩
    · skip
      refine s_makeSlice (k := g) (c := g) (by rw [← hg]; rfl) (by rw [← hg]; rfl) (Nat.le_refl _) ?_ rfl ?_
      · simp only [maxLen]; omega
      intro b8
      rw [zeros_zs]
      refine wpl_nil (qone ⟨(by (refine st_again ?_ ?_; (· exact looked)); refine st_past (by kernel_rfl) ?_; (refine st_again ?_ ?_; (· exact looked)); exact st_nil), ?_⟩)
      (skip)
      refine dw_do rfl rfl ?_ (dw_do rfl rfl ?_ dw_stop)
      · skip
        refine s_makeSlice (k := g) (c := g) (by rw [← hg]; rfl) (by rw [← hg]; rfl) (Nat.le_refl _) ?_ rfl ?_
        · simp only [maxLen]; omega
        intro b7
        rw [zeros_zs]
        refine wpl_nil (qone ⟨(by (refine st_again ?_ ?_; (· exact looked)); (refine st_again ?_ ?_; (· exact looked)); refine st_past (by kernel_rfl) ?_; exact st_nil), ?_⟩)
        (refine dwP ?_; refine dwP ?_; skip)
        refine dw_do rfl rfl ?_ dw_stop
        refine s_makeSlice (k := g) (c := g) (by rw [← hg]; rfl) (by rw [← hg]; rfl) (Nat.le_refl _) ?_ rfl ?_
        · simp only [maxLen]; omega
        intro b9
        rw [zeros_zs]
        refine wpl_nil (qone ⟨(by refine st_past (by kernel_rfl) ?_; (refine st_again ?_ ?_; (· exact looked)); (refine st_again ?_ ?_; (· exact looked)); exact st_nil), ?_⟩)
        (refine dwP ?_; refine dw_nil ?_; skip)
        refine walk ?_
        exact ⟨(b7, b8, b9), asided, agreed, Ent.auto, trivial⟩
      · skip
        refine s_makeSlice (k := g) (c := g) (by rw [← hg]; rfl) (by rw [← hg]; rfl) (Nat.le_refl _) ?_ rfl ?_
        · simp only [maxLen]; omega
        intro b9
        rw [zeros_zs]
        refine wpl_nil (qone ⟨(by refine st_past (by kernel_rfl) ?_; (refine st_again ?_ ?_; (· exact looked)); (refine st_again ?_ ?_; (· exact looked)); exact st_nil), ?_⟩)
        (skip)
        refine dw_do rfl rfl ?_ dw_stop
        refine s_makeSlice (k := g) (c := g) (by rw [← hg]; rfl) (by rw [← hg]; rfl) (Nat.le_refl _) ?_ rfl ?_
        · simp only [maxLen]; omega
        intro b7
        rw [zeros_zs]
        refine wpl_nil (qone ⟨(by (refine st_again ?_ ?_; (· exact looked)); (refine st_again ?_ ?_; (· exact looked)); refine st_past (by kernel_rfl) ?_; exact st_nil), ?_⟩)
        (refine dwP ?_; refine dwP ?_; refine dwP ?_; refine dw_nil ?_; skip)
        refine walk ?_
        exact ⟨(b7, b8, b9), asided, agreed, Ent.auto, trivial⟩
    · skip
      refine s_makeSlice (k := g) (c := g) (by rw [← hg]; rfl) (by rw [← hg]; rfl) (Nat.le_refl _) ?_ rfl ?_
      · simp only [maxLen]; omega
      intro b9
      rw [zeros_zs]
      refine wpl_nil (qone ⟨(by refine st_past (by kernel_rfl) ?_; (refine st_again ?_ ?_; (· exact looked)); (refine st_again ?_ ?_; (· exact looked)); exact st_nil), ?_⟩)
      (skip)
      refine dw_do rfl rfl ?_ (dw_do rfl rfl ?_ dw_stop)
      · skip
        refine s_makeSlice (k := g) (c := g) (by rw [← hg]; rfl) (by rw [← hg]; rfl) (Nat.le_refl _) ?_ rfl ?_
        · simp only [maxLen]; omega
        intro b7
        rw [zeros_zs]
        refine wpl_nil (qone ⟨(by (refine st_again ?_ ?_; (· exact looked)); (refine st_again ?_ ?_; (· exact looked)); refine st_past (by kernel_rfl) ?_; exact st_nil), ?_⟩)
        (refine dwP ?_; skip)
        refine dw_do rfl rfl ?_ dw_stop
        refine s_makeSlice (k := g) (c := g) (by rw [← hg]; rfl) (by rw [← hg]; rfl) (Nat.le_refl _) ?_ rfl ?_
        · simp only [maxLen]; omega
        intro b8
        rw [zeros_zs]
        refine wpl_nil (qone ⟨(by (refine st_again ?_ ?_; (· exact looked)); refine st_past (by kernel_rfl) ?_; (refine st_again ?_ ?_; (· exact looked)); exact st_nil), ?_⟩)
        (refine dwP ?_; refine dwP ?_; refine dw_nil ?_; skip)
        refine walk ?_
        exact ⟨(b7, b8, b9), asided, agreed, Ent.auto, trivial⟩
      · skip
        refine s_makeSlice (k := g) (c := g) (by rw [← hg]; rfl) (by rw [← hg]; rfl) (Nat.le_refl _) ?_ rfl ?_
        · simp only [maxLen]; omega
        intro b8
        rw [zeros_zs]
        refine wpl_nil (qone ⟨(by (refine st_again ?_ ?_; (· exact looked)); refine st_past (by kernel_rfl) ?_; (refine st_again ?_ ?_; (· exact looked)); exact st_nil), ?_⟩)
        (skip)
        refine dw_do rfl rfl ?_ dw_stop
        refine s_makeSlice (k := g) (c := g) (by rw [← hg]; rfl) (by rw [← hg]; rfl) (Nat.le_refl _) ?_ rfl ?_
        · simp only [maxLen]; omega
        intro b7
        rw [zeros_zs]
        refine wpl_nil (qone ⟨(by (refine st_again ?_ ?_; (· exact looked)); (refine st_again ?_ ?_; (· exact looked)); refine st_past (by kernel_rfl) ?_; exact st_nil), ?_⟩)
        (refine dwP ?_; refine dwP ?_; refine dwP ?_; refine dw_nil ?_; skip)
        refine walk ?_
        exact ⟨(b7, b8, b9), asided, agreed, Ent.auto, trivial⟩
  rintro ⟨b7, b8, b9⟩ f1 _
  simp only [putAll]
  refine walk ?_
  refine s_makeSlice (k := n) (c := n) (by rw [← hn]; rfl) (by rw [← hn]; rfl) (Nat.le_refl _) ?_ rfl ?_
  · simp only [maxLen]; omega
  intro b10
  rw [zeros_zs]
  refine walk ?_
  refine wp_loopF (α := Nat) [6, 11, 12, 13, 14, 34, 35, 36, 37, 38, 39, 40, 41, 42, 43, 44, 45, 46, 47, 48, 49, 50, 51, 52, 53, 54, 55, 56, 57, 58, 59, 60, 61, 62, 63, 64, 65, 66, 67, 68, 69, 70, 71, 72, 73, 74, 75, 76, 77, 78, 79, 80, 81, 82, 83, 84, 85, 86, 87, 88, 89, 90, 91, 92, 93, 94, 95, 96, 97, 98, 99, 100, 101, 102, 103, 104, 105, 106, 107, 108, 109, 110, 111, 112, 113, 114, 115, 116, 117, 118, 119, 120, 121, 122, 123, 124, 125, 126, 127, 128, 129, 130, 131, 132, 133, 134, 135, 136, 137, 138, 139, 140, 141, 142, 143, 144, 145, 146, 147, 148, 149, 150, 151, 152, 153] (fun k => [(12, .int .i64 k), (11, .int .i64 (((L.I.ms.take k).countP fun m => decide (m.a = 3) : Nat) : Int))]) (fun k => blk b10 (zs (tal qP n (L.I.ms.take (k)))) 3 + (blk b7 (zs (tal qR g (L.I.ms.take (k)))) 3 + (blk b8 (zs (tal qC g (L.I.ms.take (k)))) 3 + (blk b9 (zs (List.replicate g 0)) 3 + (blk b4 (cv L.I.c) 23 + (IdeAt x L + F)))))) (fun k => k ≤ L.I.ms.length) (fun k => L.I.ms.length - k) 0 agreed ?_ (Nat.zero_le _) ?_
  · simp only [List.take_zero, tal_nil]
    exact Ent.auto
  intro k f2 hk
  simp only [putAll]
  by_cases hlt : k < L.I.ms.length
  · obtain ⟨m, hm⟩ : ∃ m, L.I.ms[k] = m := ⟨_, rfl⟩
    have hmk : L.I.ms[k]? = some m := by rw [List.getElem?_eq_getElem hlt, hm]
    have htake : L.I.ms.take (k + 1) = L.I.ms.take k ++ [m] := by rw [List.take_succ_eq_append_getElem hlt, hm]
    obtain ⟨mi, mp⟩ := h.pp.mi k m hmk
    have hst : stC L.I ((k : Nat) : Int) = [.int .i64 m.a, .int .i64 m.p, .int .i64 m.g] := by
      unfold stC Ide.mAt
      rw [if_pos (by omega), Int.toNat_natCast, hmk]; rfl
    have hok : decide (0 ≤ ((k : Nat) : Int) ∧ ((k : Nat) : Int) < L.I.ms.length) = true := decide_eq_true (by omega)
    have ma := mi.a
    have mpb := mi.p
    have mgb := mi.g
    have cle := List.countP_le_length (p := fun m : Mc => decide (m.a = 3)) (l := L.I.ms.take k)
    rw [List.length_take] at cle
    have cle16 : (L.I.ms.take k).countP (fun m => decide (m.a = 3)) ≤ 16 := by omega
    have eA : (L.I.ms.take (k + 1)).countP (fun m => decide (m.a = 3)) = (L.I.ms.take k).countP (fun m => decide (m.a = 3)) + if m.a = 3 then 1 else 0 := by
      rw [htake, List.countP_append]
      simp [List.countP_cons]
    have hP : 0 ≤ m.p → ∃ pk : Nat, m.p = (pk : Int) ∧ pk < n ∧ (∀ j, j < n → qP m j = decide (j = pk)) ∧ (if 0 ≤ m.p ∧ m.p < L.I.ps.length then L.I.pAt m.p else -3) = (k : Int) := by
      intro h0
      refine ⟨m.p.toNat, by omega, by omega, fun j _ => decide_eq_decide.2 (by omega), ?_⟩
      rw [if_pos (by omega)]
      unfold Ide.pAt
      rw [mp h0]; rfl
    have hcP : ∀ pk, (L.I.ms.take k).countP (fun y => qP y pk) ≤ 16 := fun pk => by
      have := List.countP_le_length (p := fun y => qP y pk) (l := L.I.ms.take k)
      rw [List.length_take] at this
      omega
    have hcR : ∀ pk, (L.I.ms.take k).countP (fun y => qR y pk) ≤ 16 := fun pk => by
      have := List.countP_le_length (p := fun y => qR y pk) (l := L.I.ms.take k)
      rw [List.length_take] at this
      omega
    have hcC : ∀ pk, (L.I.ms.take k).countP (fun y => qC y pk) ≤ 16 := fun pk => by
      have := List.countP_le_length (p := fun y => qC y pk) (l := L.I.ms.take k)
      rw [List.length_take] at this
      omega
    have nP : m.p < 0 → tal qP n (L.I.ms.take (k + 1)) = tal qP n (L.I.ms.take k) := fun h0 => by rw [htake]; exact tal_none fun j _ => decide_eq_false (by omega)
    have nR : m.a ≠ 2 → tal qR g (L.I.ms.take (k + 1)) = tal qR g (L.I.ms.take k) := fun h0 => by rw [htake]; exact tal_none fun j _ => by simp [qR, h0]
    have nC : m.a ≠ 3 → tal qC g (L.I.ms.take (k + 1)) = tal qC g (L.I.ms.take k) := fun h0 => by rw [htake]; exact tal_none fun j _ => by simp [qC, h0]
    have mga := mi.ga
    rcases (show m.a = 0 ∨ m.a = 1 ∨ m.a = 2 ∨ m.a = 3 by omega) with a | a | a | a
    · have p0 := mi.rest a
      have g0 : m.g < 0 := by omega
      rw [if_neg (by omega)] at eA
      have e1 := nP p0
      have e2 := nR (by omega)
      have e3 := nC (by omega)
      refine walk ?_
      refine s_call rfl (iM (x := x) (L := L) (m := ((k : Nat) : Int))) rfl ?_
      rintro _ _ ⟨e_, rfl⟩
      obtain rfl := e_.symm
      rw [hst, hok]
      refine walk ?_
      refine s_alloc rfl ?_
      intro b13
      refine walk ?_
      refine s_storeV (vs := [.int .i64 m.a, .int .i64 m.p, .int .i64 m.g]) rfl rfl rfl rfl rfl ?_
      refine walk ?_
      refine ⟨k + 1, asided, agreed, ?_, by omega, by omega⟩
      rw [e1, e2, e3]
      exact Ent.auto
    · have p0 := mi.on (.inl a)
      have g0 : m.g < 0 := by omega
      rw [if_neg (by omega)] at eA
      have e2 := nR (by omega)
      have e3 := nC (by omega)
      obtain ⟨pk, hpk, hpn, qPk, hPk⟩ := hP p0
      have cP := tal_cell (B := B) (q := qP) (l := L.I.ms.take k) (b := b10) hpn
      have bP := hcP pk
      refine walk ?_
      refine s_call rfl (iM (x := x) (L := L) (m := ((k : Nat) : Int))) rfl ?_
      rintro _ _ ⟨e_, rfl⟩
      obtain rfl := e_.symm
      rw [hst, hok]
      refine walk ?_
      refine s_alloc rfl ?_
      intro b13
      refine walk ?_
      refine s_storeV (vs := [.int .i64 m.a, .int .i64 m.p, .int .i64 m.g]) rfl rfl rfl rfl rfl ?_
      refine walk ?_
      (apply s_indexAddr (j := pk) (o' := pk); (· exact rfl); (· exact rfl); (· omega); (· omega); (· omega); (· exact rfl))
      refine walk ?_
      (apply s_indexAddr (j := pk) (o' := pk); (· exact rfl); (· exact rfl); (· omega); (· omega); (· omega); (· exact rfl))
      refine s_store (v := .int .i64 ((((L.I.ms.take k).countP (fun y => qP y pk) : Nat) : Int) + 1)) (cs' := zs (tal qP n (L.I.ms.take (k + 1)))) rfl rfl rfl (by rw [zs_length, tal_len]; omega) (by rw [htake]; exact tal_set (by omega) qPk) ?_
      refine walk ?_
      refine s_call rfl (iP (x := x) (L := L) (p := m.p)) rfl ?_
      rintro _ _ ⟨e_, rfl⟩
      obtain rfl := e_.symm
      rw [hPk]
      refine walk ?_
      refine ⟨k + 1, asided, agreed, ?_, by omega, by omega⟩
      rw [e2, e3]
      exact Ent.auto
    · have p0 := mi.on (.inr a)
      have g0 : 0 ≤ m.g := by omega
      rw [if_neg (by omega)] at eA
      have e3 := nC (by omega)
      obtain ⟨pk, hpk, hpn, qPk, hPk⟩ := hP p0
      obtain ⟨gk, hgk⟩ := Int.eq_ofNat_of_zero_le g0
      have cP := tal_cell (B := B) (q := qP) (l := L.I.ms.take k) (b := b10) hpn
      have cR := tal_cell (B := B) (q := qR) (l := L.I.ms.take k) (b := b7) (N := g) (i := gk) (by omega)
      have bP := hcP pk
      have bR := hcR gk
      refine walk ?_
      refine s_call rfl (iM (x := x) (L := L) (m := ((k : Nat) : Int))) rfl ?_
      rintro _ _ ⟨e_, rfl⟩
      obtain rfl := e_.symm
      rw [hst, hok]
      refine walk ?_
      refine s_alloc rfl ?_
      intro b13
      refine walk ?_
      refine s_storeV (vs := [.int .i64 m.a, .int .i64 m.p, .int .i64 m.g]) rfl rfl rfl rfl rfl ?_
      refine walk ?_
      (apply s_indexAddr (j := pk) (o' := pk); (· exact rfl); (· exact rfl); (· omega); (· omega); (· omega); (· exact rfl))
      refine walk ?_
      (apply s_indexAddr (j := pk) (o' := pk); (· exact rfl); (· exact rfl); (· omega); (· omega); (· omega); (· exact rfl))
      refine s_store (v := .int .i64 ((((L.I.ms.take k).countP (fun y => qP y pk) : Nat) : Int) + 1)) (cs' := zs (tal qP n (L.I.ms.take (k + 1)))) rfl rfl rfl (by rw [zs_length, tal_len]; omega) (by rw [htake]; exact tal_set (by omega) qPk) ?_
      refine walk ?_
      refine s_call rfl (iP (x := x) (L := L) (p := m.p)) rfl ?_
      rintro _ _ ⟨e_, rfl⟩
      obtain rfl := e_.symm
      rw [hPk]
      refine walk ?_
      (apply s_indexAddr (j := gk) (o' := gk); (· exact rfl); (· exact rfl); (· omega); (· omega); (· omega); (· exact rfl))
      refine walk ?_
      (apply s_indexAddr (j := gk) (o' := gk); (· exact rfl); (· exact rfl); (· omega); (· omega); (· omega); (· exact rfl))
      refine s_store (v := .int .i64 ((((L.I.ms.take k).countP (fun y => qR y gk) : Nat) : Int) + 1)) (cs' := zs (tal qR g (L.I.ms.take (k + 1)))) rfl rfl rfl (by rw [zs_length, tal_len]; omega) (by rw [htake]; exact tal_set (by omega) (fun j _ => by simp [qR, a, hgk]; omega)) ?_
      refine walk ?_
      refine ⟨k + 1, asided, agreed, ?_, by omega, by omega⟩
      rw [e3]
      exact Ent.auto
    · have g0 : 0 ≤ m.g := by omega
      rw [if_pos a] at eA
      have e2 := nR (by omega)
      obtain ⟨gk, hgk⟩ := Int.eq_ofNat_of_zero_le g0
      have cC := tal_cell (B := B) (q := qC) (l := L.I.ms.take k) (b := b8) (N := g) (i := gk) (by omega)
      have bC := hcC gk
      by_cases p0 : 0 ≤ m.p
      · obtain ⟨pk, hpk, hpn, qPk, hPk⟩ := hP p0
        have cP := tal_cell (B := B) (q := qP) (l := L.I.ms.take k) (b := b10) hpn
        have bP := hcP pk
        refine walk ?_
        refine s_call rfl (iM (x := x) (L := L) (m := ((k : Nat) : Int))) rfl ?_
        rintro _ _ ⟨e_, rfl⟩
        obtain rfl := e_.symm
        rw [hst, hok]
        refine walk ?_
        refine s_alloc rfl ?_
        intro b13
        refine walk ?_
        refine s_storeV (vs := [.int .i64 m.a, .int .i64 m.p, .int .i64 m.g]) rfl rfl rfl rfl rfl ?_
        refine walk ?_
        (apply s_indexAddr (j := pk) (o' := pk); (· exact rfl); (· exact rfl); (· omega); (· omega); (· omega); (· exact rfl))
        refine walk ?_
        (apply s_indexAddr (j := pk) (o' := pk); (· exact rfl); (· exact rfl); (· omega); (· omega); (· omega); (· exact rfl))
        refine s_store (v := .int .i64 ((((L.I.ms.take k).countP (fun y => qP y pk) : Nat) : Int) + 1)) (cs' := zs (tal qP n (L.I.ms.take (k + 1)))) rfl rfl rfl (by rw [zs_length, tal_len]; omega) (by rw [htake]; exact tal_set (by omega) qPk) ?_
        refine walk ?_
        refine s_call rfl (iP (x := x) (L := L) (p := m.p)) rfl ?_
        rintro _ _ ⟨e_, rfl⟩
        obtain rfl := e_.symm
        rw [hPk]
        refine walk ?_
        (apply s_indexAddr (j := gk) (o' := gk); (· exact rfl); (· exact rfl); (· omega); (· omega); (· omega); (· exact rfl))
        refine walk ?_
        (apply s_indexAddr (j := gk) (o' := gk); (· exact rfl); (· exact rfl); (· omega); (· omega); (· omega); (· exact rfl))
        refine s_store (v := .int .i64 ((((L.I.ms.take k).countP (fun y => qC y gk) : Nat) : Int) + 1)) (cs' := zs (tal qC g (L.I.ms.take (k + 1)))) rfl rfl rfl (by rw [zs_length, tal_len]; omega) (by rw [htake]; exact tal_set (by omega) (fun j _ => by simp [qC, a, hgk]; omega)) ?_
        refine walk ?_
        refine ⟨k + 1, asided, agreed, ?_, by omega, by omega⟩
        rw [e2]
        exact Ent.auto
      · have e1 := nP (by omega)
        refine walk ?_
        refine s_call rfl (iM (x := x) (L := L) (m := ((k : Nat) : Int))) rfl ?_
        rintro _ _ ⟨e_, rfl⟩
        obtain rfl := e_.symm
        rw [hst, hok]
        refine walk ?_
        refine s_alloc rfl ?_
        intro b13
        refine walk ?_
        refine s_storeV (vs := [.int .i64 m.a, .int .i64 m.p, .int .i64 m.g]) rfl rfl rfl rfl rfl ?_
        refine walk ?_
        (apply s_indexAddr (j := gk) (o' := gk); (· exact rfl); (· exact rfl); (· omega); (· omega); (· omega); (· exact rfl))
        refine walk ?_
        (apply s_indexAddr (j := gk) (o' := gk); (· exact rfl); (· exact rfl); (· omega); (· omega); (· omega); (· exact rfl))
        refine s_store (v := .int .i64 ((((L.I.ms.take k).countP (fun y => qC y gk) : Nat) : Int) + 1)) (cs' := zs (tal qC g (L.I.ms.take (k + 1)))) rfl rfl rfl (by rw [zs_length, tal_len]; omega) (by rw [htake]; exact tal_set (by omega) (fun j _ => by simp [qC, a, hgk]; omega)) ?_
        refine walk ?_
        refine ⟨k + 1, asided, agreed, ?_, by omega, by omega⟩
        rw [e1, e2]
        exact Ent.auto
  · have hkl : L.I.ms.take k = L.I.ms := List.take_of_length_le (by omega)
    rw [hkl]
    refine walk ?_
    unfold Rd at hs
    obtain ⟨asc, capc, rfl, hlc, _, hcc⟩ := hs
    have hcl := h.cl
    obtain ⟨bc, oc, rfl, hccs⟩ := Rd.addr (k := 0) (m := 4) (by rw [zs_length]; omega) hcc (by omega)
    refine wp_loopF (α := Nat) [6, 15, 16, 17, 154, 155, 156, 157, 158, 159, 160, 161, 162, 163, 164, 165, 166, 167, 168, 169, 170, 171, 172, 173, 174, 175, 176, 177, 178, 179, 180, 181, 182, 183, 184, 185, 186, 187, 188, 189, 190, 191, 192, 193, 194, 195, 196, 197, 198, 199, 200, 201, 202, 203, 204, 205, 206, 207, 208, 209] (fun s => [(15, .int .i64 s)]) (fun s => blk b10 (zs (tal qP n L.I.ms)) 3 + (blk b7 (zs (tal qR g L.I.ms)) 3 + (blk b8 (zs (tal qC g L.I.ms)) 3 + (blk b9 (zs (tal qW g (allW (L.I.sem.take s)))) 3 + (blk b4 (cv L.I.c) 23 + (IdeAt x L + F)))))) (fun s => s ≤ 4) (fun s => 4 - s) 0 agreed ?_ (Nat.zero_le _) ?_
    · simp only [List.take_zero, show allW [] = [] from rfl, tal_nil]
      exact Ent.auto
    intro s f3 hs4
    simp only [putAll]
    by_cases hlt2 : s < 4
    · have hsl := ok.sl
      obtain ⟨l, c, hlc2⟩ : ∃ l c, L.I.sem[s]? = some (l, c) := ⟨_, _, List.getElem?_eq_getElem (by omega)⟩
      obtain ⟨e1, e2, e3, e4, e5⟩ := h.se s l c hlc2
      have hro : rowS L.I.sem ((s : Nat) : Int) = l := by unfold rowS; rw [if_pos (by omega), Int.toNat_natCast, hlc2]; rfl
      have hct : L.I.count ((s : Nat) : Int) = c := by unfold Ide.count; rw [if_pos (by omega), Int.toNat_natCast, hlc2]; rfl
      have hcx : max 0 (L.I.count ((s : Nat) : Int)) = c := by rw [hct]; omega
      have hcc1 : Cell B F bc (oc + s) (.int .i64 c) := hccs.cell (by rw [show zs cnt = cnt.map (.int .i64) from rfl, List.getElem?_map, e1]; rfl)
      have hsg : L.I.sem[s]'(by omega) = (l, c) := by have := List.getElem?_eq_getElem (l := L.I.sem) (i := s) (by omega); rw [hlc2] at this; exact (Option.some.inj this).symm
      have hW1 : allW (L.I.sem.take (s + 1)) = allW (L.I.sem.take s) ++ l := by
        unfold allW
        rw [List.take_succ_eq_append_getElem (by omega), hsg]
        simp
      have hsp : allW L.I.sem = allW (L.I.sem.take s) ++ (l ++ allW (L.I.sem.drop (s + 1))) := by
        have e : L.I.sem = L.I.sem.take s ++ (l, c) :: L.I.sem.drop (s + 1) := by rw [← hsg, ← List.drop_eq_getElem_cons, List.take_append_drop]
        conv => lhs; rw [e]
        unfold allW
        simp
      have hll := ok.sk s l c hlc2
      refine walk ?_
      refine s_call rfl (iWaits (x := x) (L := L) (s := ((s : Nat) : Int)) hlk) rfl ?_
      rintro r _ rfl
      rw [hro]
      refine WPL.shape ?_
      rintro ao cap rfl hl1 hl2 hl3
      refine WPL.rd fun rdW => ?_
      refine walk ?_
      refine wp_loopF (α := Nat) [6, 17, 161, 162, 163, 164, 165, 166, 167, 168, 169, 170, 171, 172, 173, 174, 175, 176, 177, 178, 179, 180, 181, 182, 183, 184, 185, 186, 187, 188, 189] (fun i => [(17, .int .i64 i)]) (fun i => Mine 3 1 (.slice ao l.length cap) l.length (zs l) + (blk b10 (zs (tal qP n L.I.ms)) 3 + (blk b7 (zs (tal qR g L.I.ms)) 3 + (blk b8 (zs (tal qC g L.I.ms)) 3 + (blk b9 (zs (tal qW g (allW (L.I.sem.take s) ++ l.take i))) 3 + (blk b4 (cv L.I.c) 23 + (IdeAt x L + F))))))) (fun i => i ≤ l.length) (fun i => l.length - i) 0 agreed ?_ (Nat.zero_le _) ?_
      · simp only [List.take_zero, List.append_nil]
        exact Ent.auto
      intro i f4 hi
      simp only [putAll]
      by_cases hlt3 : i < l.length
      · obtain ⟨y, hy⟩ : ∃ y, l[i] = y := ⟨_, rfl⟩
        have hyl : y ∈ l := by rw [← hy]; exact List.getElem_mem _
        obtain ⟨y0, y1⟩ := e2 y hyl
        obtain ⟨yk, hyk⟩ := Int.eq_ofNat_of_zero_le y0
        obtain ⟨ao', cap', hv', _, _, hcw⟩ := (by unfold Rd at rdW; exact rdW)
        cases hv'
        obtain ⟨bw, ow, rfl, hcws⟩ := Rd.addr (k := i) (by rw [zs_length]; omega) hcw hlt3
        have hcy := hcws.cell (zs_get l i hlt3)
        rw [hy] at hcy
        have htk : l.take (i + 1) = l.take i ++ [y] := by rw [List.take_succ_eq_append_getElem hlt3, hy]
        have cW := tal_cell (B := B) (q := qW) (l := allW (L.I.sem.take s) ++ l.take i) (b := b9) (N := g) (i := yk) (by omega)
        have bW : (allW (L.I.sem.take s) ++ l.take i).countP (fun z => qW z yk) ≤ 1 := by
          have a1 := allW_count L.I.sem yk
          rw [(h.st ((yk : Nat) : Int) (by omega) (by omega)).2.2, hsp, List.countP_append, List.countP_append] at a1
          have a2 : l.countP (fun z => qW z yk) = (l.take i).countP (fun z => qW z yk) + (l.drop i).countP (fun z => qW z yk) := by rw [← List.countP_append, List.take_append_drop]
          rw [List.countP_append]
          split at a1 <;> omega
        refine walk ?_
        (refine wp_draw [] (.look 0 (.look 1 (.look 2 (.look 3 (.look 4 (.look 5 (.look 6 (.look 7 (.look 8 (.look 9 (.look 10 (.look 11 (.look 12 (.look 13 .nil)))))))))))))) (by kernel_rfl) ?_; refine dwP ?_; refine dwP ?_; (apply dw_pure; (· exact rfl); (· exact rfl); (· (intro G; (first | (refine step_wanted rfl rfl ?_; (apply s_indexAddr (j := i) (o' := ow + i); (· exact rfl); (· exact rfl); (· omega); (· omega); (· omega); (· exact rfl))) | (apply s_indexAddr (j := i) (o' := ow + i); (· exact rfl); (· exact rfl); (· omega); (· omega); (· omega); (· exact rfl)) | skip); exact looked))); refine dwL ?_; refine dwP ?_; refine dwP ?_; refine dwP ?_; refine dwP ?_; (apply dw_pure; (· exact rfl); (· exact rfl); (· (intro G; (first | (refine step_wanted rfl rfl ?_; (apply s_indexAddr (j := i) (o' := ow + i); (· exact rfl); (· exact rfl); (· omega); (· omega); (· omega); (· exact rfl))) | (apply s_indexAddr (j := i) (o' := ow + i); (· exact rfl); (· exact rfl); (· omega); (· omega); (· omega); (· exact rfl)) | skip); exact looked))); refine dwL ?_; refine dwP ?_; refine dwL ?_; refine dwP ?_; refine dwP ?_; refine dw_nil ?_)
        refine walk ?_
        (apply s_indexAddr (j := yk) (o' := yk); (· exact rfl); (· exact rfl); (· omega); (· omega); (· omega); (· exact rfl))
        refine walk ?_
        (apply s_indexAddr (j := yk) (o' := yk); (· exact rfl); (· exact rfl); (· omega); (· omega); (· omega); (· exact rfl))
        refine s_store (v := .int .i64 ((((allW (L.I.sem.take s) ++ l.take i).countP (fun z => qW z yk) : Nat) : Int) + 1)) (cs' := zs (tal qW g (allW (L.I.sem.take s) ++ l.take (i + 1)))) rfl rfl rfl (by rw [zs_length, tal_len]; omega) (by rw [htk, ← List.append_assoc]; exact tal_set (by omega) (fun j _ => decide_eq_decide.2 (by omega))) ?_
        refine walk ?_
        exact ⟨i + 1, asided, agreed, Ent.auto, by omega, by omega⟩
      · have hil : l.take i = l := List.take_of_length_le (by omega)
        rw [hil]
        by_cases hl0 : 0 < l.length
        · have hc0 : c = 0 := by
            by_cases hcp : 0 < c
            · have := e3 hcp
              rw [this] at hl0
              simp at hl0
            · omega
          refine walk ?_
          (refine wp_draw [2] (.look 0 (.look 1 (.look 3 (.look 4 (.look 5 (.look 6 (.act 2 (.look 7 (.look 8 (.look 9 (.look 10 (.look 11 (.look 12 (.look 13 (.look 14 (.look 15 (.look 16 (.look 17 (.look 18 (.look 19 .nil))))))))))))) .stop))))))) (by kernel_rfl) ?_; refine dwP ?_; refine dwP ?_; refine dwP ?_; refine dwP ?_; (apply dw_pure; (· exact rfl); (· exact rfl); (· (intro G; (first | (refine step_wanted rfl rfl ?_; (apply s_indexAddr (j := s) (o' := oc + s); (· exact rfl); (· exact rfl); (· omega); (· omega); (· omega); (· exact rfl))) | (apply s_indexAddr (j := s) (o' := oc + s); (· exact rfl); (· exact rfl); (· omega); (· omega); (· omega); (· exact rfl)) | skip); exact looked))); refine dwL ?_; skip)
          refine dw_do rfl rfl ?_ dw_stop
          refine s_call rfl (iCountX (x := x) (L := L) (s := ((s : Nat) : Int))) rfl ?_
          rintro _ _ ⟨e_, rfl⟩
          obtain rfl := e_.symm
          rw [hcx]
          refine wpl_nil (qone ⟨(by (refine st_again ?_ ?_; (· exact looked)); exact st_nil), ?_⟩)
          (refine dwP ?_; refine dwP ?_; refine dwP ?_; refine dwP ?_; refine dwP ?_; refine dwP ?_; refine dwP ?_; refine dwP ?_; (apply dw_pure; (· exact rfl); (· exact rfl); (· (intro G; (first | (refine step_wanted rfl rfl ?_; (apply s_indexAddr (j := s) (o' := oc + s); (· exact rfl); (· exact rfl); (· omega); (· omega); (· omega); (· exact rfl))) | (apply s_indexAddr (j := s) (o' := oc + s); (· exact rfl); (· exact rfl); (· omega); (· omega); (· omega); (· exact rfl)) | skip); exact looked))); refine dwL ?_; refine dwP ?_; refine dwP ?_; refine dwP ?_; refine dw_nil ?_; skip)
          refine walk ?_
          refine ⟨s + 1, asided, agreed, ?_, by omega, by omega⟩
          rw [hW1]
          exact Ent.auto
        · have hl00 : l.length = 0 := by omega
          refine walk ?_
          (refine wp_draw [2] (.look 0 (.look 1 (.look 3 (.look 4 (.look 5 (.look 6 (.act 2 (.look 7 (.look 8 (.look 9 (.look 10 (.look 11 (.look 12 (.look 13 (.look 14 (.look 15 (.look 16 (.look 17 (.look 18 (.look 19 .nil))))))))))))) .stop))))))) (by kernel_rfl) ?_; refine dwP ?_; refine dwP ?_; refine dwP ?_; refine dwP ?_; (apply dw_pure; (· exact rfl); (· exact rfl); (· (intro G; (first | (refine step_wanted rfl rfl ?_; (apply s_indexAddr (j := s) (o' := oc + s); (· exact rfl); (· exact rfl); (· omega); (· omega); (· omega); (· exact rfl))) | (apply s_indexAddr (j := s) (o' := oc + s); (· exact rfl); (· exact rfl); (· omega); (· omega); (· omega); (· exact rfl)) | skip); exact looked))); refine dwL ?_; skip)
          refine dw_do rfl rfl ?_ dw_stop
          refine s_call rfl (iCountX (x := x) (L := L) (s := ((s : Nat) : Int))) rfl ?_
          rintro _ _ ⟨e_, rfl⟩
          obtain rfl := e_.symm
          rw [hcx]
          refine wpl_nil (qone ⟨(by (refine st_again ?_ ?_; (· exact looked)); exact st_nil), ?_⟩)
          (refine dwP ?_; refine dwP ?_; refine dwP ?_; refine dwP ?_; refine dwP ?_; refine dwP ?_; refine dwP ?_; refine dwP ?_; (apply dw_pure; (· exact rfl); (· exact rfl); (· (intro G; (first | (refine step_wanted rfl rfl ?_; (apply s_indexAddr (j := s) (o' := oc + s); (· exact rfl); (· exact rfl); (· omega); (· omega); (· omega); (· exact rfl))) | (apply s_indexAddr (j := s) (o' := oc + s); (· exact rfl); (· exact rfl); (· omega); (· omega); (· omega); (· exact rfl)) | skip); exact looked))); refine dwL ?_; refine dwP ?_; refine dwP ?_; refine dwP ?_; refine dw_nil ?_; skip)
          refine walk ?_
          refine ⟨s + 1, asided, agreed, ?_, by omega, by omega⟩
          rw [hW1]
          exact Ent.auto
    · have hs44 : s = 4 := by omega
      have hsl := ok.sl
      have hWa : L.I.sem.take s = L.I.sem := List.take_of_length_le (by omega)
      rw [hWa]
      refine walk ?_
      refine wp_loopF (α := Nat) [6, 18, 210, 211, 212, 213, 214, 215, 216, 217, 218, 219, 220, 221, 222, 223, 224, 225, 226, 227, 228, 229, 230, 231, 232, 233, 234, 235, 236, 237, 238] (fun p => [(18, .int .i64 p)]) (fun p => blk b10 (zs (tal qP n L.I.ms)) 3 + (blk b7 (zs (tal qR g L.I.ms)) 3 + (blk b8 (zs (tal qC g L.I.ms)) 3 + (blk b9 (zs (tal qW g (allW L.I.sem))) 3 + (blk b4 (cv L.I.c) 23 + (IdeAt x L + F)))))) (fun p => p ≤ n) (fun p => n - p) 0 agreed (Ent.refl _) (Nat.zero_le _) ?_
      intro p f5 hp
      simp only [putAll]
      by_cases hlt4 : p < n
      · obtain ⟨v, hv⟩ : ∃ v, L.I.ps[p]? = some v := ⟨_, List.getElem?_eq_getElem (by omega)⟩
        have cP := tal_cell (B := B) (q := qP) (l := L.I.ms) (b := b10) hlt4
        have hPv : (if 0 ≤ ((p : Nat) : Int) ∧ ((p : Nat) : Int) < L.I.ps.length then L.I.pAt ((p : Nat) : Int) else -3) = v := by
          rw [if_pos (by omega)]
          unfold Ide.pAt
          rw [Int.toNat_natCast, hv]; rfl
        rcases h.pp.count hv with ⟨hc0, e | e⟩ | ⟨hc1, hv0⟩
        · skip
          refine walk ?_
          (refine wp_draw [13, 18] (.look 0 (.look 1 (.look 2 (.look 3 (.look 4 (.look 5 (.look 6 (.look 7 (.look 8 (.look 9 (.look 10 (.look 11 (.look 12 (.act 13 (.look 14 (.look 15 (.look 16 (.look 17 (.act 18 (.look 19 (.look 20 (.look 21 (.look 22 .nil)))) .stop))))) .stop)))))))))))))) (by kernel_rfl) ?_; refine dwP ?_; refine dwP ?_; (apply dw_pure; (· exact rfl); (· exact rfl); (· (intro G; (first | (refine step_wanted rfl rfl ?_; (apply s_indexAddr (j := p) (o' := p); (· exact rfl); (· exact rfl); (· omega); (· omega); (· omega); (· exact rfl))) | (apply s_indexAddr (j := p) (o' := p); (· exact rfl); (· exact rfl); (· omega); (· omega); (· omega); (· exact rfl)) | skip); exact looked))); refine dwL ?_; refine dwP ?_; refine dwP ?_; refine dwP ?_; refine dwP ?_; (apply dw_pure; (· exact rfl); (· exact rfl); (· (intro G; (first | (refine step_wanted rfl rfl ?_; (apply s_indexAddr (j := p) (o' := p); (· exact rfl); (· exact rfl); (· omega); (· omega); (· omega); (· exact rfl))) | (apply s_indexAddr (j := p) (o' := p); (· exact rfl); (· exact rfl); (· omega); (· omega); (· omega); (· exact rfl)) | skip); exact looked))); refine dwL ?_; refine dwP ?_; refine dwP ?_; refine dwP ?_; skip)
          refine dw_do rfl rfl ?_ dw_stop
          refine step_wanted rfl rfl ?_
          refine s_call rfl (iP (x := x) (L := L) (p := ((p : Nat) : Int))) rfl ?_
          rintro _ _ ⟨e_, rfl⟩
          obtain rfl := e_.symm
          rw [hPv]
          refine wpl_nil (qone ⟨(by (refine st_again ?_ ?_; (· exact looked)); refine st_past (by kernel_rfl) ?_; exact st_nil), ?_⟩)
          (refine dwP ?_; refine dwP ?_; refine dwP ?_; refine dwP ?_; skip)
          refine dw_do rfl rfl ?_ dw_stop
          (first | refine step_unwanted rfl rfl rfl rfl ?_ | refine step_unwantedU rfl rfl rfl ?_ | refine step_unwanted0 rfl rfl rfl ?_ | refine step_unwantedU0 rfl rfl ?_)
          refine wpl_nil (qone ⟨(by (refine st_again ?_ ?_; (· exact looked)); refine st_past (by kernel_rfl) ?_; exact st_nil), ?_⟩)
          (refine dwP ?_; refine dwP ?_; refine dwP ?_; refine dwP ?_; refine dw_nil ?_; skip)
          refine walk ?_
          exact ⟨p + 1, asided, agreed, Ent.auto, by omega, by omega⟩
        · skip
          refine walk ?_
          (refine wp_draw [13, 18] (.look 0 (.look 1 (.look 2 (.look 3 (.look 4 (.look 5 (.look 6 (.look 7 (.look 8 (.look 9 (.look 10 (.look 11 (.look 12 (.act 13 (.look 14 (.look 15 (.look 16 (.look 17 (.act 18 (.look 19 (.look 20 (.look 21 (.look 22 .nil)))) .stop))))) .stop)))))))))))))) (by kernel_rfl) ?_; refine dwP ?_; refine dwP ?_; (apply dw_pure; (· exact rfl); (· exact rfl); (· (intro G; (first | (refine step_wanted rfl rfl ?_; (apply s_indexAddr (j := p) (o' := p); (· exact rfl); (· exact rfl); (· omega); (· omega); (· omega); (· exact rfl))) | (apply s_indexAddr (j := p) (o' := p); (· exact rfl); (· exact rfl); (· omega); (· omega); (· omega); (· exact rfl)) | skip); exact looked))); refine dwL ?_; refine dwP ?_; refine dwP ?_; refine dwP ?_; refine dwP ?_; (apply dw_pure; (· exact rfl); (· exact rfl); (· (intro G; (first | (refine step_wanted rfl rfl ?_; (apply s_indexAddr (j := p) (o' := p); (· exact rfl); (· exact rfl); (· omega); (· omega); (· omega); (· exact rfl))) | (apply s_indexAddr (j := p) (o' := p); (· exact rfl); (· exact rfl); (· omega); (· omega); (· omega); (· exact rfl)) | skip); exact looked))); refine dwL ?_; refine dwP ?_; refine dwP ?_; refine dwP ?_; skip)
          refine dw_do rfl rfl ?_ dw_stop
          refine step_wanted rfl rfl ?_
          refine s_call rfl (iP (x := x) (L := L) (p := ((p : Nat) : Int))) rfl ?_
          rintro _ _ ⟨e_, rfl⟩
          obtain rfl := e_.symm
          rw [hPv]
          refine wpl_nil (qone ⟨(by (refine st_again ?_ ?_; (· exact looked)); refine st_past (by kernel_rfl) ?_; exact st_nil), ?_⟩)
          (refine dwP ?_; refine dwP ?_; refine dwP ?_; refine dwP ?_; skip)
          refine dw_do rfl rfl ?_ dw_stop
          refine step_wanted rfl rfl ?_
          refine s_call rfl (iP (x := x) (L := L) (p := ((p : Nat) : Int))) rfl ?_
          rintro _ _ ⟨e_, rfl⟩
          obtain rfl := e_.symm
          rw [hPv]
          refine wpl_nil (qone ⟨(by (refine st_again ?_ ?_; (· exact looked)); refine st_past (by kernel_rfl) ?_; exact st_nil), ?_⟩)
          (refine dwP ?_; refine dwP ?_; refine dwP ?_; refine dwP ?_; refine dw_nil ?_; skip)
          refine walk ?_
          exact ⟨p + 1, asided, agreed, Ent.auto, by omega, by omega⟩
        · skip
          refine walk ?_
          (refine wp_draw [13, 18] (.look 0 (.look 1 (.look 2 (.look 3 (.look 4 (.look 5 (.look 6 (.look 7 (.look 8 (.look 9 (.look 10 (.look 11 (.look 12 (.act 13 (.look 14 (.look 15 (.look 16 (.look 17 (.act 18 (.look 19 (.look 20 (.look 21 (.look 22 .nil)))) .stop))))) .stop)))))))))))))) (by kernel_rfl) ?_; refine dwP ?_; refine dwP ?_; (apply dw_pure; (· exact rfl); (· exact rfl); (· (intro G; (first | (refine step_wanted rfl rfl ?_; (apply s_indexAddr (j := p) (o' := p); (· exact rfl); (· exact rfl); (· omega); (· omega); (· omega); (· exact rfl))) | (apply s_indexAddr (j := p) (o' := p); (· exact rfl); (· exact rfl); (· omega); (· omega); (· omega); (· exact rfl)) | skip); exact looked))); refine dwL ?_; refine dwP ?_; refine dwP ?_; refine dwP ?_; refine dwP ?_; (apply dw_pure; (· exact rfl); (· exact rfl); (· (intro G; (first | (refine step_wanted rfl rfl ?_; (apply s_indexAddr (j := p) (o' := p); (· exact rfl); (· exact rfl); (· omega); (· omega); (· omega); (· exact rfl))) | (apply s_indexAddr (j := p) (o' := p); (· exact rfl); (· exact rfl); (· omega); (· omega); (· omega); (· exact rfl)) | skip); exact looked))); refine dwL ?_; refine dwP ?_; refine dwP ?_; refine dwP ?_; skip)
          refine dw_do rfl rfl ?_ dw_stop
          refine step_wanted rfl rfl ?_
          refine s_call rfl (iP (x := x) (L := L) (p := ((p : Nat) : Int))) rfl ?_
          rintro _ _ ⟨e_, rfl⟩
          obtain rfl := e_.symm
          rw [hPv]
          refine wpl_nil (qone ⟨(by (refine st_again ?_ ?_; (· exact looked)); refine st_past (by kernel_rfl) ?_; exact st_nil), ?_⟩)
          (refine dwP ?_; refine dwP ?_; refine dwP ?_; refine dwP ?_; skip)
          refine dw_do rfl rfl ?_ dw_stop
          refine step_wanted rfl rfl ?_
          refine s_call rfl (iP (x := x) (L := L) (p := ((p : Nat) : Int))) rfl ?_
          rintro _ _ ⟨e_, rfl⟩
          obtain rfl := e_.symm
          rw [hPv]
          refine wpl_nil (qone ⟨(by (refine st_again ?_ ?_; (· exact looked)); refine st_past (by kernel_rfl) ?_; exact st_nil), ?_⟩)
          (refine dwP ?_; refine dwP ?_; refine dwP ?_; refine dwP ?_; refine dw_nil ?_; skip)
          refine walk ?_
          exact ⟨p + 1, asided, agreed, Ent.auto, by omega, by omega⟩
      · refine walk ?_
        refine wp_loopF (α := Nat) [6, 19, 20, 21, 239, 240, 241, 242, 243, 244, 245, 246, 247, 248, 249, 250, 251, 252, 253, 254, 255, 256, 257, 258, 259, 260, 261, 262, 263, 264, 265, 266, 267, 268, 269, 270, 271, 272, 273, 274, 275] (fun q => [(19, .int .i64 q)]) (fun q => blk b10 (zs (tal qP n L.I.ms)) 3 + (blk b7 (zs (tal qR g L.I.ms)) 3 + (blk b8 (zs (tal qC g L.I.ms)) 3 + (blk b9 (zs (tal qW g (allW L.I.sem))) 3 + (blk b4 (cv L.I.c) 23 + (IdeAt x L + F)))))) (fun q => q ≤ g) (fun q => g - q) 0 agreed (Ent.refl _) (Nat.zero_le _) ?_
        intro q f6 hq
        simp only [putAll]
        by_cases hlt5 : q < g
        · have cR := tal_cell (B := B) (q := qR) (l := L.I.ms) (b := b7) hlt5
          have cC := tal_cell (B := B) (q := qC) (l := L.I.ms) (b := b8) hlt5
          have cW := tal_cell (B := B) (q := qW) (l := allW L.I.sem) (b := b9) hlt5
          rw [allW_count] at cW
          obtain ⟨d1, d2, d3⟩ := h.st ((q : Nat) : Int) (by omega) (by omega)
          have d1' : L.I.ms.countP (fun z => qR z q) = if L.I.stat ((q : Nat) : Int) = 2 then 1 else 0 := d1
          have d2' : L.I.ms.countP (fun z => qC z q) = if L.I.stat ((q : Nat) : Int) = 4 then 1 else 0 := d2
          obtain ⟨r2, hr2⟩ : ∃ r : Int, (if L.I.stat ((q : Nat) : Int) = 2 then (1 : Int) else 0) = r := ⟨_, rfl⟩
          obtain ⟨r4, hr4⟩ : ∃ r : Int, (if L.I.stat ((q : Nat) : Int) = 4 then (1 : Int) else 0) = r := ⟨_, rfl⟩
          obtain ⟨r3, hr3⟩ : ∃ r : Int, (if L.I.stat ((q : Nat) : Int) = 3 then (1 : Int) else 0) = r := ⟨_, rfl⟩
          have n2 : ((L.I.ms.countP (fun z => qR z q) : Nat) : Int) = r2 := by rw [d1', ← hr2]; split <;> rfl
          have n4 : ((L.I.ms.countP (fun z => qC z q) : Nat) : Int) = r4 := by rw [d2', ← hr4]; split <;> rfl
          have n3 : ((nWaits L.I.sem ((q : Nat) : Int) : Nat) : Int) = r3 := by rw [d3, ← hr3]; split <;> rfl
          refine walk ?_
          refine s_call rfl (iStatus (x := x) (L := L) (g := ((q : Nat) : Int))) rfl ?_
          rintro _ _ ⟨e_, rfl⟩
          obtain rfl := e_.symm
          refine walk ?_
          (refine wp_draw [1, 9, 18] (.look 0 (.look 2 (.look 3 (.look 4 (.look 5 (.act 1 (.look 6 (.look 7 (.look 8 (.look 10 (.look 11 (.look 12 (.look 13 (.act 9 (.look 14 (.look 15 (.look 16 (.look 17 (.look 19 (.look 20 (.look 21 (.look 22 (.act 18 (.look 23 (.look 24 .nil)) .stop))))))))) .stop)))))))) .stop)))))) (by kernel_rfl) ?_; refine dwP ?_; refine dwP ?_; refine dwP ?_; (apply dw_pure; (· exact rfl); (· exact rfl); (· (intro G; (first | (refine step_wanted rfl rfl ?_; (apply s_indexAddr (j := q) (o' := q); (· exact rfl); (· exact rfl); (· omega); (· omega); (· omega); (· exact rfl))) | (apply s_indexAddr (j := q) (o' := q); (· exact rfl); (· exact rfl); (· omega); (· omega); (· omega); (· exact rfl)) | skip); exact looked))); refine dwL ?_; skip)
          refine dw_do rfl rfl ?_ dw_stop
          refine s_call rfl (is_spec (s := L.I.stat ((q : Nat) : Int)) (w := 2)) rfl ?_
          rintro _ _ ⟨e_, rfl⟩
          obtain rfl := e_.symm
          rw [hr2]
          refine wpl_nil (qone ⟨(by (refine st_again ?_ ?_; (· exact looked)); exact st_nil), ?_⟩)
          (refine dwP ?_; refine dwP ?_; refine dwP ?_; refine dwP ?_; refine dwP ?_; (apply dw_pure; (· exact rfl); (· exact rfl); (· (intro G; (first | (refine step_wanted rfl rfl ?_; (apply s_indexAddr (j := q) (o' := q); (· exact rfl); (· exact rfl); (· omega); (· omega); (· omega); (· exact rfl))) | (apply s_indexAddr (j := q) (o' := q); (· exact rfl); (· exact rfl); (· omega); (· omega); (· omega); (· exact rfl)) | skip); exact looked))); refine dwL ?_; skip)
          refine dw_do rfl rfl ?_ dw_stop
          refine step_wanted rfl rfl ?_
          refine s_call rfl (is_spec (s := L.I.stat ((q : Nat) : Int)) (w := 4)) rfl ?_
          rintro _ _ ⟨e_, rfl⟩
          obtain rfl := e_.symm
          rw [hr4]
          refine wpl_nil (qone ⟨(by (refine st_again ?_ ?_; (· exact looked)); refine st_past (by kernel_rfl) ?_; exact st_nil), ?_⟩)
          (refine dwP ?_; refine dwP ?_; refine dwP ?_; refine dwP ?_; refine dwP ?_; refine dwP ?_; (apply dw_pure; (· exact rfl); (· exact rfl); (· (intro G; (first | (refine step_wanted rfl rfl ?_; (apply s_indexAddr (j := q) (o' := q); (· exact rfl); (· exact rfl); (· omega); (· omega); (· omega); (· exact rfl))) | (apply s_indexAddr (j := q) (o' := q); (· exact rfl); (· exact rfl); (· omega); (· omega); (· omega); (· exact rfl)) | skip); exact looked))); refine dwL ?_; skip)
          refine dw_do rfl rfl ?_ dw_stop
          refine step_wanted rfl rfl ?_
          refine s_call rfl (is_spec (s := L.I.stat ((q : Nat) : Int)) (w := 3)) rfl ?_
          rintro _ _ ⟨e_, rfl⟩
          obtain rfl := e_.symm
          rw [hr3]
          refine wpl_nil (qone ⟨(by (refine st_again ?_ ?_; (· exact looked)); refine st_past (by kernel_rfl) ?_; refine st_past (by kernel_rfl) ?_; exact st_nil), ?_⟩)
          (refine dwP ?_; refine dwP ?_; refine dw_nil ?_; skip)
          refine walk ?_
          exact ⟨q + 1, asided, agreed, Ent.auto, by omega, by omega⟩
        · have hca := h.ca
          have hcm : L.I.ms.length ≤ 16 := by omega
          have hce : L.I.callers = L.I.ms.countP (fun m => decide (m.a = 3)) := rfl
          rw [hce] at hca
          refine walk ?_
          refine s_call rfl (iCallers (x := x) (L := L) hcm) rfl ?_
          rintro _ _ ⟨e_, rfl⟩
          obtain rfl := e_.symm
          rw [hce]
          refine walk ?_
          (first | (apply retRD1 (G := (IdeAt x L + F)) (.inr rfl) rfl; (· first | (refine rv_tmp (v := .bool _) rfl) | exact rv_tmp rfl); (· exact Ent.auto)) | (apply retRD1 (G := (IdeAt x L + F)) (.inl rfl) rfl; (· first | (refine rv_tmp (v := .bool _) rfl) | exact rv_tmp rfl); (· exact Ent.auto)))
          exact ⟨Ent.refl _, rfl⟩
end
end Go.Proofs.YtlhnmbajbhaaoaaGreat
namespace Go.Proofs.YtlhnmbajbhaaoaaGreat
open Go Go.SL
set_option linter.unusedSimpArgs false
set_option linter.unusedVariables false
set_option maxRecDepth 10000
set_option maxHeartbeats 4000000
def c0 : Cfg := ⟨1, 2, 2, 2, 2, 0⟩
def l0 : List Nt := [⟨2, 0, 0, 0, 0⟩, ⟨1, 1, -1, 0, 0⟩, ⟨6, 0, 0, 0, 2⟩, ⟨2, 1, 0, 0, 1⟩, ⟨8, 0, -1, 0, 2⟩, ⟨9, 1, 0, 0, -1⟩, ⟨2, 1, 0, 0, 0⟩]
def n6 : Nt := ⟨2, 1, 0, 0, 0⟩
def I6 : Ide := (takeI (newI c0) (l0.take 6)).2
theorem f1 : (takeI (newI c0) (l0.take 6)).1 = 6 := by kernel_rfl
theorem f2 : mayB I6 n6 = false := by kernel_rfl
theorem f3 : I6.many = 6 := by kernel_rfl
theorem f4 : I6.stat 0 = 1 := by kernel_rfl
theorem f5 : decide (0 ≤ (0 : Int) ∧ (0 : Int) < I6.tab.all.length) = true := by kernel_rfl
theorem f6 : stC I6 0 = [.int .i64 1, .int .i64 0, .int .i64 (-1)] := by kernel_rfl
theorem f7 : decide (0 ≤ (0 : Int) ∧ (0 : Int) < I6.ms.length) = true := by kernel_rfl
theorem f8 : (if 0 ≤ (0 : Int) ∧ (0 : Int) < I6.ps.length then I6.pAt 0 else -3) = 0 := by kernel_rfl
theorem f9 : takeI I6 [n6] = (0, I6) := by
  rw [takeI_cons, f2]; rfl
theorem r0 : RightP c0 := by decide
theorem ok6 : I6.ok 19 := by
  have := takeI_ok (l0.take 6) (new_ok r0)
  exact this
attribute [local irreducible] WP WPL QSeq QBlk QRet Does Cell Cells Rd Mine Ent Aside RV Yield TabAt SemAt IdeAt newI I6
section
variable {B : World} {H F G : HProp} {x : Nat} {n : Nt} {k : Int}
theorem notes_spec : Does Tryz.prog B 29 [] H fun r H' => ∃ b, r = .slice (some ⟨b, 0, none⟩) 7 7 ∧ H' = blk b (nvs l0) 59 + H := by
  refine fn_intro 9 Tryz.func29 rfl rfl rfl ?_
  refine walk ?_
  (refine s_build (cs := nv ⟨2, 0, 0, 0, 0⟩) ?_ rfl ?_; (· kernel_rfl))
  refine walk ?_
  (refine s_build (cs := nv ⟨1, 1, -1, 0, 0⟩) ?_ rfl ?_; (· kernel_rfl))
  refine walk ?_
  (refine s_build (cs := nv ⟨6, 0, 0, 0, 2⟩) ?_ rfl ?_; (· kernel_rfl))
  refine walk ?_
  (refine s_build (cs := nv ⟨2, 1, 0, 0, 1⟩) ?_ rfl ?_; (· kernel_rfl))
  refine walk ?_
  (refine s_build (cs := nv ⟨8, 0, -1, 0, 2⟩) ?_ rfl ?_; (· kernel_rfl))
  refine walk ?_
  (refine s_build (cs := nv ⟨9, 1, 0, 0, -1⟩) ?_ rfl ?_; (· kernel_rfl))
  refine walk ?_
  (refine s_build (cs := nv ⟨2, 1, 0, 0, 0⟩) ?_ rfl ?_; (· kernel_rfl))
  refine walk ?_
  refine s_buildSlice (cs := nvs l0) rfl ?_ rfl ?_
  · kernel_rfl
  intro b
  refine walk ?_
  (first | refine ret1 (v := .slice _ _ _) (.inr rfl) rfl rfl ?_ | refine ret1  (.inr rfl) rfl rfl ?_ | refine ret1 (v := .slice _ _ _) (.inl rfl) rfl rfl ?_ | refine ret1  (.inl rfl) rfl rfl ?_)
  exact ⟨b, rfl, rfl⟩
theorem works_spec : Does Tryz.prog B 7 [] H fun r H' => H' = H ∧ r = .bool true := by
  refine Does.frame0 ?_
  refine fn_intro 79 Tryz.func7 rfl rfl rfl ?_
  refine walk ?_
  (refine s_build (cs := cv c0) ?_ rfl ?_; (· kernel_rfl))
  refine walk ?_
  refine s_call rfl (iNew (c := c0) r0) rfl ?_
  rintro _ _ ⟨x, L, hL, rfl, rfl⟩
  refine walk ?_
  refine s_call rfl notes_spec rfl ?_
  rintro _ _ ⟨bl, rfl, rfl⟩
  have rd7 : Rd B (blk bl (nvs l0) 59) 5 (.slice (some ⟨bl, 0, none⟩) 7 7) 7 (nvs l0) := Rd.blk0 (e := 59) rfl (by simp [maxLen])
  have rd6 : Rd B (blk bl (nvs l0) 59) 5 (.slice (some ⟨bl, 0, none⟩) 6 7) (l0.take 6).length (nvs (l0.take 6)) := by
    have := Rd.sliceH (B := B) (H := blk bl (nvs l0) 59) (sz := 5) (n := 7) (cap := 7) (ao := some ⟨bl, 0, none⟩) (cs := nvs l0) 6 rd7 (by omega)
    rw [nvs_take l0 6 (by decide)] at this
    exact this
  have hc6 : Cells B (blk bl (nvs l0) 59) bl 30 (nv n6) := by
    have h : Cells B (blk bl (nvs l0) 59) bl 0 (nvs l0) := by
      rw [← HProp.add_emp (blk bl (nvs l0) 59)]
      exact Cells.blk0
    have := nvs_cells h (k := 6) (by decide)
    exact this
  have okN : L.I.ok 1 := by rw [hL]; exact new_ok r0
  have e6 : (takeI L.I (l0.take 6)).2 = I6 := by rw [hL]; unfold I6; rfl
  have e6n : (takeI L.I (l0.take 6)).1 = 6 := by rw [hL]; exact f1
  have ok6' : (L.put I6).I.ok 19 := ok6
  refine walk ?_
  (apply s_sliceH (h := 6); (· exact rfl); (· exact rfl); (· omega); (· omega); (· exact rfl))
  refine walk ?_
  refine s_call rfl (iTake (x := x) (L := L) (l := l0.take 6) (rd6.ent InH.ent) okN (by decide)) rfl ?_
  rintro _ _ ⟨rfl, rfl⟩
  rw [e6, e6n, show (if 6 = (l0.take 6).length then (0 : Int) else 260) = 0 from rfl, show ((6 : Nat) : Int) = 6 from rfl]
  refine walk ?_
  (apply s_indexAddr (j := 6) (o' := 30); (· exact rfl); (· exact rfl); (· omega); (· omega); (· omega); (· exact rfl))
  refine walk ?_
  refine s_buildSlice (cs := nv n6) rfl ?_ rfl ?_
  · kernel_rfl
  intro bn
  refine walk ?_
  refine s_call rfl (iTake (x := x) (L := L.put I6) (l := [n6]) (s := .slice (some ⟨bn, 0, none⟩) 1 1) (Rd.ent (G := blk bn (nv n6) 59) (Rd.blk0 (e := 59) rfl (by simp [maxLen])) InH.ent) ok6' (by decide)) rfl ?_
  rintro _ _ ⟨rfl, rfl⟩
  rw [show takeI (L.put I6).I [n6] = (0, I6) from f9, show (L.put I6).put (0, I6).2 = L.put I6 from rfl, show (if (0, I6).1 = [n6].length then (0 : Int) else 260) = 260 from rfl, show (((0, I6).1 : Nat) : Int) = 0 from rfl]
  refine walk ?_
  refine s_call rfl (iStatus (x := x) (L := L.put I6) (g := 0)) rfl ?_
  rintro _ _ ⟨e_, rfl⟩
  obtain rfl := e_.symm
  rw [show (L.put I6).I.stat 0 = 1 from f4, show decide (0 ≤ (0 : Int) ∧ (0 : Int) < (L.put I6).I.tab.all.length) = true from f5]
  refine walk ?_
  refine s_call rfl (iM (x := x) (L := L.put I6) (m := 0)) rfl ?_
  rintro _ _ ⟨e_, rfl⟩
  obtain rfl := e_.symm
  rw [show stC (L.put I6).I 0 = _ from f6, show decide (0 ≤ (0 : Int) ∧ (0 : Int) < (L.put I6).I.ms.length) = true from f7]
  refine walk ?_
  refine s_alloc rfl ?_
  intro b9
  refine walk ?_
  refine s_storeV (vs := [.int .i64 1, .int .i64 0, .int .i64 (-1)]) rfl rfl rfl rfl rfl ?_
  refine walk ?_
  refine s_call rfl (iLen (x := x) (L := L.put I6)) rfl ?_
  rintro _ _ ⟨e_, rfl⟩
  obtain rfl := e_.symm
  rw [show (L.put I6).I.many = 6 from f3]
  refine walk ?_
  (refine s_build (cs := [.int .i64 1, .int .i64 0, .int .i64 (-1)]) ?_ rfl ?_; (· kernel_rfl))
  refine walk ?_
  refine s_eqlF (stS 1 0 (-1)) (stS 1 0 (-1)) (b := true) rfl rfl rfl rfl (by simp) rfl ?_
  refine walk ?_
  refine s_call rfl (iP (x := x) (L := L.put I6) (p := 0)) rfl ?_
  rintro _ _ ⟨e_, rfl⟩
  obtain rfl := e_.symm
  rw [show (if 0 ≤ (0 : Int) ∧ (0 : Int) < (L.put I6).I.ps.length then (L.put I6).I.pAt 0 else -3) = 0 from f8]
  refine walk ?_
  (first | (apply retRD1 (G := H) (.inr rfl) rfl; (· first | (refine rv_tmp (v := .bool _) rfl) | exact rv_tmp rfl); (· exact Ent.auto)) | (apply retRD1 (G := H) (.inl rfl) rfl; (· first | (refine rv_tmp (v := .bool _) rfl) | exact rv_tmp rfl); (· exact Ent.auto)))
  exact ⟨Ent.refl _, rfl⟩
theorem none_law : Does Tryz.prog B 28 [noteV n, .int .i64 k] H fun r H' => H' = H ∧ r = .bool true := by
  refine Does.frame0 ?_
  refine fn_intro 97 Tryz.func28 rfl rfl rfl ?_
  refine walk ?_
  refine s_box (cs := nv n) rfl rfl rfl ?_
  intro b
  refine walk ?_
  refine s_buildSlice (cs := nv n) rfl ?_ rfl ?_
  · kernel_rfl
  intro bn
  refine walk ?_
  refine s_call rfl (zTake) rfl ?_
  rintro _ _ ⟨e_, rfl⟩
  obtain rfl := e_.symm
  refine walk ?_
  refine s_call rfl (zStatus (g := k)) rfl ?_
  rintro _ _ ⟨e_, rfl⟩
  obtain rfl := e_.symm
  refine walk ?_
  refine s_call rfl (zM (m := k)) rfl ?_
  rintro _ _ ⟨e_, rfl⟩
  obtain rfl := e_.symm
  refine walk ?_
  refine s_alloc rfl ?_
  intro b10
  refine walk ?_
  refine s_storeV (vs := [.int .i64 0, .int .i64 0, .int .i64 0]) rfl rfl rfl rfl rfl ?_
  refine walk ?_
  refine s_call rfl (zMay (n := n)) rfl ?_
  rintro _ _ ⟨e_, rfl⟩
  obtain rfl := e_.symm
  refine walk ?_
  refine s_call rfl (zCount (s := k)) rfl ?_
  rintro _ _ ⟨e_, rfl⟩
  obtain rfl := e_.symm
  refine walk ?_
  refine s_call rfl (zWaits (s := k)) rfl ?_
  rintro _ _ ⟨e_, rfl⟩
  obtain rfl := e_.symm
  refine walk ?_
  (refine s_build (cs := [.int .i64 0, .int .i64 0, .int .i64 0]) ?_ rfl ?_; (· kernel_rfl))
  refine walk ?_
  refine s_eqlF (stS 0 0 0) (stS 0 0 0) (b := true) rfl rfl rfl rfl (by simp) rfl ?_
  refine walk ?_
  refine s_call rfl (zP (p := k)) rfl ?_
  rintro _ _ ⟨e_, rfl⟩
  obtain rfl := e_.symm
  refine walk ?_
  refine s_call rfl (zCallers) rfl ?_
  rintro _ _ ⟨e_, rfl⟩
  obtain rfl := e_.symm
  refine walk ?_
  refine s_call rfl (zLen) rfl ?_
  rintro _ _ ⟨e_, rfl⟩
  obtain rfl := e_.symm
  refine walk ?_
  refine s_call rfl (zCopy) rfl ?_
  rintro _ _ ⟨e_, rfl⟩
  obtain rfl := e_.symm
  refine walk ?_
  refine s_call rfl (works_spec) rfl ?_
  rintro _ _ ⟨e_, rfl⟩
  obtain rfl := e_.symm
  refine walk ?_
  (first | (apply retRD1 (G := H) (.inr rfl) rfl; (· first | (refine rv_tmp (v := .bool _) rfl) | exact rv_tmp rfl); (· exact Ent.auto)) | (apply retRD1 (G := H) (.inl rfl) rfl; (· first | (refine rv_tmp (v := .bool _) rfl) | exact rv_tmp rfl); (· exact Ent.auto)))
  exact ⟨Ent.refl _, rfl⟩
end
end Go.Proofs.YtlhnmbajbhaaoaaGreat
namespace Go.Proofs.YtlhnmbajbhaaoaaGreat
open Go Go.SL
set_option linter.unusedSimpArgs false
set_option linter.unusedVariables false
set_option maxRecDepth 10000
set_option maxHeartbeats 8000000
theorem tmod_pick {i n : Int} (hn : 0 < n) : (i.tmod n + n) % n = i % n ∧ 0 < i.tmod n + n ∧ i.tmod n + n < n + n := by
  have h1 := Int.tmod_lt_of_pos i hn
  have h2 := Int.lt_tmod_of_pos i hn
  refine ⟨?_, by omega, by omega⟩
  rw [Int.add_emod_right]
  have h3 := Int.mul_tdiv_add_tmod i n
  conv => rhs; rw [← h3]
  rw [Int.add_comm, Int.add_mul_emod_self_left]
theorem ite_c {p : Prop} [Decidable p] {I J J' : Ide} (h : J.c = I.c) (h' : J'.c = I.c) : (if p then J else J').c = I.c := by
  split
  · exact h
  · exact h'
theorem doK_c {I : Ide} {n : Nt} : (doK I n).c = I.c := by
  unfold doK
  refine ite_c rfl (ite_c rfl (ite_c rfl (ite_c rfl (ite_c rfl (ite_c rfl (ite_c rfl (ite_c rfl (ite_c rfl (ite_c ?_ (ite_c rfl (ite_c rfl (ite_c rfl (ite_c rfl rfl)))))))))))))
  show (if n.x = 1 then I.drops n.p else I).c = I.c
  exact ite_c rfl rfl
theorem stepI_c {I : Ide} {n : Nt} : (stepI I n).c = I.c := doK_c
attribute [local irreducible] WP WPL QSeq QBlk QRet Does Cell Cells Rd Mine Ent Aside RV Yield TabAt SemAt IdeAt newI I6
section
variable {B : World} {H F G : HProp} {x : Nat} {L : IdL} {n : Nt} {l : List Nt} {s : Value} {c : Cfg} {i m : Int}
theorem pick_spec (hn : 0 < m ∧ m ≤ 1000000) : Does Tryz.prog B 58 [.int .i64 i, .int .i64 m] H fun r H' => H' = H ∧ r = .int .i64 (i % m) := by
  obtain ⟨h1, h2, h3⟩ := tmod_pick (i := i) hn.1
  refine fn_intro 14 Tryz.func58 rfl rfl rfl ?_
  refine walk ?_
  refine s_rem rfl rfl (by omega) rfl rfl ?_
  refine walk ?_
  exact ret1 (v := .int _ _) (.inr rfl) rfl rfl ⟨rfl, congrArg _ h1⟩
theorem cnt_set {cnt : List Int} {j : Nat} {f : Int → Int} {v : Int} (hv : cnt[j]? = some v) : (zs cnt).set j (.int .i64 (f v)) = zs (cnt.modify j f) := by
  rw [modify_at hv]
  simp [zs, List.map_set]
theorem cnt_cell {cnt : List Int} {b j : Nat} {v : Int} (hv : cnt[j]? = some v) : Cell B (blk b (zs cnt) 3) b j (.int .i64 v) := by
  rw [← HProp.add_emp (blk b (zs cnt) 3)]
  exact Cell.blk (by rw [show zs cnt = cnt.map (.int .i64) from rfl, List.getElem?_map, hv]; rfl)
theorem keeps_c [HasAt IdeAt H x L F] {cnt : List Int} {sc : Value} {K : Int} (hc : L.I.c = c) (ok : L.I.ok K) (hK : K ≤ 90000) (h : Inv L.I cnt) (hs : Rd B F 1 sc 4 (zs cnt)) : Does Tryz.prog B 60 [ptr x, cfgV c, sc] H fun r H' => H' = H ∧ r = .bool true := by
  rw [← hc]
  exact keeps_spec ok hK h hs
theorem keeps_law (hs : Rd B H 5 s l.length (nvs l)) : Does Tryz.prog B 27 [cfgV c, s] H fun r H' => H' = H ∧ r = .bool true := by
  refine Does.frame0 ?_
  have hs0 := hs
  unfold Rd at hs
  obtain ⟨ao, cap, rfl, hl, hm, ha⟩ := hs
  unfold maxLen at hm
  by_cases h100 : l.length ≤ 100
  case neg =>
    refine fn_intro 105 Tryz.func27 rfl rfl rfl ?_
    refine walk ?_
    refine s_box (cs := cv c) rfl rfl rfl ?_
    intro b2
    refine walk ?_
    refine s_call rfl (works_spec) rfl ?_
    rintro _ _ ⟨e_, rfl⟩
    obtain rfl := e_.symm
    refine walk ?_
    (first | (apply retRD1 (G := H) (.inr rfl) rfl; (· first | (refine rv_tmp (v := .bool _) rfl) | exact rv_tmp rfl); (· exact Ent.auto)) | (apply retRD1 (G := H) (.inl rfl) rfl; (· first | (refine rv_tmp (v := .bool _) rfl) | exact rv_tmp rfl); (· exact Ent.auto)))
    exact ⟨Ent.refl _, rfl⟩
  by_cases h40 : c.g ≤ 40
  case neg =>
    refine fn_intro 105 Tryz.func27 rfl rfl rfl ?_
    refine walk ?_
    refine s_box (cs := cv c) rfl rfl rfl ?_
    intro b2
    refine walk ?_
    refine s_call rfl (works_spec) rfl ?_
    rintro _ _ ⟨e_, rfl⟩
    obtain rfl := e_.symm
    refine walk ?_
    (first | (apply retRD1 (G := H) (.inr rfl) rfl; (· first | (refine rv_tmp (v := .bool _) rfl) | exact rv_tmp rfl); (· exact Ent.auto)) | (apply retRD1 (G := H) (.inl rfl) rfl; (· first | (refine rv_tmp (v := .bool _) rfl) | exact rv_tmp rfl); (· exact Ent.auto)))
    exact ⟨Ent.refl _, rfl⟩
  by_cases hr : RightP c
  case neg =>
    refine fn_intro 105 Tryz.func27 rfl rfl rfl ?_
    refine walk ?_
    refine s_box (cs := cv c) rfl rfl rfl ?_
    intro b2
    refine walk ?_
    refine s_call rfl (cRight (c := c)) rfl ?_
    rintro _ _ ⟨e_, rfl⟩
    obtain rfl := e_.symm
    refine walk ?_
    rw [decide_eq_false hr]
    refine walk ?_
    refine s_call rfl (works_spec) rfl ?_
    rintro _ _ ⟨e_, rfl⟩
    obtain rfl := e_.symm
    refine walk ?_
    (first | (apply retRD1 (G := H) (.inr rfl) rfl; (· first | (refine rv_tmp (v := .bool _) rfl) | exact rv_tmp rfl); (· exact Ent.auto)) | (apply retRD1 (G := H) (.inl rfl) rfl; (· first | (refine rv_tmp (v := .bool _) rfl) | exact rv_tmp rfl); (· exact Ent.auto)))
    exact ⟨Ent.refl _, rfl⟩
  have hrp := hr
  obtain ⟨_, c1, c2, c3, c4, c5, c6, _, _, c9, c10⟩ := hrp
  refine fn_intro 105 Tryz.func27 rfl rfl rfl ?_
  refine walk ?_
  refine s_box (cs := cv c) rfl rfl rfl ?_
  intro b2
  refine walk ?_
  refine s_call rfl (cRight (c := c)) rfl ?_
  rintro _ _ ⟨e_, rfl⟩
  obtain rfl := e_.symm
  refine walk ?_
  rw [decide_eq_true hr]
  refine walk ?_
  refine s_call rfl (iNew (c := c) hr) rfl ?_
  rintro _ _ ⟨x, L, hL, rfl, rfl⟩
  have ok0 : L.I.ok 1 := by rw [hL]; exact new_ok hr
  have in0 : Inv L.I [c.s, c.s, c.s, c.s] := by rw [hL]; exact inv_new hr
  have hc0 : L.I.c = c := by rw [hL]; unfold newI; rfl
  refine walk ?_
  refine s_buildInts (cs := zs [c.s, c.s, c.s, c.s]) rfl rfl rfl rfl rfl ?_
  intro b6
  refine walk ?_
  refine wp_loopF (α := Nat × Ide × List Int) [4, 7, 8, 9, 35, 36, 37, 38, 39, 40, 41, 42, 43, 44, 45, 46, 47, 48, 49, 50, 51, 52, 53, 54, 55, 56, 57, 58, 59, 60, 61, 62, 63, 64, 65, 66, 67, 68, 69, 70, 71, 72, 73, 74, 75, 76, 77, 78, 79, 80, 81, 82, 83, 84, 85, 86, 87, 88, 89, 90, 91, 92, 93, 94, 95, 96, 97] (fun z => [(7, .int .i64 z.1)]) (fun z => IdeAt x (L.put z.2.1) + (blk b6 (zs z.2.2) 3 + (blk b2 (cv c) 23 + H))) (fun z => z.1 ≤ l.length ∧ z.2.1.ok (1 + 3 * z.1) ∧ Inv z.2.1 z.2.2 ∧ z.2.1.c = c) (fun z => l.length - z.1) (0, L.I, [c.s, c.s, c.s, c.s]) agreed Ent.auto ⟨Nat.zero_le _, ok0, in0, hc0⟩ ?_
  rintro ⟨k, I, cnt⟩ f ⟨hk, ok, inv, hIc⟩
  simp only at hk ok inv hIc
  simp only [putAll]
  have okL : (L.put I).I.ok (1 + 3 * k) := ok
  by_cases hlt : k < l.length
  · obtain ⟨n, hn⟩ : ∃ n, l[k] = n := ⟨_, rfl⟩
    obtain ⟨bs, os, rfl, hcs⟩ : ∃ b o, ao = some ⟨b, o, none⟩ ∧ Cells B H b o (nvs l) := by
      rcases ha with h | ⟨b, o, h1, h2⟩
      · rw [h] at hl; simp at hl; omega
      · exact ⟨b, o, h1, h2⟩
    have hcell := nvs_cells hcs hlt
    rw [hn] at hcell
    have hc0 := hcell.cell (j := 0) (v := .int .i64 n.kind) rfl
    have hc4 := hcell.cell (j := 4) (v := .int .i64 n.x) rfl
    by_cases hmay : mayB I n = true
    · have htk : takeI (L.put I).I [n] = (1, stepI I n) := by
        rw [takeI_cons, if_pos (show mayB (L.put I).I n = true from hmay)]; rfl
      have htv : (if (takeI (L.put I).I [n]).1 = [n].length then (0 : Int) else 260) = 0 := by rw [htk]; rfl
      have ok2 : (L.put (stepI I n)).I.ok (1 + 3 * k + 3) := ok.step hmay
      have ok3 : (stepI I n).ok (1 + 3 * ((k + 1 : Nat) : Int)) := by
        have e : 1 + 3 * ((k + 1 : Nat) : Int) = 1 + 3 * (k : Int) + 3 := by omega
        rw [e]; exact ok.step hmay
      have in2 : Inv (stepI I n) (cntS cnt n) := inv_step inv ok hmay
      have hc2 : (stepI I n).c = c := by rw [stepI_c, hIc]
      obtain ⟨hk16, hrt, _⟩ := mayB_of hmay
      obtain ⟨_, _, _, hx4⟩ := right_of hrt
      obtain ⟨cnt2, hcnt2⟩ : ∃ z, cntS cnt n = z := ⟨_, rfl⟩
      rw [hcnt2] at in2
      by_cases h5 : n.kind = 5
      · have hx := hx4 (by rw [h5]; decide)
        rw [h5] at hx
        have hx' : 0 ≤ n.x ∧ n.x < 4 := hx
        obtain ⟨j, hj⟩ := Int.eq_ofNat_of_zero_le hx'.1
        have hjl : j < cnt.length := by rw [inv.cl]; omega
        obtain ⟨v, hv⟩ : ∃ v, cnt[j]? = some v := ⟨_, List.getElem?_eq_getElem hjl⟩
        have hvb : 0 ≤ v ∧ v ≤ 1073741824 := by
          have hsl := ok.sl
          obtain ⟨e1, _, _, e4, e5⟩ := inv.se j I.sem[j].1 I.sem[j].2 (List.getElem?_eq_getElem (by omega))
          rw [hv] at e1
          cases e1
          exact ⟨e4, e5⟩
        have ccell := cnt_cell (B := B) (b := b6) hv
        have hmod : cnt.modify j (· - 1) = cnt2 := by rw [← hcnt2]; unfold cntS; rw [if_pos h5, hj, Int.toNat_natCast]
        have hxm : n.x % 4 = (j : Int) := by omega
        refine walk ?_
        refine s_buildSlice (cs := nv n) rfl ?_ rfl ?_
        · kernel_rfl
        intro bn
        refine walk ?_
        refine s_call rfl (iTake (x := x) (L := L.put I) (l := [n]) (s := .slice (some ⟨bn, 0, none⟩) 1 1) (Rd.ent (G := blk bn (nv n) 59) (Rd.blk0 (e := 59) rfl (by simp [maxLen])) InH.ent) okL (by simp only [List.length_cons, List.length_nil]; omega)) rfl ?_
        rintro _ _ ⟨rfl, rfl⟩
        rw [htv, htk]
        refine walk ?_
        refine s_call rfl (pick_spec (i := n.x) (m := 4) (by omega)) rfl ?_
        rintro _ _ ⟨e_, rfl⟩
        obtain rfl := e_.symm
        refine walk ?_
        rw [hxm]
        refine walk ?_
        refine s_store (v := .int .i64 (v - 1)) (cs' := zs cnt2) rfl rfl rfl (by rw [zs_length]; omega) (by rw [← hmod]; exact cnt_set (f := (· - 1)) hv) ?_
        refine walk ?_
        refine walk ?_
        refine s_call rfl (keeps_c (x := x) (L := L.put (stepI I n)) (cnt := cnt2) (sc := .slice (some ⟨b6, 0, none⟩) 4 4) hc2 ok2 (by omega) in2 (Rd.ent (G := blk b6 (zs cnt2) 3) (Rd.blk0 (e := 3) (by rw [zs_length]; exact in2.cl) (by simp [maxLen])) InH.ent)) (by rfl) ?_
        rintro _ _ ⟨e_, rfl⟩
        obtain rfl := e_.symm
        refine walk ?_
        exact ⟨(k + 1, stepI I n, cnt2), asided, agreed, Ent.auto, ⟨by omega, ok3, in2, hc2⟩, by simp only; omega⟩
      · by_cases h7 : n.kind = 7
        · have hx := hx4 (by rw [h7]; decide)
          rw [h7] at hx
          have hx' : 0 ≤ n.x ∧ n.x < 4 := hx
          obtain ⟨j, hj⟩ := Int.eq_ofNat_of_zero_le hx'.1
          have hjl : j < cnt.length := by rw [inv.cl]; omega
          obtain ⟨v, hv⟩ : ∃ v, cnt[j]? = some v := ⟨_, List.getElem?_eq_getElem hjl⟩
          have hvb : 0 ≤ v ∧ v ≤ 1073741824 := by
            have hsl := ok.sl
            obtain ⟨e1, _, _, e4, e5⟩ := inv.se j I.sem[j].1 I.sem[j].2 (List.getElem?_eq_getElem (by omega))
            rw [hv] at e1
            cases e1
            exact ⟨e4, e5⟩
          have ccell := cnt_cell (B := B) (b := b6) hv
          have hmod : cnt.modify j (· + 1) = cnt2 := by rw [← hcnt2]; unfold cntS; rw [if_neg h5, if_pos h7, hj, Int.toNat_natCast]
          have hxm : n.x % 4 = (j : Int) := by omega
          refine walk ?_
          refine s_buildSlice (cs := nv n) rfl ?_ rfl ?_
          · kernel_rfl
          intro bn
          refine walk ?_
          refine s_call rfl (iTake (x := x) (L := L.put I) (l := [n]) (s := .slice (some ⟨bn, 0, none⟩) 1 1) (Rd.ent (G := blk bn (nv n) 59) (Rd.blk0 (e := 59) rfl (by simp [maxLen])) InH.ent) okL (by simp only [List.length_cons, List.length_nil]; omega)) rfl ?_
          rintro _ _ ⟨rfl, rfl⟩
          rw [htv, htk]
          refine walk ?_
          refine s_call rfl (pick_spec (i := n.x) (m := 4) (by omega)) rfl ?_
          rintro _ _ ⟨e_, rfl⟩
          obtain rfl := e_.symm
          refine walk ?_
          rw [hxm]
          refine walk ?_
          refine s_store (v := .int .i64 (v + 1)) (cs' := zs cnt2) rfl rfl rfl (by rw [zs_length]; omega) (by rw [← hmod]; exact cnt_set (f := (· + 1)) hv) ?_
          refine walk ?_
          refine walk ?_
          refine s_call rfl (keeps_c (x := x) (L := L.put (stepI I n)) (cnt := cnt2) (sc := .slice (some ⟨b6, 0, none⟩) 4 4) hc2 ok2 (by omega) in2 (Rd.ent (G := blk b6 (zs cnt2) 3) (Rd.blk0 (e := 3) (by rw [zs_length]; exact in2.cl) (by simp [maxLen])) InH.ent)) (by rfl) ?_
          rintro _ _ ⟨e_, rfl⟩
          obtain rfl := e_.symm
          refine walk ?_
          exact ⟨(k + 1, stepI I n, cnt2), asided, agreed, Ent.auto, ⟨by omega, ok3, in2, hc2⟩, by simp only; omega⟩
        · have hcc : cnt = cnt2 := by rw [← hcnt2]; unfold cntS; rw [if_neg h5, if_neg h7]
          refine walk ?_
          refine s_buildSlice (cs := nv n) rfl ?_ rfl ?_
          · kernel_rfl
          intro bn
          refine walk ?_
          refine s_call rfl (iTake (x := x) (L := L.put I) (l := [n]) (s := .slice (some ⟨bn, 0, none⟩) 1 1) (Rd.ent (G := blk bn (nv n) 59) (Rd.blk0 (e := 59) rfl (by simp [maxLen])) InH.ent) okL (by simp only [List.length_cons, List.length_nil]; omega)) rfl ?_
          rintro _ _ ⟨rfl, rfl⟩
          rw [htv, htk]
          rw [hcc]
          refine walk ?_
          refine walk ?_
          refine s_call rfl (keeps_c (x := x) (L := L.put (stepI I n)) (cnt := cnt2) (sc := .slice (some ⟨b6, 0, none⟩) 4 4) hc2 ok2 (by omega) in2 (Rd.ent (G := blk b6 (zs cnt2) 3) (Rd.blk0 (e := 3) (by rw [zs_length]; exact in2.cl) (by simp [maxLen])) InH.ent)) (by rfl) ?_
          rintro _ _ ⟨e_, rfl⟩
          obtain rfl := e_.symm
          refine walk ?_
          exact ⟨(k + 1, stepI I n, cnt2), asided, agreed, Ent.auto, ⟨by omega, ok3, in2, hc2⟩, by simp only; omega⟩
    · have htk : takeI (L.put I).I [n] = (0, I) := by
        rw [takeI_cons, if_neg (show ¬ mayB (L.put I).I n = true from hmay)]
      have htv : (if (takeI (L.put I).I [n]).1 = [n].length then (0 : Int) else 260) = 260 := by rw [htk]; rfl
      have ok3 : I.ok (1 + 3 * ((k + 1 : Nat) : Int)) := by
        have e : 1 + 3 * ((k + 1 : Nat) : Int) = 1 + 3 * (k : Int) + 1 + 1 + 1 := by omega
        rw [e]; exact ok.mono.mono.mono
      refine walk ?_
      refine s_buildSlice (cs := nv n) rfl ?_ rfl ?_
      · kernel_rfl
      intro bn
      refine walk ?_
      refine s_call rfl (iTake (x := x) (L := L.put I) (l := [n]) (s := .slice (some ⟨bn, 0, none⟩) 1 1) (Rd.ent (G := blk bn (nv n) 59) (Rd.blk0 (e := 59) rfl (by simp [maxLen])) InH.ent) okL (by simp only [List.length_cons, List.length_nil]; omega)) rfl ?_
      rintro _ _ ⟨rfl, rfl⟩
      rw [htv, htk]
      refine walk ?_
      refine s_call rfl (keeps_c (x := x) (L := L.put I) (cnt := cnt) (sc := .slice (some ⟨b6, 0, none⟩) 4 4) hIc okL (by omega) inv (Rd.ent (G := blk b6 (zs cnt) 3) (Rd.blk0 (e := 3) (by rw [zs_length]; exact inv.cl) (by simp [maxLen])) InH.ent)) (by rfl) ?_
      rintro _ _ ⟨e_, rfl⟩
      obtain rfl := e_.symm
      refine walk ?_
      exact ⟨(k + 1, I, cnt), asided, agreed, Ent.auto, ⟨by omega, ok3, inv, hIc⟩, by simp only; omega⟩
  · refine walk ?_
    refine s_call rfl (keeps_c (x := x) (L := L.put I) (cnt := cnt) (sc := .slice (some ⟨b6, 0, none⟩) 4 4) hIc okL (by omega) inv (Rd.ent (G := blk b6 (zs cnt) 3) (Rd.blk0 (e := 3) (by rw [zs_length]; exact inv.cl) (by simp [maxLen])) InH.ent)) (by rfl) ?_
    rintro _ _ ⟨e_, rfl⟩
    obtain rfl := e_.symm
    refine walk ?_
    refine s_call rfl (works_spec) rfl ?_
    rintro _ _ ⟨e_, rfl⟩
    obtain rfl := e_.symm
    refine walk ?_
    (first | (apply retRD1 (G := H) (.inr rfl) rfl; (· first | (refine rv_tmp (v := .bool _) rfl) | exact rv_tmp rfl); (· exact Ent.auto)) | (apply retRD1 (G := H) (.inl rfl) rfl; (· first | (refine rv_tmp (v := .bool _) rfl) | exact rv_tmp rfl); (· exact Ent.auto)))
    exact ⟨Ent.refl _, rfl⟩
end
end Go.Proofs.YtlhnmbajbhaaoaaGreat
namespace Go.Proofs.YtlhnmbajbhaaoaaGreat
open Go Go.SL
set_option linter.unusedSimpArgs false
set_option linter.unusedVariables false
set_option maxHeartbeats 2000000
def SimM (m m' : Mc) : Prop := m.a = m'.a ∧ m.p = m'.p ∧ m.g = m'.g ∧ (m.a = 3 → m.b = m'.b)
def SimL (l l' : List Mc) : Prop := l.length = l'.length ∧ ∀ (k : Nat) (m m' : Mc), l[k]? = some m → l'[k]? = some m' → SimM m m'
structure Sim (I J : Ide) : Prop where
  c : I.c = J.c
  tab : I.tab = J.tab
  sem : I.sem = J.sem
  ms : SimL I.ms J.ms
  ps : I.ps = J.ps
  many : I.many = J.many
theorem SimL.mod {l l' : List Mc} (h : SimL l l') {k : Nat} {f : Mc → Mc} (hf : ∀ m m', SimM m m' → SimM (f m) (f m')) : SimL (l.modify k f) (l'.modify k f) := by
  refine ⟨by rw [List.length_modify, List.length_modify]; exact h.1, fun j m m' hm hm' => ?_⟩
  rcases mod_get hm with ⟨rfl, x, hx, rfl⟩ | ⟨hne, hx⟩
  · rcases mod_get hm' with ⟨_, x', hx', rfl⟩ | ⟨hne', _⟩
    · exact hf _ _ (h.2 _ _ _ hx hx')
    · exact absurd rfl hne'
  · rcases mod_get hm' with ⟨e, _⟩ | ⟨_, hx'⟩
    · exact absurd e hne
    · exact h.2 _ _ _ hx hx'
theorem SimL.callers {l l' : List Mc} (h : SimL l l') : l.countP (fun m => decide (m.a = 3)) = l'.countP (fun m => decide (m.a = 3)) := by
  obtain ⟨hl, h⟩ := h
  induction l generalizing l' with
  | nil => cases l' with
    | nil => rfl
    | cons y t => simp at hl
  | cons x l ih => cases l' with
    | nil => simp at hl
    | cons y t =>
      have e := (h 0 x y rfl rfl).1
      have := ih (l' := t) (by simpa using hl) fun k m m' hm hm' => h (k + 1) m m' (by rw [List.getElem?_cons_succ]; exact hm) (by rw [List.getElem?_cons_succ]; exact hm')
      rw [List.countP_cons, List.countP_cons, this, e]
section
variable {I J : Ide} {n : Nt} {m p : Int}
theorem Sim.mAt (h : Sim I J) (m : Int) : SimM (I.mAt m) (J.mAt m) := by
  unfold Ide.mAt
  obtain ⟨hl, hm⟩ := h.ms
  by_cases hk : m.toNat < I.ms.length
  · rw [List.getElem?_eq_getElem hk, List.getElem?_eq_getElem (show m.toNat < J.ms.length by omega)]
    exact hm m.toNat _ _ (List.getElem?_eq_getElem hk) (List.getElem?_eq_getElem (by omega))
  · rw [List.getElem?_eq_none (by omega), List.getElem?_eq_none (by omega)]
    exact ⟨rfl, rfl, rfl, fun _ => rfl⟩
theorem Sim.pAt (h : Sim I J) (p : Int) : I.pAt p = J.pAt p := by unfold Ide.pAt; rw [h.ps]
theorem Sim.kept (h : Sim I J) (p : Int) : I.kept p = J.kept p := by
  unfold Ide.kept
  rw [h.pAt, (h.mAt _).1]
theorem Sim.may (h : Sim I J) : mayB I n = mayB J n := by
  obtain ⟨a, b, c, d⟩ := h.mAt n.m
  have e1 : runsB I n = runsB J n := by unfold runsB; rw [a, b, c]
  have e2 : searchesB I n = searchesB J n := by unfold searchesB; rw [a, b, c]
  have e3 : callsB I n = callsB J n := by unfold callsB; rw [a, c]
  have e4 : I.stat n.g = J.stat n.g := by unfold Ide.stat; rw [h.tab]
  have e5 : I.count n.x = J.count n.x := by unfold Ide.count; rw [h.sem]
  have e6 : ∀ y, I.first n.x y = J.first n.x y := fun y => by unfold Ide.first; rw [h.sem]
  have e7 : I.callers = J.callers := h.ms.callers
  have e8 : (callsB J n && (decide ((I.mAt n.m).b = n.p) && J.kept n.p)) = (callsB J n && (decide ((J.mAt n.m).b = n.p) && J.kept n.p)) := by
    cases hc : callsB J n with
    | false => rfl
    | true =>
      rw [← e3] at hc
      simp only [callsB, Bool.and_eq_true, decide_eq_true_eq] at hc
      rw [d hc.1]
  unfold mayB mayK
  rw [h.c, e1, e2, e3, e4, e5, e6, e6, e7, h.kept, h.pAt, h.tab, a, b, c, e8]
theorem SimM.has {m m' : Mc} (h : SimM m m') {a p g : Int} (ha : a ≠ 3) : SimM { m with a := a, p := p, g := g } { m' with a := a, p := p, g := g } := ⟨rfl, rfl, rfl, fun e => absurd e ha⟩
theorem SimM.drop {m m' : Mc} (h : SimM m m') : SimM { m with p := -1 } { m' with p := -1 } := ⟨h.1, rfl, h.2.2.1, h.2.2.2⟩
theorem Sim.hasS (h : Sim I J) {m p a g : Int} (ha : a ≠ 3) : Sim (I.has m p a g) (J.has m p a g) :=
  ⟨h.c, h.tab, h.sem, h.ms.mod fun _ _ k => k.has ha, by show (if 0 ≤ p then I.ps.set p.toNat m else I.ps) = (if 0 ≤ p then J.ps.set p.toNat m else J.ps); rw [h.ps], h.many⟩
theorem Sim.tsetS (h : Sim I J) {g s : Int} : Sim (I.tset g s) (J.tset g s) := ⟨h.c, by show (I.tab.set g s).2 = (J.tab.set g s).2; rw [h.tab], h.sem, h.ms, h.ps, h.many⟩
theorem Sim.leavesS (h : Sim I J) {m : Int} : Sim (I.leaves m) (J.leaves m) := ⟨h.c, h.tab, h.sem, h.ms.mod fun _ _ k => k.has (by decide), h.ps, h.many⟩
theorem Sim.dropsS (h : Sim I J) {p : Int} : Sim (I.drops p) (J.drops p) := ⟨h.c, h.tab, h.sem, by show SimL (I.ms.modify (I.pAt p).toNat _) (J.ms.modify (J.pAt p).toNat _); rw [h.pAt]; exact h.ms.mod fun _ _ k => k.drop, h.ps, h.many⟩
theorem Sim.psetS (h : Sim I J) {p v : Int} : Sim (I.pset p v) (J.pset p v) := ⟨h.c, h.tab, h.sem, h.ms, by show I.ps.set p.toNat v = J.ps.set p.toNat v; rw [h.ps], h.many⟩
theorem Sim.semS (h : Sim I J) {S : SemS} : Sim { I with sem := S } { J with sem := S } := ⟨h.c, h.tab, rfl, h.ms, h.ps, h.many⟩
theorem Sim.ite {p : Prop} [Decidable p] {A A' D D' : Ide} (h1 : Sim A A') (h2 : Sim D D') : Sim (if p then A else D) (if p then A' else D') := by
  split
  · exact h1
  · exact h2
theorem SimL.call {l l' : List Mc} (h : SimL l l') {k : Nat} {p g b : Int} : SimL ((l.modify k fun x => { x with a := 3, p := p, g := g }).modify k fun x => { x with b := b }) ((l'.modify k fun x => { x with a := 3, p := p, g := g }).modify k fun x => { x with b := b }) := by
  have e : ∀ l : List Mc, (l.modify k fun x => { x with a := 3, p := p, g := g }).modify k (fun x => { x with b := b }) = l.modify k fun x => { x with a := 3, p := p, g := g, b := b } := by
    intro l
    apply List.ext_getElem?
    intro j
    simp only [List.getElem?_modify]
    cases l[j]? with
    | none => rfl
    | some y => simp only [Option.map_eq_map, Option.map_some]; split <;> rfl
  rw [e, e]
  exact h.mod fun _ _ _ => ⟨rfl, rfl, rfl, fun _ => rfl⟩
theorem Sim.doS (h : Sim I J) : Sim (doK I n) (doK J n) := by
  unfold doK
  refine Sim.ite ⟨h.c, by show I.tab.make.2.2 = J.tab.make.2.2; rw [h.tab], h.sem, h.ms, h.ps, h.many⟩ (Sim.ite (h.tsetS.hasS (by decide)) (Sim.ite (h.tsetS.hasS (by decide)) (Sim.ite ?_ (Sim.ite ?_ (Sim.ite ?_ (Sim.ite ?_ (Sim.ite (h.tsetS.hasS (by decide)) (Sim.ite ?_ (Sim.ite ?_ (Sim.ite h.tsetS.leavesS (Sim.ite (h.hasS (by decide)) (Sim.ite h.leavesS.psetS (Sim.ite h.dropsS.psetS h)))))))))))))
  · rw [h.sem]; exact h.semS
  · rw [h.sem]; exact h.semS.tsetS.hasS (by decide)
  · rw [h.sem]; exact h.semS
  · rw [h.sem]; exact h.semS.tsetS
  · have h2 : Sim (I.tset n.g 4) (J.tset n.g 4) := h.tsetS
    exact ⟨h2.c, h2.tab, h2.sem, h2.ms.call, by show (if 0 ≤ n.p then I.ps.set n.p.toNat n.m else I.ps) = (if 0 ≤ n.p then J.ps.set n.p.toNat n.m else J.ps); rw [h.ps], h2.many⟩
  · exact (Sim.tsetS (Sim.ite h.dropsS h)).hasS (by decide)
theorem Sim.step (h : Sim I J) : Sim (stepI I n) (stepI J n) := by
  have d : Sim (doK I n) (doK J n) := h.doS
  exact ⟨d.c, d.tab, d.sem, d.ms, d.ps, by show (doK I n).many + 1 = (doK J n).many + 1; rw [d.many]⟩
theorem Sim.ok (h : Sim I J) {K : Int} (ok : I.ok K) : J.ok K := by
  obtain ⟨h1, h2, h3, h4, h5, h6⟩ := h
  obtain ⟨o1, o2, o3, o4, o5, o6, o7, o8, o9⟩ := ok
  have hl := h4.1
  exact ⟨h1 ▸ o1, by rw [← h1, ← hl]; exact o2, by rw [← h1, ← h5]; exact o3, by rw [← h1, ← h5]; exact o4, by rw [← h2]; exact o5, by rw [← h2, ← h1]; exact o6, by rw [← h3]; exact o7, by rw [← h3]; exact o8, by rw [← h6]; exact o9⟩
theorem SimL.at (h : SimL I.ms J.ms) {k : Nat} {m' : Mc} (hk : J.ms[k]? = some m') : ∃ m, I.ms[k]? = some m ∧ SimM m m' := by
  have hl := (List.getElem?_eq_some_iff.1 hk).1
  have hl2 : k < I.ms.length := by rw [h.1]; exact hl
  exact ⟨_, List.getElem?_eq_getElem hl2, h.2 k _ _ (List.getElem?_eq_getElem hl2) hk⟩
theorem SimL.tallies (h : SimL I.ms J.ms) (P : Int → Int → Bool) : I.ms.countP (fun m => P m.a m.g) = J.ms.countP (fun m => P m.a m.g) := by
  obtain ⟨hl, h⟩ := h
  generalize I.ms = l at *
  generalize J.ms = l' at *
  induction l generalizing l' with
  | nil => cases l' with
    | nil => rfl
    | cons y t => simp at hl
  | cons x l ih => cases l' with
    | nil => simp at hl
    | cons y t =>
      obtain ⟨e1, _, e2, _⟩ := h 0 x y rfl rfl
      have := ih (l' := t) (by simpa using hl) fun k m m' hm hm' => h (k + 1) m m' (by rw [List.getElem?_cons_succ]; exact hm) (by rw [List.getElem?_cons_succ]; exact hm')
      rw [List.countP_cons, List.countP_cons, this, e1, e2]
theorem Sim.inv (h : Sim I J) {cnt : List Int} (v : Inv I cnt) : Inv J cnt := by
  have hst : ∀ g, J.stat g = I.stat g := fun g => by unfold Ide.stat; rw [h.tab]
  refine ⟨⟨fun k m' hk => ?_, fun p w hp => ?_⟩, fun g g0 g1 => ?_, ?_, by rw [← h.tab]; exact v.nd, ?_, v.cl, ?_⟩
  · obtain ⟨m, hm, e1, e2, e3, e4⟩ := h.ms.at hk
    obtain ⟨mi, mp⟩ := v.pp.mi k m hm
    rw [← h.c, ← h.ps]
    refine ⟨⟨by rw [← e1]; exact mi.a, by rw [← e2]; exact mi.p, by rw [← e3]; exact mi.g, by rw [← e1, ← e3]; exact mi.ga, by rw [← e1, ← e2]; exact mi.rest, by rw [← e1, ← e2]; exact mi.on, fun ha h0 => ?_⟩, by rw [← e2]; exact mp⟩
    rw [← e1] at ha
    rw [← e2, ← e4 ha]
    exact mi.began ha (by rw [e2]; exact h0)
  · rw [← h.ps] at hp
    rcases v.pp.pi p w hp with e | e | ⟨w0, m, hm, he⟩
    · exact .inl e
    · exact .inr (.inl e)
    · have hl2 : w.toNat < J.ms.length := by rw [← h.ms.1]; exact (List.getElem?_eq_some_iff.1 hm).1
      refine .inr (.inr ⟨w0, _, List.getElem?_eq_getElem hl2, ?_⟩)
      rw [← (h.ms.2 _ _ _ hm (List.getElem?_eq_getElem hl2)).2.1]
      exact he
  · rw [← h.c] at g1
    obtain ⟨d1, d2, d3⟩ := v.st g g0 g1
    rw [hst, ← h.sem]
    exact ⟨(h.ms.tallies fun a b => decide (a = 2) && decide (b = g)).symm.trans d1, (h.ms.tallies fun a b => decide (a = 3) && decide (b = g)).symm.trans d2, d3⟩
  · intro g hg
    rw [hst]
    exact v.row g (by rw [h.tab]; exact hg)
  · rw [← h.sem, ← h.c]; exact v.se
  · have := h.ms.callers
    have hca := v.ca
    unfold Ide.callers at hca ⊢
    rw [← this, ← h.c]; exact hca
end
def restR : Mc := ⟨0, -1, -1, -1⟩
def newJ0 (c : Cfg) : Ide := { newI0 c with ms := List.replicate c.m.toNat restR }
/-- The reference's system at first. -/
def newJ (c : Cfg) : Ide := (newJ0 c).has 0 0 1 (-1)
theorem sim_new (c : Cfg) : Sim (newI c) (newJ c) := by
  have h : Sim (newI0 c) (newJ0 c) := by
    refine ⟨rfl, rfl, rfl, ⟨?_, fun k m m' hm hm' => ?_⟩, rfl, rfl⟩
    · show (List.replicate c.m.toNat restM).length = (List.replicate c.m.toNat restR).length
      rw [List.length_replicate, List.length_replicate]
    · have e1 : m = restM := List.eq_of_mem_replicate (List.mem_of_getElem? hm)
      have e2 : m' = restR := List.eq_of_mem_replicate (List.mem_of_getElem? hm')
      rw [e1, e2]
      exact ⟨rfl, rfl, rfl, fun e => by simp [restM] at e⟩
  exact h.hasS (by decide)
end Go.Proofs.YtlhnmbajbhaaoaaGreat
namespace Go.Proofs.YtlhnmbajbhaaoaaGreat
open Go Go.SL
set_option linter.unusedSimpArgs false
set_option linter.unusedVariables false
set_option maxHeartbeats 4000000
section
variable {I J : Ide} {K : Int} {cnt : List Int}
theorem takeI_inv : ∀ (l : List Nt) {I : Ide} {K : Int} {cnt : List Int}, Inv I cnt → I.ok K → ∃ cnt', Inv (takeI I l).2 cnt'
  | [], I, K, cnt, h, ok => ⟨cnt, h⟩
  | n :: l, I, K, cnt, h, ok => by
    rw [takeI_cons]
    by_cases hm : mayB I n = true
    · rw [if_pos hm]
      exact takeI_inv l (inv_step h ok hm) (ok.step hm)
    · rw [if_neg hm]; exact ⟨cnt, h⟩
theorem takeI_c : ∀ (l : List Nt) {I : Ide}, (takeI I l).2.c = I.c
  | [], I => rfl
  | n :: l, I => by
    rw [takeI_cons]
    by_cases hm : mayB I n = true
    · rw [if_pos hm]; show (takeI (stepI I n) l).2.c = _; rw [takeI_c l, stepI_c]
    · rw [if_neg hm]
theorem takeI_sim : ∀ (l : List Nt) {I J : Ide}, Sim I J → (takeI I l).1 = (takeI J l).1 ∧ Sim (takeI I l).2 (takeI J l).2
  | [], I, J, h => ⟨rfl, h⟩
  | n :: l, I, J, h => by
    rw [takeI_cons, takeI_cons, h.may]
    by_cases hm : mayB J n = true
    · rw [if_pos hm, if_pos hm]
      obtain ⟨h1, h2⟩ := takeI_sim l (h.step (n := n))
      exact ⟨by rw [h1], h2⟩
    · rw [if_neg hm, if_neg hm]; exact ⟨rfl, h⟩
/-- A P answers less than -2 only where there is none. -/
theorem inv_p {p : Int} (h : Inv I cnt) (hp : 0 ≤ p ∧ p < I.ps.length) : -3 < I.pAt p := by
  obtain ⟨k, v, rfl, hk, hA⟩ := pGet hp
  rw [hA]
  rcases h.pp.pi k v hk with e | e | ⟨e, _⟩ <;> omega
end
end Go.Proofs.YtlhnmbajbhaaoaaGreat
namespace Go.Proofs.YtlhnmbajbhaaoaaGreat
open Go Go.SL
set_option linter.unusedSimpArgs false
set_option linter.unusedVariables false
set_option maxRecDepth 10000
attribute [local irreducible] WP WPL QSeq QBlk QRet Does Cell Cells Rd Mine Ent Aside RV TabX TabAt

def Tab.st (T : Tab) : List Int := T.all.map (·.1)
def Tab.bn (T : Tab) : List Int := T.all.map (·.2)
theorem Mine.nil_add (H : HProp) : H = Mine 3 1 (.slice none 0 0) 0 [] + H := by rw [Mine.nil, HProp.emp_add]
/-- A value that reads as a table. -/
def RefV (B : World) (H : HProp) (r : Value) (T : Tab) : Prop :=
  ∃ s1 s2 s3, r = .agg [s1, s2, s3].toArray ∧ Rd B H 1 s1 T.all.length (zs T.st) ∧ Rd B H 1 s2 T.all.length (zs T.bn) ∧ Rd B H 1 s3 T.row.length (zs T.row)
theorem RefV.ent {B : World} {H G : HProp} {r : Value} {T : Tab} (h : RefV B G r T) (e : Ent H G) : RefV B H r T :=
  let ⟨s1, s2, s3, h0, h1, h2, h3⟩ := h
  ⟨s1, s2, s3, h0, h1.ent e, h2.ent e, h3.ent e⟩
section
variable {B : World} {F H : HProp} {p : Nat} {T : Tab}

theorem copied_spec {r : Value} (hr : RefV B H r T) (h1 : T.all.length ≤ 1000000) (h2 : T.row.length ≤ 1000000) : Does Tryz.prog B 61 [r] H fun r' H' => ∃ a1 c1 a2 c2 a3 c3,
    r' = .agg [.slice a1 T.all.length c1, .slice a2 T.all.length c2, .slice a3 T.row.length c3].toArray ∧
    Ent H' (Mine 3 1 (.slice a1 T.all.length c1) T.all.length (zs T.st) + (Mine 3 1 (.slice a2 T.all.length c2) T.all.length (zs T.bn) + (Mine 3 1 (.slice a3 T.row.length c3) T.row.length (zs T.row) + H))) := by
  obtain ⟨s1, s2, s3, rfl, r1, r2, r3⟩ := hr
  have r1' := r1
  have r2' := r2
  have r3' := r3
  unfold Rd at r1' r2' r3'
  obtain ⟨o1, k1, rfl, _⟩ := r1'
  obtain ⟨o2, k2, rfl, _⟩ := r2'
  obtain ⟨o3, k3, rfl, _⟩ := r3'
  refine fn_intro 23 Tryz.func61 rfl rfl rfl ?_
  refine walk ?_
  refine s_box rfl rfl rfl ?_
  intro b1
  refine s_alloc rfl ?_
  intro b2
  refine walk ?_
  refine s_alloc rfl ?_
  intro b3
  refine walk ?_
  refine WPL.ent (Ent.ac (Mine.nil_add _)) ?_
  refine s_append (v := .slice _ _ _) rfl rfl r1.sub (zs_one _) rfl ?_ rfl ?_
  · simp only [maxLen]; omega
  intro v'
  simp only [Nat.zero_add, List.nil_append]
  refine WPL.shape ?_
  rintro a1 c1 rfl _ _ _
  refine walk ?_
  refine s_store (v := .slice _ _ _) (cs' := [_, _, _]) rfl rfl rfl (by simp) rfl ?_
  refine walk ?_
  refine WPL.ent (Ent.ac (Mine.nil_add _)) ?_
  refine s_append (v := .slice _ _ _) rfl rfl r2.sub (zs_one _) rfl ?_ rfl ?_
  · simp only [maxLen]; omega
  intro v'
  simp only [Nat.zero_add, List.nil_append]
  refine WPL.shape ?_
  rintro a2 c2 rfl _ _ _
  refine walk ?_
  refine s_store (v := .slice _ _ _) (cs' := [_, _, _]) rfl rfl rfl (by simp) rfl ?_
  refine walk ?_
  refine WPL.ent (Ent.ac (Mine.nil_add _)) ?_
  refine s_append (v := .slice _ _ _) rfl rfl r3.sub (zs_one _) rfl ?_ rfl ?_
  · simp only [maxLen]; omega
  intro v'
  simp only [Nat.zero_add, List.nil_append]
  refine WPL.shape ?_
  rintro a3 c3 rfl _ _ _
  refine walk ?_
  refine s_store (v := .slice _ _ _) (cs' := [_, _, _]) rfl rfl rfl (by simp) rfl ?_
  refine walk ?_
  refine s_storeA (vs := [.slice a1 _ c1, .slice a2 _ c2, .slice a3 _ c3]) rfl rfl rfl rfl (Nat.le_refl _) rfl ?_
  refine walk ?_
  refine retR1 (.inr rfl) rfl (rv_cellA rfl Cells.blk0 rfl) ⟨a1, c1, a2, c2, a3, c3, rfl, ?_⟩
  refine Ent.step (A := Mine 3 1 (.slice a1 T.all.length c1) T.all.length (zs T.st)) (Ent.refl _) ?_
  refine Ent.step (A := Mine 3 1 (.slice a2 T.all.length c2) T.all.length (zs T.bn)) (Ent.refl _) ?_
  refine Ent.step (A := Mine 3 1 (.slice a3 T.row.length c3) T.row.length (zs T.row)) (Ent.refl _) ?_
  exact InH.ent

theorem refMay_spec {a x : Int} : Does Tryz.prog B 110 [.int .i64 a, .int .i64 x] H fun r H' => H = H' ∧ r = .bool (may a x) := by
  refine fn_intro 38 Tryz.func110 rfl rfl rfl ?_
  by_cases h1 : a = 1
  · subst h1
    by_cases h : x = 2
    · refine walk ?_
      exact ret1 (v := .bool _) (.inr rfl) rfl rfl ⟨rfl, by simp [may, mayRows, h]⟩
    · refine walk ?_
      exact ret1 (v := .bool _) (.inr rfl) rfl rfl ⟨rfl, by simp [may, mayRows, h]⟩
  by_cases h2 : a = 2
  · subst h2
    by_cases x0 : x = 0
    · refine walk ?_
      exact ret1 (v := .bool _) (.inr rfl) rfl rfl ⟨rfl, by simp [may, mayRows, x0]⟩
    by_cases x1 : x = 1
    · refine walk ?_
      exact ret1 (v := .bool _) (.inr rfl) rfl rfl ⟨rfl, by simp [may, mayRows, x1]⟩
    by_cases x3 : x = 3
    · refine walk ?_
      exact ret1 (v := .bool _) (.inr rfl) rfl rfl ⟨rfl, by simp [may, mayRows, x3]⟩
    by_cases x4 : x = 4
    · refine walk ?_
      exact ret1 (v := .bool _) (.inr rfl) rfl rfl ⟨rfl, by simp [may, mayRows, x4]⟩
    · refine walk ?_
      exact ret1 (v := .bool _) (.inr rfl) rfl rfl ⟨rfl, by simp [may, mayRows, x0, x1, x3, x4]⟩
  by_cases h3 : a = 3
  · subst h3
    by_cases h : x = 1
    · refine walk ?_
      exact ret1 (v := .bool _) (.inr rfl) rfl rfl ⟨rfl, by simp [may, mayRows, h]⟩
    · refine walk ?_
      exact ret1 (v := .bool _) (.inr rfl) rfl rfl ⟨rfl, by simp [may, mayRows, h]⟩
  by_cases h4 : a = 4
  · subst h4
    by_cases x1 : x = 1
    · refine walk ?_
      exact ret1 (v := .bool _) (.inr rfl) rfl rfl ⟨rfl, by simp [may, mayRows, x1]⟩
    by_cases x2 : x = 2
    · refine walk ?_
      exact ret1 (v := .bool _) (.inr rfl) rfl rfl ⟨rfl, by simp [may, mayRows, x2]⟩
    · refine walk ?_
      exact ret1 (v := .bool _) (.inr rfl) rfl rfl ⟨rfl, by simp [may, mayRows, x1, x2]⟩
  · refine walk ?_
    exact ret1 (v := .bool _) (.inr rfl) rfl rfl ⟨rfl, by simp [may, mayRows, h1, h2, h3, h4]⟩
end
end Go.Proofs.YtlhnmbajbhaaoaaGreat
namespace Go.Proofs.YtlhnmbajbhaaoaaGreat
open Go Go.SL
set_option linter.unusedSimpArgs false
set_option linter.unusedVariables false
set_option maxRecDepth 10000
attribute [local irreducible] WP WPL QSeq QBlk QRet Does Cell Cells Rd Mine Ent Aside RV TabX TabAt

section
variable {B : World} {F H : HProp} {p : Nat} {T : Tab}

theorem st_set (T : Tab) (k : Nat) (x y : Int) (row : List Int) : (Tab.mk (T.all.set k (x, y)) row).st = T.st.set k x := by simp [Tab.st, List.map_set]
theorem bn_set (T : Tab) (k : Nat) (x y : Int) (row : List Int) : (Tab.mk (T.all.set k (x, y)) row).bn = T.bn.set k y := by simp [Tab.bn, List.map_set]
theorem set_same {α : Type} (l : List α) (k : Nat) (h : k < l.length) : l.set k l[k] = l := by simp
theorem refMake_none {r : Value} (hr : RefV B H r T) (h0 : T.row = []) : Does Tryz.prog B 37 [r] H fun v H' => Ent H' H ∧ v = .tuple #[r, .int .i64 (-1), .int .i64 130] := by
  obtain ⟨s1, s2, s3, rfl, r1, r2, r3⟩ := hr
  have r3' := r3
  unfold Rd at r3'
  obtain ⟨o3, k3, rfl, _⟩ := r3'
  have e0 : T.row.length = 0 := by simp [h0]
  refine fn_intro 35 Tryz.func37 rfl rfl rfl ?_
  refine walk ?_
  refine s_box rfl rfl rfl ?_
  intro b1
  refine s_alloc rfl ?_
  intro b2
  refine walk ?_
  refine s_storeA (vs := [s1, s2, .slice o3 T.row.length k3]) rfl rfl ?_ rfl (Nat.le_refl _) rfl ?_
  · unfold Rd at r1 r2
    obtain ⟨_, _, rfl, _⟩ := r1
    obtain ⟨_, _, rfl, _⟩ := r2
    rfl
  refine walk ?_
  refine retR3 (.inr rfl) rfl (rv_cellA rfl Cells.blk0 rfl) (rv_tmp rfl) (rv_tmp rfl) ⟨?_, rfl⟩
  exact InH.ent
theorem refMake_some {r : Value} {g : Nat} {rest : List Int} (hr : RefV B H r T) (h0 : T.row = (g : Int) :: rest) (hg : g < T.all.length) (h1 : T.all.length ≤ 1000000) (h2 : T.row.length ≤ 1000000)
    (hb : 0 ≤ T.all[g].2 ∧ T.all[g].2 < 4611686018427387904) : Does Tryz.prog B 37 [r] H fun v H' => ∃ X r', Ent H' (X + H) ∧ (∀ G, RefV B G r T → RefV B (X + G) r' ⟨T.all.set g (1, T.all[g].2 + 1), rest⟩) ∧ v = .tuple #[r', .int .i64 g, .int .i64 0] := by
  have hr0 := hr
  obtain ⟨s1, s2, s3, rfl, r1, r2, r3⟩ := hr
  have r3' := r3
  unfold Rd at r3'
  obtain ⟨o3, k3, rfl, _⟩ := r3'
  have e0 : T.row.length = rest.length + 1 := by simp [h0]
  have e1 : zs T.row = .int .i64 g :: zs rest := by simp [h0, zs]
  refine fn_intro 35 Tryz.func37 rfl rfl rfl ?_
  refine walk ?_
  refine s_box rfl rfl rfl ?_
  intro b1
  refine s_alloc rfl ?_
  intro b2
  refine walk ?_
  refine s_call rfl (copied_spec (H := blk b2 _ 31 + (blk b1 _ 31 + H)) (hr0.ent ((Ent.drop_left _ _).trans (Ent.drop_left _ _))) h1 h2) rfl ?_
  rintro _ H' ⟨a1, c1, a2, c2, a3, c3, rfl, he⟩
  refine WPL.ent he ?_
  refine WPL.shape fun _ _ hv _ l1 m1 => ?_
  cases hv
  refine WPL.open (by omega) ?_
  rintro g1 sp1 rfl hsp1
  refine WPL.split (Mine 3 1 (.slice a2 T.all.length c2) T.all.length (zs T.bn)) ?_
  refine WPL.shape fun _ _ hv _ l2 m2 => ?_
  cases hv
  refine WPL.open (by omega) ?_
  rintro g2 sp2 rfl hsp2
  refine WPL.split (Mine 3 1 (.slice a3 T.row.length c3) T.row.length (zs T.row)) ?_
  refine WPL.shape fun _ _ hv _ l3 m3 => ?_
  cases hv
  refine WPL.open (by omega) ?_
  rintro g3 sp3 rfl hsp3
  rw [e1] at hsp3 ⊢
  have t1 : T.st.length = T.all.length := by simp [Tab.st]
  have t2 : T.bn.length = T.all.length := by simp [Tab.bn]
  have hbg : (zs T.bn)[g]? = some (.int .i64 T.all[g].2) := by simp [zs, Tab.bn, hg]
  refine s_alloc rfl ?_
  intro b5
  refine walk ?_
  refine s_storeA (vs := [.slice _ _ _, .slice _ _ _, .slice _ _ _]) rfl rfl rfl rfl (Nat.le_refl _) rfl ?_
  refine walk ?_
  refine s_indexAddr (j := 0) rfl rfl rfl (by omega) (o' := 0) rfl rfl ?_
  refine walk ?_
  refine s_sliceL (l := 1) rfl rfl rfl (by omega) rfl ?_
  refine walk ?_
  refine s_store (v := .slice _ _ _) (cs' := [_, _, _]) rfl rfl rfl (by simp) rfl ?_
  refine walk ?_
  refine s_store (v := .int _ _) (cs' := zs (T.st.set g 1) ++ sp1) rfl rfl rfl (by simp [zs_length, t1]; omega) ?_ ?_
  · rw [List.set_append_left _ _ (by rw [zs_length]; omega), zs_set]
  have hbn : T.bn[g]'(by omega) = T.all[g].2 := by simp [Tab.bn]
  refine walk ?_
  refine s_store (v := .int _ _) (cs' := zs (T.bn.set g (T.all[g].2 + 1)) ++ sp2) rfl rfl rfl (by simp [zs_length, t2]; omega) ?_ ?_
  · rw [List.set_append_left _ _ (by rw [zs_length]; omega), ← hbn]; exact congrArg (· ++ sp2) (zs_set _ _ _)
  refine walk ?_
  refine s_storeA (vs := [.slice _ _ _, .slice _ _ _, .slice _ _ _]) rfl rfl rfl rfl (Nat.le_refl _) rfl ?_
  refine walk ?_
  refine retR3 (.inr rfl) rfl (rv_cellA rfl Cells.blk0 rfl) (rv_tmp rfl) (rv_tmp rfl) ⟨blk g1 (zs (T.st.set g 1) ++ sp1) 3 + (blk g2 (zs (T.bn.set g (T.all[g].2 + 1)) ++ sp2) 3 + blk g3 (.int .i64 g :: zs rest ++ sp3) 3), _, ?_, ?_, rfl⟩
  · refine Ent.trans ?_ (Ent.ac (show blk g1 (zs (T.st.set g 1) ++ sp1) 3 + (blk g2 (zs (T.bn.set g (T.all[g].2 + 1)) ++ sp2) 3 + (blk g3 (.int .i64 g :: zs rest ++ sp3) 3 + H)) = _ by ac_rfl))
    refine Ent.step (A := blk g1 (zs (T.st.set g 1) ++ sp1) 3) (Ent.refl _) ?_
    refine Ent.step (A := blk g2 (zs (T.bn.set g (T.all[g].2 + 1)) ++ sp2) 3) (Ent.refl _) ?_
    refine Ent.step (A := blk g3 (.int .i64 g :: zs rest ++ sp3) 3) (Ent.refl _) ?_
    exact InH.ent
  · intro G _
    refine ⟨_, _, _, rfl, ?_, ?_, ?_⟩
    · rw [st_set, List.length_set]
      exact (Rd.blkPre (H := blk g1 (zs (T.st.set g 1) ++ sp1) 3 + ((blk g2 (zs (T.bn.set g (T.all[g].2 + 1)) ++ sp2) 3 + blk g3 (.int .i64 g :: zs rest ++ sp3) 3) + G)) (by rw [zs_length, List.length_set, t1, Nat.mul_one]) (by simp only [maxLen]; omega)).ent (Ent.ac (by ac_rfl))
    · rw [bn_set, List.length_set]
      exact (Rd.blkPre (H := blk g2 (zs (T.bn.set g (T.all[g].2 + 1)) ++ sp2) 3 + (blk g1 (zs (T.st.set g 1) ++ sp1) 3 + blk g3 (.int .i64 g :: zs rest ++ sp3) 3 + G)) (by rw [zs_length, List.length_set, t2, Nat.mul_one]) (by simp only [maxLen]; omega)).ent (Ent.ac (by ac_rfl))
    · have e2 : T.row.length - 1 = rest.length := by omega
      show Rd B _ 1 (.slice (partAddr (some ⟨g3, 0, none⟩) c3 1 1) (T.row.length - 1) (c3 - 1)) rest.length (zs rest)
      rw [e2]
      by_cases hc : rest.length = 0
      · have : rest = [] := by simpa using hc
        subst this
        unfold Rd
        exact ⟨_, _, rfl, rfl, Nat.zero_le _, .inl rfl⟩
      · have hpa : partAddr (some ⟨g3, 0, none⟩) c3 1 1 = some ⟨g3, 1, none⟩ := by
          unfold partAddr
          rw [if_neg (by omega)]; rfl
        rw [hpa]
        refine (Rd.blk (o := 1) (H := blk g3 (.int .i64 g :: zs rest ++ sp3) 3 + (blk g1 (zs (T.st.set g 1) ++ sp1) 3 + blk g2 (zs (T.bn.set g (T.all[g].2 + 1)) ++ sp2) 3 + G)) (by rw [zs_length, Nat.mul_one]) (by simp only [maxLen]; omega) ?_).ent (Ent.ac (by ac_rfl))
        intro j v hj
        rw [show 1 + j = j + 1 by omega, List.cons_append, List.getElem?_cons_succ, List.getElem?_append_left (by have := (List.getElem?_eq_some_iff.1 hj).1; omega)]
        exact hj
end
end Go.Proofs.YtlhnmbajbhaaoaaGreat
namespace Go.Proofs.YtlhnmbajbhaaoaaGreat
open Go Go.SL
set_option linter.unusedSimpArgs false
set_option linter.unusedVariables false
set_option maxRecDepth 10000
attribute [local irreducible] WP WPL QSeq QBlk QRet Does Cell Cells Rd Mine Ent Aside RV TabX TabAt

section
variable {B : World} {F H : HProp} {p : Nat} {T : Tab}
theorem bn_same {g : Nat} (hg : g < T.all.length) : T.bn.set g T.all[g].2 = T.bn := by
  have t2 : T.bn.length = T.all.length := by simp [Tab.bn]
  have : T.all[g].2 = T.bn[g]'(by omega) := by simp [Tab.bn]
  rw [this]; exact set_same _ _ _
theorem refSet_out {r : Value} {g x : Int} (hr : RefV B H r T) (hg : ¬ (0 ≤ g ∧ g < T.all.length)) : Does Tryz.prog B 56 [r, .int .i64 g, .int .i64 x] H fun v H' => Ent H' H ∧ v = .tuple #[r, .int .i64 5] := by
  obtain ⟨s1, s2, s3, rfl, r1, r2, r3⟩ := hr
  unfold Rd at r1 r2 r3
  obtain ⟨o1, k1, rfl, _⟩ := r1
  obtain ⟨o2, k2, rfl, _⟩ := r2
  obtain ⟨o3, k3, rfl, _⟩ := r3
  refine fn_intro 46 Tryz.func56 rfl rfl rfl ?_
  refine walk ?_
  refine s_box rfl rfl rfl ?_
  intro b1
  refine s_alloc rfl ?_
  intro b2
  by_cases h0 : g < 0
  · refine walk ?_
    refine s_storeA (vs := [.slice _ _ _, .slice _ _ _, .slice _ _ _]) rfl rfl rfl rfl (Nat.le_refl _) rfl ?_
    refine walk ?_
    refine retR2 (.inr rfl) rfl (rv_cellA rfl Cells.blk0 rfl) (rv_tmp rfl) ⟨?_, rfl⟩
    exact InH.ent
  · refine walk ?_
    refine s_storeA (vs := [.slice _ _ _, .slice _ _ _, .slice _ _ _]) rfl rfl rfl rfl (Nat.le_refl _) rfl ?_
    refine walk ?_
    refine retR2 (.inr rfl) rfl (rv_cellA rfl Cells.blk0 rfl) (rv_tmp rfl) ⟨?_, rfl⟩
    exact InH.ent
theorem refSet_in {r : Value} {g : Nat} {x : Int} (hr : RefV B H r T) (hg : g < T.all.length) (h1 : T.all.length ≤ 1000000) (h2 : T.row.length ≤ 1000000) :
    Does Tryz.prog B 56 [r, .int .i64 g, .int .i64 x] H fun v H' => ∃ X r', Ent H' (X + H) ∧ (∀ G, RefV B G r T → RefV B (X + G) r' (T.set g x).2) ∧ v = .tuple #[r', .int .i64 (T.set g x).1] := by
  have hset : T.set g x = if may T.all[g].1 x then (0, ⟨T.all.set g (x, T.all[g].2), if x = 0 then (g : Int) :: T.row else T.row⟩) else (4, T) := by
    unfold Tab.set
    rw [if_pos (by omega)]
    simp [hg]
  have hr0 := hr
  obtain ⟨s1, s2, s3, rfl, r1, r2, r3⟩ := hr
  unfold Rd at r1 r2 r3
  obtain ⟨o1, k1, rfl, l1, _, a1⟩ := r1
  obtain ⟨o2, k2, rfl, _⟩ := r2
  obtain ⟨o3, k3, rfl, _⟩ := r3
  obtain ⟨ba, oa, rfl, hcs⟩ := Rd.addr l1 a1 hg
  have t1 : T.st.length = T.all.length := by simp [Tab.st]
  have hcell := hcs.cell (show (zs T.st)[g]? = some (.int .i64 T.all[g].1) by simp [zs, Tab.st, hg])
  refine fn_intro 46 Tryz.func56 rfl rfl rfl ?_
  refine walk ?_
  refine s_box rfl rfl rfl ?_
  intro b1
  refine s_alloc rfl ?_
  intro b2
  refine walk ?_
  refine s_call rfl refMay_spec rfl ?_
  rintro _ _ ⟨rfl, rfl⟩
  cases hm : may T.all[g].1 x with
  | false =>
    rw [hm] at hset
    refine walk ?_
    refine s_storeA (vs := [.slice _ _ _, .slice _ _ _, .slice _ _ _]) rfl rfl rfl rfl (Nat.le_refl _) rfl ?_
    refine walk ?_
    refine retR2 (.inr rfl) rfl (rv_cellA rfl Cells.blk0 rfl) (rv_tmp rfl) ⟨emp, .agg [.slice (some ⟨ba, oa, none⟩) T.all.length k1, .slice o2 T.all.length k2, .slice o3 T.row.length k3].toArray, ?_, ?_, ?_⟩
    · rw [HProp.emp_add]; exact InH.ent
    · intro G hG
      rw [HProp.emp_add, hset]; exact hG
    · rw [hset]; rfl
  | true =>
    rw [hm, if_pos rfl] at hset
    refine walk ?_
    refine s_call rfl (copied_spec (H := blk b2 _ 31 + (blk b1 _ 31 + H)) (hr0.ent ((Ent.drop_left _ _).trans (Ent.drop_left _ _))) h1 h2) rfl ?_
    rintro _ H' ⟨a1, c1, a2, c2, a3, c3, rfl, he⟩
    refine WPL.ent he ?_
    refine WPL.shape fun _ _ hv _ l1 m1 => ?_
    cases hv
    refine WPL.open (by omega) ?_
    rintro g1 sp1 rfl hsp1
    refine WPL.split (Mine 3 1 (.slice a2 T.all.length c2) T.all.length (zs T.bn)) ?_
    refine WPL.rd fun rd2 => ?_
    refine WPL.split (Mine 3 1 (.slice a3 T.row.length c3) T.row.length (zs T.row)) ?_
    refine WPL.rd fun rd3 => ?_
    refine s_alloc rfl ?_
    intro b5
    refine walk ?_
    refine s_storeA (vs := [.slice _ _ _, .slice _ _ _, .slice _ _ _]) rfl rfl rfl rfl (Nat.le_refl _) rfl ?_
    refine walk ?_
    refine s_store (v := .int _ _) (cs' := zs (T.st.set g x) ++ sp1) rfl rfl rfl (by simp [zs_length, t1]; omega) ?_ ?_
    · rw [List.set_append_left _ _ (by rw [zs_length]; omega), zs_set]
    by_cases hx : x = 0
    · subst hx
      refine walk ?_
      refine s_buildInts (cs := [.int _ _]) rfl rfl rfl rfl rfl ?_
      intro nb
      refine walk ?_
      refine WPL.ent ((Mine.of_blk (sz := 1) (n := 1) (cap := 1) (cs := [.int .i64 g]) (spare := []) rfl rfl (Nat.le_refl _) (by simp [maxLen]) rfl).frame_right _) ?_
      refine s_append (v := .slice _ _ _) rfl rfl rd3.sub (zs_one _) rfl ?_ rfl ?_
      · simp only [maxLen]; omega
      intro v'
      refine WPL.rd fun rd4 => ?_
      refine WPL.shape ?_
      rintro a4 c4 rfl _ _ _
      refine walk ?_
      refine s_store (v := .slice _ _ _) (cs' := [_, _, _]) rfl rfl rfl (by simp) rfl ?_
      refine walk ?_
      refine s_storeA (vs := [.slice _ _ _, .slice _ _ _, .slice _ _ _]) rfl rfl rfl rfl (Nat.le_refl _) rfl ?_
      refine walk ?_
      refine retR2 (.inr rfl) rfl (rv_cellA rfl Cells.blk0 rfl) (rv_tmp rfl) ⟨blk g1 (zs (T.st.set g 0) ++ sp1) 3 + (Mine 3 1 (.slice a2 T.all.length c2) T.all.length (zs T.bn) + Mine 3 1 (.slice a4 (1 + T.row.length) c4) (1 + T.row.length) ([.int .i64 g] ++ zs T.row)), .agg [.slice (some ⟨g1, 0, none⟩) T.all.length c1, .slice a2 T.all.length c2, .slice a4 (1 + T.row.length) c4].toArray, ?_, ?_, by rw [hset]; rfl⟩
      · refine Ent.trans ?_ (Ent.ac (show blk g1 (zs (T.st.set g 0) ++ sp1) 3 + (Mine 3 1 (.slice a2 T.all.length c2) T.all.length (zs T.bn) + (Mine 3 1 (.slice a4 (1 + T.row.length) c4) (1 + T.row.length) ([.int .i64 g] ++ zs T.row) + H)) = _ by ac_rfl))
        refine Ent.step (A := blk g1 (zs (T.st.set g 0) ++ sp1) 3) (Ent.refl _) ?_
        refine Ent.step (A := Mine 3 1 (.slice a2 T.all.length c2) T.all.length (zs T.bn)) (Ent.refl _) ?_
        refine Ent.step (A := Mine 3 1 (.slice a4 (1 + T.row.length) c4) (1 + T.row.length) ([.int .i64 g] ++ zs T.row)) (Ent.refl _) ?_
        exact InH.ent
      · intro G _
        rw [hset]
        refine ⟨_, _, _, rfl, ?_, ?_, ?_⟩
        · rw [st_set, List.length_set]
          exact (Rd.blkPre (H := blk g1 (zs (T.st.set g 0) ++ sp1) 3 + emp) (by rw [zs_length, List.length_set, t1, Nat.mul_one]) (by simp only [maxLen]; omega)).ent (by rw [HProp.add_emp]; exact InH.ent)
        · rw [bn_set, List.length_set, bn_same hg]
          exact rd2.ent InH.ent
        · simp only [if_pos, List.length_cons]
          rw [Nat.add_comm T.row.length 1]
          exact rd4.ent InH.ent
    · refine walk ?_
      refine s_storeA (vs := [.slice _ _ _, .slice _ _ _, .slice _ _ _]) rfl rfl rfl rfl (Nat.le_refl _) rfl ?_
      refine walk ?_
      refine retR2 (.inr rfl) rfl (rv_cellA rfl Cells.blk0 rfl) (rv_tmp rfl) ⟨blk g1 (zs (T.st.set g x) ++ sp1) 3 + (Mine 3 1 (.slice a2 T.all.length c2) T.all.length (zs T.bn) + Mine 3 1 (.slice a3 T.row.length c3) T.row.length (zs T.row)), .agg [.slice (some ⟨g1, 0, none⟩) T.all.length c1, .slice a2 T.all.length c2, .slice a3 T.row.length c3].toArray, ?_, ?_, by rw [hset]; rfl⟩
      · refine Ent.trans ?_ (Ent.ac (show blk g1 (zs (T.st.set g x) ++ sp1) 3 + (Mine 3 1 (.slice a2 T.all.length c2) T.all.length (zs T.bn) + (Mine 3 1 (.slice a3 T.row.length c3) T.row.length (zs T.row) + H)) = _ by ac_rfl))
        refine Ent.step (A := blk g1 (zs (T.st.set g x) ++ sp1) 3) (Ent.refl _) ?_
        refine Ent.step (A := Mine 3 1 (.slice a2 T.all.length c2) T.all.length (zs T.bn)) (Ent.refl _) ?_
        refine Ent.step (A := Mine 3 1 (.slice a3 T.row.length c3) T.row.length (zs T.row)) (Ent.refl _) ?_
        exact InH.ent
      · intro G _
        rw [hset]
        refine ⟨_, _, _, rfl, ?_, ?_, ?_⟩
        · rw [st_set, List.length_set]
          exact (Rd.blkPre (H := blk g1 (zs (T.st.set g x) ++ sp1) 3 + emp) (by rw [zs_length, List.length_set, t1, Nat.mul_one]) (by simp only [maxLen]; omega)).ent (by rw [HProp.add_emp]; exact InH.ent)
        · rw [bn_set, List.length_set, bn_same hg]
          exact rd2.ent InH.ent
        · simp only [if_neg hx]
          exact rd3.ent InH.ent
end
end Go.Proofs.YtlhnmbajbhaaoaaGreat
namespace Go.Proofs.YtlhnmbajbhaaoaaGreat
open Go Go.SL
set_option linter.unusedSimpArgs false
set_option linter.unusedVariables false
set_option maxRecDepth 10000
attribute [local irreducible] WP WPL QSeq QBlk QRet Does Cell Cells Rd Mine Ent Aside RV TabX TabAt

section
variable {B : World} {F H : HProp} {p : Nat} {T : Tab}
def upTo (k : Nat) : List Int := (List.range k).map fun (i : Nat) => (i : Int)
theorem upTo_succ (k : Nat) : zs (upTo (k + 1)) = zs (upTo k) ++ [.int .i64 k] := by simp [upTo, zs, List.range_succ]
def zeroes (k : Nat) : List Int := List.replicate k 0
theorem zeroes_succ (k : Nat) : zs (zeroes (k + 1)) = zs (zeroes k) ++ [.int .i64 0] := by simp [zeroes, zs, List.replicate_succ']
theorem refNew_spec {n : Int} {m : Nat} (hm : max 0 (min n 256) = (m : Int)) : Does Tryz.prog B 36 [.int .i64 n] H fun v H' => ∃ X, Ent H' (X + H) ∧ RefV B X v (Tab.new m) := by
  have hm2 : m ≤ 256 := by omega
  refine fn_intro 31 Tryz.func36 rfl rfl rfl ?_
  refine walk ?_
  refine s_alloc rfl ?_
  intro b2
  refine walk ?_
  refine s_alloc rfl ?_
  intro b3
  refine walk ?_
  refine wp_loopF (α := Nat × (Option Addr × Nat) × (Option Addr × Nat) × (Option Addr × Nat)) [4, 5, 6, 7, 8, 9, 10, 11, 12, 13, 14, 15, 16, 17, 18, 19, 20, 21, 22, 23, 24, 25, 26, 27, 28, 29] (fun x => [(4, .int .i64 x.1)])
    (fun x => blk b3 [.slice x.2.1.1 x.1 x.2.1.2, .slice x.2.2.1.1 x.1 x.2.2.1.2, .slice x.2.2.2.1 x.1 x.2.2.2.2] 31 + (Mine 3 1 (.slice x.2.1.1 x.1 x.2.1.2) x.1 (zs (zeroes x.1)) + (Mine 3 1 (.slice x.2.2.1.1 x.1 x.2.2.1.2) x.1 (zs (zeroes x.1)) + (Mine 3 1 (.slice x.2.2.2.1 x.1 x.2.2.2.2) x.1 (zs (upTo x.1)) + (blk b2 [.slice none 0 0, .slice none 0 0, .slice none 0 0] 31 + H)))))
    (fun x => x.1 ≤ m) (fun x => m - x.1) (0, (none, 0), (none, 0), (none, 0)) agreed ?_ (Nat.zero_le _) ?_
  · show Ent _ (blk b3 [.slice none 0 0, .slice none 0 0, .slice none 0 0] 31 + (Mine 3 1 (.slice none 0 0) 0 [] + (Mine 3 1 (.slice none 0 0) 0 [] + (Mine 3 1 (.slice none 0 0) 0 [] + _))))
    rw [Mine.nil, HProp.emp_add, HProp.emp_add, HProp.emp_add]; exact Ent.refl _
  rintro ⟨k, ⟨v1, k1⟩, ⟨v2, k2⟩, ⟨v3, k3⟩⟩ g hk
  simp only at hk
  simp only [putAll]
  by_cases hlt : k < m
  · have hn1 : (k : Int) < n := by omega
    refine walk ?_
    refine s_buildInts (cs := [.int _ _]) rfl rfl rfl rfl rfl ?_
    intro n1
    refine s_append (v := .slice _ _ _) rfl rfl (Rd.blk0 (m := 1) (e := 3) rfl (by simp [maxLen])) rfl rfl ?_ rfl ?_
    · simp only [maxLen]; omega
    intro v'
    refine WPL.shape ?_
    rintro w1 j1 rfl _ _ _
    refine walk ?_
    refine s_store (v := .slice _ _ _) (cs' := [_, _, _]) rfl rfl rfl (by simp) rfl ?_
    refine walk ?_
    refine s_buildInts (cs := [.int _ _]) rfl rfl rfl rfl rfl ?_
    intro n2
    refine s_append (v := .slice v2 _ _) rfl rfl (Rd.blk0 (m := 1) (e := 3) rfl (by simp [maxLen])) rfl rfl ?_ rfl ?_
    · simp only [maxLen]; omega
    intro v'
    refine WPL.shape ?_
    rintro w2 j2 rfl _ _ _
    refine walk ?_
    refine s_store (v := .slice _ _ _) (cs' := [_, _, _]) rfl rfl rfl (by simp) rfl ?_
    refine walk ?_
    refine s_buildInts (cs := [.int _ _]) rfl rfl rfl rfl rfl ?_
    intro n3
    refine s_append (v := .slice v3 _ _) rfl rfl (Rd.blk0 (m := 1) (e := 3) rfl (by simp [maxLen])) rfl rfl ?_ rfl ?_
    · simp only [maxLen]; omega
    intro v'
    refine WPL.shape ?_
    rintro w3 j3 rfl _ _ _
    refine walk ?_
    refine s_store (v := .slice _ _ _) (cs' := [_, _, _]) rfl rfl rfl (by simp) rfl ?_
    refine walk ?_
    refine ⟨(k + 1, (w1, j1), (w2, j2), (w3, j3)), asided, agreed, ?_, hlt, by simp only; omega⟩
    simp only [zeroes_succ, upTo_succ]
    refine Ent.step (A := blk b3 [.slice w1 (k + 1) j1, .slice w2 (k + 1) j2, .slice w3 (k + 1) j3] 31) (Ent.refl _) ?_
    refine Ent.step (A := Mine 3 1 (.slice w1 (k + 1) j1) (k + 1) (zs (zeroes k) ++ [.int .i64 0])) (Ent.refl _) ?_
    refine Ent.step (A := Mine 3 1 (.slice w2 (k + 1) j2) (k + 1) (zs (zeroes k) ++ [.int .i64 0])) (Ent.refl _) ?_
    refine Ent.step (A := Mine 3 1 (.slice w3 (k + 1) j3) (k + 1) (zs (upTo k) ++ [.int .i64 k])) (Ent.refl _) ?_
    exact InH.ent
  · have : m = k := by omega
    subst this
    have q1 : (Tab.new m).all.length = m := by simp [Tab.new]
    have q2 : (Tab.new m).st = zeroes m := by simp [Tab.new, Tab.st, zeroes]
    have q3 : (Tab.new m).bn = zeroes m := by simp [Tab.new, Tab.bn, zeroes]
    have q4 : (Tab.new m).row.length = m := by simp [Tab.new]
    refine WP.split (Mine 3 1 (.slice v1 m k1) m (zs (zeroes m))) (WP.rd fun rd1 => ?_)
    refine WP.split (Mine 3 1 (.slice v2 m k2) m (zs (zeroes m))) (WP.rd fun rd2 => ?_)
    refine WP.split (Mine 3 1 (.slice v3 m k3) m (zs (upTo m))) (WP.rd fun rd3 => ?_)
    by_cases hn1 : (m : Int) < n
    · refine walk ?_
      refine s_storeA (vs := [.slice _ _ _, .slice _ _ _, .slice _ _ _]) rfl rfl rfl rfl (Nat.le_refl _) rfl ?_
      refine walk ?_
      refine retR1 (.inr rfl) rfl (rv_cellA rfl Cells.blk0 rfl) ⟨Mine 3 1 (.slice v1 m k1) m (zs (zeroes m)) + (Mine 3 1 (.slice v2 m k2) m (zs (zeroes m)) + Mine 3 1 (.slice v3 m k3) m (zs (upTo m))), ?_, ?_⟩
      · refine Ent.trans ?_ (Ent.ac (show Mine 3 1 (.slice v1 m k1) m (zs (zeroes m)) + (Mine 3 1 (.slice v2 m k2) m (zs (zeroes m)) + (Mine 3 1 (.slice v3 m k3) m (zs (upTo m)) + H)) = _ by ac_rfl))
        refine Ent.step (A := Mine 3 1 (.slice v1 m k1) m (zs (zeroes m))) (Ent.refl _) ?_
        refine Ent.step (A := Mine 3 1 (.slice v2 m k2) m (zs (zeroes m))) (Ent.refl _) ?_
        refine Ent.step (A := Mine 3 1 (.slice v3 m k3) m (zs (upTo m))) (Ent.refl _) ?_
        exact InH.ent
      · refine ⟨.slice v1 m k1, .slice v2 m k2, .slice v3 m k3, rfl, ?_, ?_, ?_⟩
        · rw [q1, q2]; exact rd1.ent InH.ent
        · rw [q1, q3]; exact rd2.ent InH.ent
        · rw [q4]; exact rd3.ent InH.ent
    · refine walk ?_
      refine s_storeA (vs := [.slice _ _ _, .slice _ _ _, .slice _ _ _]) rfl rfl rfl rfl (Nat.le_refl _) rfl ?_
      refine walk ?_
      refine retR1 (.inr rfl) rfl (rv_cellA rfl Cells.blk0 rfl) ⟨Mine 3 1 (.slice v1 m k1) m (zs (zeroes m)) + (Mine 3 1 (.slice v2 m k2) m (zs (zeroes m)) + Mine 3 1 (.slice v3 m k3) m (zs (upTo m))), ?_, ?_⟩
      · refine Ent.trans ?_ (Ent.ac (show Mine 3 1 (.slice v1 m k1) m (zs (zeroes m)) + (Mine 3 1 (.slice v2 m k2) m (zs (zeroes m)) + (Mine 3 1 (.slice v3 m k3) m (zs (upTo m)) + H)) = _ by ac_rfl))
        refine Ent.step (A := Mine 3 1 (.slice v1 m k1) m (zs (zeroes m))) (Ent.refl _) ?_
        refine Ent.step (A := Mine 3 1 (.slice v2 m k2) m (zs (zeroes m))) (Ent.refl _) ?_
        refine Ent.step (A := Mine 3 1 (.slice v3 m k3) m (zs (upTo m))) (Ent.refl _) ?_
        exact InH.ent
      · refine ⟨.slice v1 m k1, .slice v2 m k2, .slice v3 m k3, rfl, ?_, ?_, ?_⟩
        · rw [q1, q2]; exact rd1.ent InH.ent
        · rw [q1, q3]; exact rd2.ent InH.ent
        · rw [q4]; exact rd3.ent InH.ent
end
end Go.Proofs.YtlhnmbajbhaaoaaGreat
namespace Go.Proofs.YtlhnmbajbhaaoaaGreat
open Go Go.SL
set_option linter.unusedSimpArgs false
set_option linter.unusedVariables false
set_option maxRecDepth 10000
attribute [local irreducible] WP WPL QSeq QBlk QRet Does Cell Cells Rd Mine Ent Aside RV TabX TabAt
section
variable {B : World} {F H G : HProp} {p q : Nat} {T U : Tab} {K : Int}
theorem refMake_spec {r : Value} {K : Int} (hr : RefV B H r T) (ok : T.ok K) (hK : K ≤ 100000) : Does Tryz.prog B 37 [r] H fun v H' => ∃ X r', Ent H' (X + H) ∧ (∀ G, RefV B G r T → RefV B (X + G) r' T.make.2.2) ∧ v = .tuple #[r', .int .i64 T.make.1, .int .i64 T.make.2.1] := by
  have hl := ok.long
  have hz := ok.size
  unfold Tab.make
  cases hrow : T.row with
  | nil => exact (refMake_none hr hrow).mono fun v H' ⟨e, h⟩ => ⟨emp, r, by rw [HProp.emp_add]; exact e, fun G hG => by rw [HProp.emp_add]; exact hG, h⟩
  | cons g rest =>
    have hg := ok.row g (by simp [hrow])
    obtain ⟨k, rfl⟩ := Int.eq_ofNat_of_zero_le hg.1
    have hk : k < T.all.length := by omega
    have ha := ok.all T.all[k] (List.getElem_mem hk)
    have h := refMake_some hr hrow hk (by omega) (by omega) (by omega)
    simpa [hk] using h
theorem refSet_spec {r : Value} {K g x : Int} (hr : RefV B H r T) (ok : T.ok K) (hK : K ≤ 100000) : Does Tryz.prog B 56 [r, .int .i64 g, .int .i64 x] H fun v H' => ∃ X r', Ent H' (X + H) ∧ (∀ G, RefV B G r T → RefV B (X + G) r' (T.set g x).2) ∧ v = .tuple #[r', .int .i64 (T.set g x).1] := by
  have hl := ok.long
  have hz := ok.size
  by_cases hg : 0 ≤ g ∧ g < T.all.length
  · obtain ⟨k, rfl⟩ := Int.eq_ofNat_of_zero_le hg.1
    have hk : k < T.all.length := by omega
    exact refSet_in hr hk (by omega) (by omega)
  · have e : T.set g x = (5, T) := by unfold Tab.set; rw [if_neg hg]
    rw [e]
    exact (refSet_out hr hg).mono fun v H' ⟨e, h⟩ => ⟨emp, r, by rw [HProp.emp_add]; exact e, fun G hG => by rw [HProp.emp_add]; exact hG, h⟩

/-- A table of the reference, as it lies in memory. -/
structure RefA where
  o1 : Option Addr
  k1 : Nat
  o2 : Option Addr
  k2 : Nat
  o3 : Option Addr
  k3 : Nat
abbrev RefA.cells (a : RefA) (T : Tab) : List Value := [.slice a.o1 T.all.length a.k1, .slice a.o2 T.all.length a.k2, .slice a.o3 T.row.length a.k3]
theorem RefV.cells {r : Value} (h : RefV B H r T) : ∃ a : RefA, r = .agg (a.cells T).toArray := by
  obtain ⟨s1, s2, s3, rfl, y1, y2, y3⟩ := h
  unfold Rd at y1 y2 y3
  obtain ⟨v1, j1, rfl, _⟩ := y1
  obtain ⟨v2, j2, rfl, _⟩ := y2
  obtain ⟨v3, j3, rfl, _⟩ := y3
  exact ⟨⟨v1, j1, v2, j2, v3, j3⟩, rfl⟩
abbrev RefC (B : World) (H : HProp) (a : RefA) (T : Tab) : Prop := RefV B H (.agg (a.cells T).toArray) T
theorem rNew {n : Int} {m : Nat} (hm : max 0 (min n 256) = (m : Int)) : Does Tryz.prog B 36 [.int .i64 n] H fun v H' => ∃ X a, v = .agg (RefA.cells a (Tab.new m)).toArray ∧ H' = X + H ∧ RefC B X a (Tab.new m) :=
  (refNew_spec hm).weak fun _ _ ⟨X, e, h⟩ => ⟨_, e, by
    obtain ⟨a, rfl⟩ := h.cells
    exact ⟨X, a, rfl, rfl, h⟩⟩
theorem rMake {a : RefA} (hr : RefC B H a T) (ok : T.ok K) (hK : K ≤ 100000) : Does Tryz.prog B 37 [.agg (a.cells T).toArray] H fun v H' => ∃ X a', v = .tuple #[.agg (RefA.cells a' T.make.2.2).toArray, .int .i64 T.make.1, .int .i64 T.make.2.1] ∧ H' = X + H ∧ ∀ G, RefC B G a T → RefC B (X + G) a' T.make.2.2 :=
  (refMake_spec hr ok hK).weak fun _ _ ⟨X, r', e, h, hv⟩ => ⟨_, e, by
    obtain ⟨a', rfl⟩ := (h H hr).cells
    exact ⟨X, a', hv, rfl, h⟩⟩
theorem rSet {a : RefA} {g x : Int} (hr : RefC B H a T) (ok : T.ok K) (hK : K ≤ 100000) : Does Tryz.prog B 56 [.agg (a.cells T).toArray, .int .i64 g, .int .i64 x] H fun v H' => ∃ X a', v = .tuple #[.agg (RefA.cells a' (T.set g x).2).toArray, .int .i64 (T.set g x).1] ∧ H' = X + H ∧ ∀ G, RefC B G a T → RefC B (X + G) a' (T.set g x).2 :=
  (refSet_spec hr ok hK).weak fun _ _ ⟨X, r', e, h, hv⟩ => ⟨_, e, by
    obtain ⟨a', rfl⟩ := (h H hr).cells
    exact ⟨X, a', hv, rfl, h⟩⟩
end
end Go.Proofs.YtlhnmbajbhaaoaaGreat
