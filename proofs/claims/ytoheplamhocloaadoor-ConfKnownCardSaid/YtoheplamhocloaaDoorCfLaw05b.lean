/- The stage's theorem on a config's cells. No condition. -/
import Derived.Test.YtoheplamhocloaaDoorCfLaw05a
namespace Go.Proofs.YtoheplamhocloaaDoor
open Go Go.SL
set_option linter.unusedSimpArgs false
set_option linter.unusedVariables false
set_option maxRecDepth 10000
set_option maxHeartbeats 4000000
/-- The numbers from 0 on. -/
def rg (k : Nat) : List Int := (List.range k).map fun j => ((j : Nat) : Int)
theorem rg_len (k : Nat) : (rg k).length = k := by simp [rg]
theorem rg_next (k : Nat) : rg (k + 1) = rg k ++ [(k : Int)] := by simp [rg, List.range_succ]
theorem rg_six (k : Nat) : rg (k + 6) = rg k ++ [((k : Nat) : Int), ((k + 1 : Nat) : Int), ((k + 2 : Nat) : Int), ((k + 3 : Nat) : Int), ((k + 4 : Nat) : Int), ((k + 5 : Nat) : Int)] := by
  rw [show k + 6 = k + 5 + 1 by omega, rg_next, show k + 5 = k + 4 + 1 by omega, rg_next, show k + 4 = k + 3 + 1 by omega, rg_next, show k + 3 = k + 2 + 1 by omega, rg_next, show k + 2 = k + 1 + 1 by omega, rg_next, rg_next]
  simp
theorem rg_get {k i : Nat} (h : i < k) : (rg k)[i]'(by rw [rg_len]; exact h) = ((i : Nat) : Int) := by simp [rg]
/-- What has been seen. -/
def seenL (m i : Nat) : List Int := List.replicate i 1 ++ List.replicate (m - i) 0
theorem seen_len {m i : Nat} (h : i ≤ m) : (seenL m i).length = m := by simp [seenL]; omega
theorem seen_at {m i : Nat} (h : i < m) : (seenL m i)[i]? = some 0 := by
  unfold seenL
  rw [List.getElem?_append_right (by simp), List.length_replicate, Nat.sub_self, List.getElem?_replicate, if_pos (by omega)]
theorem seen_next {m i : Nat} (h : i < m) : (seenL m i).set i 1 = seenL m (i + 1) := by
  unfold seenL
  rw [List.set_append_right _ _ (by simp), List.length_replicate, Nat.sub_self, show m - i = (m - (i + 1)) + 1 by omega, List.replicate_succ, List.set_cons_zero, List.replicate_succ']
  simp
theorem seen_all {m i : Nat} (h : i < m) : (seenL m m)[i]? = some 1 := by
  unfold seenL
  rw [List.getElem?_append_left (by simpa using h), List.getElem?_replicate, if_pos h]
theorem zeros_seen (m : Nat) : (List.replicate m [Value.int .i64 0]).flatten = zs (seenL m 0) := by
  unfold seenL zs
  simp only [List.replicate_zero, List.nil_append, Nat.sub_zero, List.map_replicate]
  induction m with
  | zero => rfl
  | succ m ih => rw [List.replicate_succ, List.replicate_succ, List.flatten_cons, ih]; rfl
theorem zs_at {l : List Int} {i : Nat} {x : Int} (h : l[i]? = some x) : (zs l)[i]? = some (.int .i64 x) := by simp [zs, h]
attribute [local irreducible] WP WPL QSeq QBlk QRet Does Cell Cells Rd Mine Ent Aside RV Yield
section
variable {B : World} {F H G : HProp} {c : Cfg}
theorem atV_yes {nn qq p : Nat} {k : Int} (hR : RightP c) (hn : c.n = nn) (hq : c.q = qq) (hp : p < nn) : atV c p k = ((4 + p * (6 + qq) : Nat) : Int) + k := by
  unfold atV
  rw [if_pos ⟨hR, by omega, by omega⟩, hq]
  push_cast
  rfl
theorem once_law (T : Tab B) : Does Tryd.prog B 5 [cfgV c] H fun r H' => H' = H ∧ r = .bool true := by
  refine Does.frame0 ?_
  by_cases hR : RightP c
  · obtain ⟨nn, hn⟩ := Int.eq_ofNat_of_zero_le (show 0 ≤ c.n by have := hR.2.1; omega)
    obtain ⟨qq, hq⟩ := Int.eq_ofNat_of_zero_le (show 0 ≤ c.q by have := hR.1; unfold RoomP at this; omega)
    obtain ⟨h1, h2, h3, _⟩ := id hR
    have hq2 : 2 ≤ qq ∧ qq ≤ 64 := by unfold RoomP at h1; omega
    have hb : nn * (6 + qq) ≤ 8 * 70 := Nat.mul_le_mul (by omega) (by omega)
    have hM : (allN c).length = 4 + nn * (6 + qq) := by rw [allN_len hR, hn, hq]; rfl
    have hall : allN c = namesL nn qq := by unfold allN; rw [if_pos hR, hn, hq]; rfl
    refine fn_intro 140 Tryd.func5 rfl rfl rfl ?_
    refine walk ?_
    refine s_box (cs := cv c) rfl rfl rfl ?_
    intro b
    refine walk ?_
    refine s_call rfl (cellsA (c := c)) rfl ?_
    rintro _ _ ⟨e_, rfl⟩
    obtain rfl := e_.symm
    refine walk ?_
    generalize hm : (allN c).length = m at *
    refine s_call rfl (cRight (c := c)) rfl ?_
    rintro _ _ ⟨e_, rfl⟩
    obtain rfl := e_.symm
    refine walk ?_
    rw [decide_eq_true hR]
    refine walk ?_
    refine s_makeSlice (k := m) (c := m) rfl rfl (Nat.le_refl _) (by simp only [maxLen]; omega) rfl ?_
    intro bs
    rw [zeros_seen]
    refine walk ?_
    refine s_buildInts (cs := zs (rg 4)) rfl rfl rfl rfl rfl ?_
    intro b4
    refine WPL.ent (Ent.ac (show _ = Mine 3 1 (.slice none 0 0) 0 [] + _ by rw [Mine.nil, HProp.emp_add])) ?_
    refine s_append (v := .slice none 0 0) rfl rfl (Rd.blk0 (m := 4) (e := 3) rfl (by simp [maxLen])) rfl rfl ?_ rfl ?_
    · simp only [maxLen]; omega
    intro va
    simp only [Nat.zero_add, List.nil_append]
    refine walk ?_
    refine wp_loopF (α := Nat × Value × List Int) [5, 6, 7, 43, 44, 45, 46, 47, 48, 49, 50, 51, 52, 53, 54, 55, 56, 57, 58, 59, 60, 61, 62, 63, 64, 65, 66, 67, 68, 69, 70, 71, 72, 73, 74, 75, 76, 77, 78, 79, 80, 81, 82, 83] (fun x => [(5, x.2.1), (6, .int .i64 x.1)]) (fun x => Mine 3 1 x.2.1 x.2.2.length (zs x.2.2) + (blk bs (zs (seenL m 0)) 3 + (blk b (cv c) 23 + H))) (fun x => x.1 ≤ nn ∧ x.2.2 = rg (4 + x.1 * (6 + qq))) (fun x => nn - x.1) (0, va, rg 4) agreed ?_ ⟨Nat.zero_le _, by simp⟩ ?_
    · simp only [rg_len]
      exact Ent.auto
    rintro ⟨p, v, L⟩ f ⟨hp, hL⟩
    simp only at hp hL
    simp only [putAll]
    have hpb : p * (6 + qq) ≤ 8 * 70 := Nat.mul_le_mul (by omega) (by omega)
    have hLl : L.length = 4 + p * (6 + qq) := by rw [hL, rg_len]
    by_cases hlt : p < nn
    · have a0 := atV_yes (k := 0) hR hn hq hlt
      have a1 := atV_yes (k := 1) hR hn hq hlt
      have a2 := atV_yes (k := 2) hR hn hq hlt
      have a3 := atV_yes (k := 3) hR hn hq hlt
      have a4 := atV_yes (k := 4) hR hn hq hlt
      have a5 := atV_yes (k := 5) hR hn hq hlt
      refine walk ?_
      (refine wp_draw [3, 6, 9, 12, 15, 18, 19, 20] (.look 0 (.look 1 (.look 2 (.look 4 (.look 5 (.look 7 (.look 8 (.look 10 (.look 11 (.look 13 (.look 14 (.look 16 (.look 17 (.act 3 (.act 6 (.act 9 (.act 12 (.act 15 (.act 18 (.act 19 (.act 20 (.look 21 .nil) .stop) .stop) .stop) .stop) .stop) .stop) .stop) .stop)))))))))))))) (by kernel_rfl) ?_; (apply dw_pure; (· exact rfl); (· exact rfl); (· (intro G; exact looked))); (apply dw_look; (· exact rfl); (· exact rfl); (· (exact looked))); (apply dw_pure; (· exact rfl); (· exact rfl); (· (intro G; exact looked))); (apply dw_look; (· exact rfl); (· exact rfl); (· (exact looked))); (apply dw_pure; (· exact rfl); (· exact rfl); (· (intro G; exact looked))); (apply dw_look; (· exact rfl); (· exact rfl); (· (exact looked))); (apply dw_pure; (· exact rfl); (· exact rfl); (· (intro G; exact looked))); (apply dw_look; (· exact rfl); (· exact rfl); (· (exact looked))); (apply dw_pure; (· exact rfl); (· exact rfl); (· (intro G; exact looked))); (apply dw_look; (· exact rfl); (· exact rfl); (· (exact looked))); (apply dw_pure; (· exact rfl); (· exact rfl); (· (intro G; exact looked))); (apply dw_look; (· exact rfl); (· exact rfl); (· (exact looked))); (apply dw_pure; (· exact rfl); (· exact rfl); (· (intro G; exact looked))); skip)
      refine dw_do rfl rfl ?_ dw_stop
      refine s_call rfl (cWord (c := c) (p := (p : Int))) rfl ?_
      rintro _ _ ⟨e_, rfl⟩
      obtain rfl := e_.symm
      refine wpl_nil (qone ⟨(by (refine st_again ?_ ?_; (· exact looked)); (refine st_again ?_ ?_; (· exact looked)); (refine st_again ?_ ?_; (· exact looked)); (refine st_again ?_ ?_; (· exact looked)); (refine st_again ?_ ?_; (· exact looked)); refine st_past (by kernel_rfl) ?_; exact st_nil), ?_⟩)
      (skip)
      refine dw_do rfl rfl ?_ dw_stop
      refine s_call rfl (cNext (c := c) (p := (p : Int))) rfl ?_
      rintro _ _ ⟨e_, rfl⟩
      obtain rfl := e_.symm
      refine wpl_nil (qone ⟨(by (refine st_again ?_ ?_; (· exact looked)); (refine st_again ?_ ?_; (· exact looked)); (refine st_again ?_ ?_; (· exact looked)); (refine st_again ?_ ?_; (· exact looked)); refine st_past (by kernel_rfl) ?_; refine st_past (by kernel_rfl) ?_; exact st_nil), ?_⟩)
      (skip)
      refine dw_do rfl rfl ?_ dw_stop
      refine s_call rfl (cStat (c := c) (p := (p : Int))) rfl ?_
      rintro _ _ ⟨e_, rfl⟩
      obtain rfl := e_.symm
      refine wpl_nil (qone ⟨(by (refine st_again ?_ ?_; (· exact looked)); (refine st_again ?_ ?_; (· exact looked)); (refine st_again ?_ ?_; (· exact looked)); refine st_past (by kernel_rfl) ?_; refine st_past (by kernel_rfl) ?_; refine st_past (by kernel_rfl) ?_; exact st_nil), ?_⟩)
      (skip)
      refine dw_do rfl rfl ?_ dw_stop
      refine s_call rfl (cTick (c := c) (p := (p : Int))) rfl ?_
      rintro _ _ ⟨e_, rfl⟩
      obtain rfl := e_.symm
      refine wpl_nil (qone ⟨(by (refine st_again ?_ ?_; (· exact looked)); (refine st_again ?_ ?_; (· exact looked)); refine st_past (by kernel_rfl) ?_; refine st_past (by kernel_rfl) ?_; refine st_past (by kernel_rfl) ?_; refine st_past (by kernel_rfl) ?_; exact st_nil), ?_⟩)
      (skip)
      refine dw_do rfl rfl ?_ dw_stop
      refine s_call rfl (cSys (c := c) (p := (p : Int))) rfl ?_
      rintro _ _ ⟨e_, rfl⟩
      obtain rfl := e_.symm
      refine wpl_nil (qone ⟨(by (refine st_again ?_ ?_; (· exact looked)); refine st_past (by kernel_rfl) ?_; refine st_past (by kernel_rfl) ?_; refine st_past (by kernel_rfl) ?_; refine st_past (by kernel_rfl) ?_; refine st_past (by kernel_rfl) ?_; exact st_nil), ?_⟩)
      (skip)
      refine dw_do rfl rfl ?_ dw_stop
      refine s_call rfl (cFlag (c := c) (p := (p : Int))) rfl ?_
      rintro _ _ ⟨e_, rfl⟩
      obtain rfl := e_.symm
      refine wpl_nil (qone ⟨(by refine st_past (by kernel_rfl) ?_; refine st_past (by kernel_rfl) ?_; refine st_past (by kernel_rfl) ?_; refine st_past (by kernel_rfl) ?_; refine st_past (by kernel_rfl) ?_; refine st_past (by kernel_rfl) ?_; exact st_nil), ?_⟩)
      (skip)
      refine dw_do rfl rfl ?_ dw_stop
      refine s_buildInts (cs := zs [atV c p 0, atV c p 1, atV c p 2, atV c p 3, atV c p 4, atV c p 5]) rfl rfl rfl rfl rfl ?_
      intro b19
      refine wpl_nil (qone ⟨(by refine st_past (by kernel_rfl) ?_; refine st_past (by kernel_rfl) ?_; refine st_past (by kernel_rfl) ?_; refine st_past (by kernel_rfl) ?_; refine st_past (by kernel_rfl) ?_; refine st_past (by kernel_rfl) ?_; exact st_nil), ?_⟩)
      (skip)
      refine dw_do rfl rfl ?_ dw_stop
      refine s_append (v := v) rfl rfl (Rd.blk0 (m := 6) (e := 3) rfl (by simp [maxLen])) rfl rfl ?_ rfl ?_
      · simp only [maxLen]; omega
      intro v20
      refine wpl_nil (qone ⟨(by refine st_past (by kernel_rfl) ?_; refine st_past (by kernel_rfl) ?_; refine st_past (by kernel_rfl) ?_; refine st_past (by kernel_rfl) ?_; refine st_past (by kernel_rfl) ?_; refine st_past (by kernel_rfl) ?_; exact st_nil), ?_⟩)
      ((apply dw_pure; (· exact rfl); (· exact rfl); (· (intro G; exact looked))); refine dw_nil ?_; skip)
      refine walk ?_
      have e6 : zs L ++ zs [atV c p 0, atV c p 1, atV c p 2, atV c p 3, atV c p 4, atV c p 5] = zs (rg (4 + p * (6 + qq) + 6)) := by
        rw [rg_six, ← hL, zs_append, a0, a1, a2, a3, a4, a5]
        simp only [Int.natCast_add]
        rfl
      refine wp_loopF (α := Nat × Value) [5, 7, 70, 71, 72, 73, 74, 75, 76, 77, 78, 79, 80, 81, 82, 83] (fun x => [(5, x.2), (7, .int .i64 x.1)]) (fun x => Mine 3 1 x.2 (4 + p * (6 + qq) + 6 + x.1) (zs (rg (4 + p * (6 + qq) + 6 + x.1))) + (blk bs (zs (seenL m 0)) 3 + (blk b (cv c) 23 + H))) (fun x => x.1 ≤ qq) (fun x => qq - x.1) (0, v20) agreed ?_ (Nat.zero_le _) ?_
      · simp only [hLl, e6, Nat.add_zero]
        exact Ent.auto
      rintro ⟨j, v⟩ f3 hj
      simp only at hj
      simp only [putAll]
      by_cases hjq : j < qq
      · have aj := atV_yes (k := 6 + (j : Int) % c.q) hR hn hq hlt
        have ej : (j : Int) % c.q = j := by rw [hq]; exact Int.emod_eq_of_lt (by omega) (by omega)
        rw [ej] at aj
        have hcj := cSlot (B := B) (H := H) (c := c) (p := (p : Int)) (i := (j : Int)) (by omega)
        refine walk ?_
        refine s_call rfl (cSlot (c := c) (p := (p : Int)) (i := (j : Int)) (by omega)) rfl ?_
        rintro _ _ ⟨e_, rfl⟩
        obtain rfl := e_.symm
        rw [ej, aj]
        refine walk ?_
        refine s_buildInts (cs := [.int .i64 (((4 + p * (6 + qq) : Nat) : Int) + (6 + (j : Int)))]) rfl rfl rfl rfl rfl ?_
        intro b82
        refine s_append (v := v) rfl rfl (Rd.blk0 (m := 1) (e := 3) rfl (by simp [maxLen])) rfl rfl ?_ rfl ?_
        · simp only [maxLen]; omega
        intro v'
        refine walk ?_
        refine ⟨(j + 1, v'), asided, agreed, ?_, hjq, by simp only; omega⟩
        have e7 : zs (rg (4 + p * (6 + qq) + 6 + j + 1)) = zs (rg (4 + p * (6 + qq) + 6 + j)) ++ [.int .i64 (((4 + p * (6 + qq) : Nat) : Int) + (6 + (j : Int)))] := by
          rw [rg_next, zs_push]
          congr 3
          omega
        simp only [← Nat.add_assoc]
        rw [e7]
        exact Ent.auto
      · obtain rfl : j = qq := by omega
        refine walk ?_
        refine ⟨(p + 1, v, rg (4 + p * (6 + j) + 6 + j)), asided, agreed, ?_, ⟨hlt, ?_⟩, by simp only; omega⟩
        · simp only [rg_len]
          exact Ent.auto
        · simp only
          congr 1
          rw [Nat.add_mul]
          omega
    · obtain rfl : p = nn := by omega
      rw [← hM] at hL
      rw [← hM] at hLl
      refine WP.shape ?_
      rintro ao cap rfl _ hcap _
      refine WP.rd fun rd => ?_
      have rd' := rd
      unfold Rd at rd'
      obtain ⟨_, _, e_, hl, hmm, ha⟩ := rd'
      cases e_
      refine walk ?_
      refine wp_loopF (α := Nat) [2, 8, 84, 85, 86, 87, 88, 89, 90, 91, 92, 93, 94, 95, 96, 97, 98, 99, 100, 101, 102, 103, 104, 105, 106, 107, 108, 109, 110, 111] (fun i => [(8, .int .i64 (i : Nat))]) (fun i => Mine 3 1 (.slice ao L.length cap) L.length (zs L) + (blk bs (zs (seenL m i)) 3 + (blk b (cv c) 23 + H))) (fun i => i ≤ m) (fun i => m - i) 0 agreed (Ent.refl _) (Nat.zero_le _) ?_
      rintro i f4 hi
      simp only [putAll]
      by_cases him : i < m
      · obtain ⟨bl, ol, rfl, hcl⟩ := Rd.addr hl ha (show i < L.length by omega)
        have hLi : (zs L)[i]? = some (.int .i64 ((i : Nat) : Int)) := by
          rw [zs_get L i (by omega)]
          subst hL
          rw [rg_get him]
        have hcell := hcl.cell hLi
        have hseen : Cell B (blk bs (zs (seenL m i)) 3) bs i (.int .i64 0) := Cell.blk (zs_at (seen_at him))
        refine walk ?_
        refine s_store (v := .int .i64 1) (cs' := zs (seenL m (i + 1))) rfl rfl rfl (by rw [zs_length, seen_len (by omega)]; omega) (by rw [zs_set, seen_next him]) ?_
        refine walk ?_
        exact ⟨i + 1, asided, agreed, Ent.auto, him, by omega⟩
      · obtain rfl : i = m := by omega
        refine walk ?_
        refine wp_loopR (α := Nat) [2, 9, 10, 11, 112, 113, 114, 115, 116, 117, 118, 119, 120, 121, 122, 123, 124, 125, 126, 127, 128, 129, 130, 131, 132, 133, 134, 135, 136, 137, 138] (fun k => [(9, .int .i64 (k : Nat))]) (fun k => k ≤ i) (fun k => i - k) 0 agreed (Nat.zero_le _) ?_
        rintro k f5 hk
        simp only [putAll]
        by_cases hki : k < i
        · have hseen : Cell B (blk bs (zs (seenL i i)) 3) bs k (.int .i64 1) := Cell.blk (zs_at (seen_all hki))
          have e1 : nmC c k = nameOf qq k := nmC_at hR hn hq (by omega)
          have e2 : posS (allN c) (nameOf qq k) = k := by rw [hall]; exact pos_name (by omega)
          have hcf := cFind (B := B) (H := H) (c := c) (s := nameOf qq k)
          refine walk ?_
          (refine wp_draw [3, 4] (.look 0 (.look 1 (.look 2 (.act 3 (.act 4 (.look 5 (.look 6 (.look 7 (.look 8 (.look 9 .nil))))) .stop) .stop)))) (by kernel_rfl) ?_; (apply dw_look; (· exact rfl); (· exact rfl); (· (exact looked))); (apply dw_look; (· exact rfl); (· exact rfl); (· (exact looked))); (apply dw_pure; (· exact rfl); (· exact rfl); (· (intro G; exact looked))); skip)
          refine dw_do rfl rfl ?_ dw_stop
          refine s_call rfl (cName (c := c) (a := (k : Int))) rfl ?_
          rintro _ _ ⟨e_, rfl⟩
          obtain rfl := e_.symm
          rw [e1]
          refine wpl_nil (qone ⟨(by refine st_past (by kernel_rfl) ?_; (refine st_again ?_ ?_; (· exact looked)); exact st_nil), ?_⟩)
          (skip)
          refine dw_do rfl rfl ?_ dw_stop
          refine s_call rfl (cFind (c := c) (s := nameOf qq k)) rfl ?_
          rintro _ _ ⟨e_, rfl⟩
          obtain rfl := e_.symm
          rw [e2, if_neg (show ¬ (k : Int) = -1 by omega)]
          refine wpl_nil (qone ⟨(by refine st_past (by kernel_rfl) ?_; refine st_past (by kernel_rfl) ?_; exact st_nil), ?_⟩)
          ((apply dw_pure; (· exact rfl); (· exact rfl); (· (intro G; exact looked))); (apply dw_pure; (· exact rfl); (· exact rfl); (· (intro G; exact looked))); (apply dw_pure; (· exact rfl); (· exact rfl); (· (intro G; exact looked))); (apply dw_pure; (· exact rfl); (· exact rfl); (· (intro G; exact looked))); (apply dw_pure; (· exact rfl); (· exact rfl); (· (intro G; exact looked))); refine dw_nil ?_; skip)
          refine walk ?_
          exact ⟨k + 1, asided, agreed, Ent.refl _, hki, by omega⟩
        · refine walk ?_
          refine s_call rfl (works_spec T) rfl ?_
          rintro _ _ ⟨e_, rfl⟩
          obtain rfl := e_.symm
          refine walk ?_
          (first | (apply retRD1 (G := H) (.inr rfl) rfl; (· first | (refine rv_tmp (v := .bool _) rfl) | exact rv_tmp rfl); (· exact Ent.auto)) | (apply retRD1 (G := H) (.inl rfl) rfl; (· first | (refine rv_tmp (v := .bool _) rfl) | exact rv_tmp rfl); (· exact Ent.auto)))
          exact ⟨Ent.refl _, rfl⟩
  · have hall : allN c = [] := by unfold allN; rw [if_neg hR]
    have e0 : nmC c 0 = [] := by unfold nmC; rw [if_neg fun h => hR h.1]
    have e1 : atV c 0 0 = -1 := by unfold atV; rw [if_neg fun h => hR h.1]
    refine fn_intro 140 Tryd.func5 rfl rfl rfl ?_
    refine walk ?_
    refine s_box (cs := cv c) rfl rfl rfl ?_
    intro b
    refine walk ?_
    refine s_call rfl (cells_no (c := c) hR) rfl ?_
    rintro _ _ ⟨e_, rfl⟩
    obtain rfl := e_.symm
    refine walk ?_
    refine s_call rfl (cRight (c := c)) rfl ?_
    rintro _ _ ⟨e_, rfl⟩
    obtain rfl := e_.symm
    refine walk ?_
    rw [decide_eq_false hR]
    refine walk ?_
    refine s_call rfl (cName (c := c) (a := 0)) rfl ?_
    rintro _ _ ⟨e_, rfl⟩
    obtain rfl := e_.symm
    refine walk ?_
    rw [e0]
    refine s_eqstr rfl rfl (b := true) (decide_eq_true rfl) rfl ?_
    refine walk ?_
    refine s_call rfl (cWord (c := c) (p := 0)) rfl ?_
    rintro _ _ ⟨e_, rfl⟩
    obtain rfl := e_.symm
    refine walk ?_
    rw [e1]
    refine walk ?_
    refine s_call rfl (works_spec T) rfl ?_
    rintro _ _ ⟨e_, rfl⟩
    obtain rfl := e_.symm
    refine walk ?_
    (first | (apply retRD1 (G := H) (.inr rfl) rfl; (· first | (refine rv_tmp (v := .bool _) rfl) | exact rv_tmp rfl); (· exact Ent.auto)) | (apply retRD1 (G := H) (.inl rfl) rfl; (· first | (refine rv_tmp (v := .bool _) rfl) | exact rv_tmp rfl); (· exact Ent.auto)))
    exact ⟨Ent.refl _, rfl⟩
end
end Go.Proofs.YtoheplamhocloaaDoor
