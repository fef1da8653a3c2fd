/- The document's names of a config's cells; what is found. No condition. -/
import Derived.Test.YtoheplamhocloaaDoorCfConf3
namespace Go.Proofs.YtoheplamhocloaaDoor
open Go Go.SL
set_option linter.unusedSimpArgs false
set_option linter.unusedVariables false
set_option maxRecDepth 10000
set_option maxHeartbeats 2000000
/-- All names of a config. -/
def allN (c : Cfg) : List (List UInt8) := if RightP c then namesL c.n.toNat c.q.toNat else []
theorem part_len : ∀ j, j < 6 → (parts.getD j []).length ≤ 4 := by decide
section
variable {B : World} {F H G : HProp} {c : Cfg} {nn qq : Nat}
theorem allN_len (h : RightP c) : (allN c).length = 4 + c.n.toNat * (6 + c.q.toNat) := by
  unfold allN
  rw [if_pos h, names_len]
theorem nmC_get (c : Cfg) (a : Int) : nmC c a = if 0 ≤ a then (allN c).getD a.toNat [] else [] := by
  unfold nmC allN
  by_cases h : RightP c
  · obtain ⟨nn, hn⟩ := Int.eq_ofNat_of_zero_le (show 0 ≤ c.n by have := h.2.1; omega)
    obtain ⟨qq, hq⟩ := Int.eq_ofNat_of_zero_le (show 0 ≤ c.q by have := h.1; unfold RoomP at this; omega)
    have e : c.n * (6 + c.q) = ((nn * (6 + qq) : Nat) : Int) := by rw [hn, hq]; push_cast; rfl
    rw [if_pos h, e, hn, hq, Int.toNat_natCast, Int.toNat_natCast]
    by_cases h0 : 0 ≤ a
    · rw [if_pos h0]
      by_cases h1 : a < 4 + ((nn * (6 + qq) : Nat) : Int)
      · rw [if_pos ⟨h, h0, h1⟩, List.getD_eq_getElem?_getD, names_get (by omega)]; rfl
      · rw [if_neg (fun h => h1 h.2.2), List.getD_eq_getElem?_getD, List.getElem?_eq_none (by rw [names_len]; omega)]; rfl
    · rw [if_neg h0, if_neg (fun h => h0 h.2.1)]
  · rw [if_neg (fun h2 => h h2.1), if_neg h]
    split <;> simp
theorem rowN_take {p i : Nat} (hi : i < 6) : ((List.range 6).map (partN · p)).take (i + 1) = ((List.range 6).map (partN · p)).take i ++ [partN i p] := by
  rw [List.take_succ_eq_append_getElem (by simpa using hi)]
  simp
theorem slots_next {p i : Nat} : (List.range (i + 1)).map (slotN p) = (List.range i).map (slotN p) ++ [slotN p i] := by
  rw [List.range_succ, List.map_append]; rfl
end
attribute [local irreducible] WP WPL QSeq QBlk QRet Does Cell Cells Rd Mine Ent Aside RV Yield
section
variable {B : World} {F H G : HProp} {c : Cfg} {nn qq : Nat}
theorem rNames : Does Tryd.prog B 10 [cfgV c] H fun r H' => Ent H' (Mine 9 1 r (allN c).length (ss (allN c)) + H) := by
  by_cases hR : RightP c
  · obtain ⟨nn, hn⟩ := Int.eq_ofNat_of_zero_le (show 0 ≤ c.n by have := hR.2.1; omega)
    obtain ⟨qq, hq⟩ := Int.eq_ofNat_of_zero_le (show 0 ≤ c.q by have := hR.1; unfold RoomP at this; omega)
    obtain ⟨h1, h2, h3, _⟩ := id hR
    have hq2 : 2 ≤ qq ∧ qq ≤ 64 := by unfold RoomP at h1; omega
    have eall : allN c = namesL nn qq := by unfold allN; rw [if_pos hR, hn, hq]; rfl
    rw [eall]
    refine fn_intro 53 Tryd.func10 rfl rfl rfl ?_
    refine walk ?_
    refine s_box (cs := cv c) rfl rfl rfl ?_
    intro b
    refine walk ?_
    refine s_call rfl (rRight) rfl ?_
    rintro _ _ ⟨e_, rfl⟩
    obtain rfl := e_.symm
    refine walk ?_
    rw [decide_eq_true hR]
    refine walk ?_
    refine s_buildInts (cs := ss heads) rfl rfl rfl rfl rfl ?_
    intro b0
    refine walk ?_
    refine wp_loopF (α := Nat × Value × List (List UInt8)) [3, 4, 5, 6, 7, 12, 13, 14, 15, 16, 17, 18, 19, 20, 21, 22, 23, 24, 25, 26, 27, 28, 29, 30, 31, 32, 33, 34, 35, 36, 37, 38, 39, 40, 41, 42, 43, 44, 45, 46, 47, 48, 49, 50, 51] (fun x => [(3, x.2.1), (4, .int .i64 x.1)]) (fun x => Mine 9 1 x.2.1 x.2.2.length (ss x.2.2) + (blk b (cv c) 25 + H)) (fun x => x.1 ≤ nn ∧ x.2.2 = namesL x.1 qq) (fun x => nn - x.1) (0, .slice (some ⟨b0, 0, none⟩) 4 4, heads) agreed
      (Ent.step (A := blk b0 (ss heads) 9) (Mine.of_blk (sz := 1) (n := 4) (cap := 4) (spare := []) (by rw [List.append_nil]) rfl (Nat.le_refl _) (by simp [maxLen]) rfl) Ent.auto) ⟨Nat.zero_le _, by simp [namesL]⟩ ?_
    rintro ⟨p, v, L⟩ f ⟨hp, hL⟩
    simp only at hp hL
    simp only [putAll]
    have hLl : L.length = 4 + p * (6 + qq) := by rw [hL, names_len]
    have hpb : p * (6 + qq) ≤ 8 * 70 := Nat.mul_le_mul (by omega) (by omega)
    by_cases hlt : p < nn
    · have hd := digits_lt (show p < 100 by omega)
      refine walk ?_
      refine s_buildInts (cs := ss parts) rfl rfl rfl rfl rfl ?_
      intro b1
      refine walk ?_
      refine wp_loopF (α := Nat × Value × List (List UInt8)) [3, 6, 19, 20, 21, 22, 23, 24, 25, 26, 27, 28, 29, 30, 31, 32, 33, 34, 35] (fun x => [(3, x.2.1), (6, .int .i64 x.1)]) (fun x => Mine 9 1 x.2.1 x.2.2.length (ss x.2.2) + (blk b1 (ss parts) 9 + (blk b (cv c) 25 + H))) (fun x => x.1 ≤ 6 ∧ x.2.2 = L ++ ((List.range 6).map (partN · p)).take x.1) (fun x => 6 - x.1) (0, v, L) agreed Ent.auto ⟨Nat.zero_le _, by simp⟩ ?_
      rintro ⟨i, v1, L1⟩ f1 ⟨hi, hL1⟩
      simp only at hi hL1
      simp only [putAll]
      have hL1l : L1.length = L.length + min i 6 := by rw [hL1]; simp
      by_cases hi6 : i < 6
      · have hpl := part_len i hi6
        have epn : partN i p = parts.getD i [] ++ [32] ++ dg p := by unfold partN; simp
        have cp : Cell B (blk b1 (ss parts) 9) b1 i (str (parts.getD i [])) := Cell.blk (by rw [ss_get _ _ (by show i < 6; exact hi6), List.getD_eq_getElem?_getD, List.getElem?_eq_getElem (by show i < 6; exact hi6)]; rfl)
        refine walk ?_
        (refine wp_draw [7, 9, 10] (.look 0 (.look 1 (.look 2 (.look 3 (.look 4 (.look 5 (.look 6 (.act 7 (.look 8 (.act 9 (.act 10 (.look 11 .nil) .stop) .stop)) .stop)))))))) (by kernel_rfl) ?_; (apply dw_pure; (· exact rfl); (· exact rfl); (· (intro G; exact looked))); (apply dw_pure; (· exact rfl); (· exact rfl); (· (intro G; exact looked))); (apply dw_pure; (· exact rfl); (· exact rfl); (· (intro G; exact looked))); (apply dw_pure; (· exact rfl); (· exact rfl); (· (intro G; exact looked))); (apply dw_look; (· exact rfl); (· exact rfl); (· (exact looked))); (apply dw_pure; (· exact rfl); (· exact rfl); (· (intro G; (refine s_concat (m := [32]) rfl rfl (by simp only [List.length_cons, List.length_nil]; omega) rfl rfl ?_); exact looked))); (apply dw_pure; (· exact rfl); (· exact rfl); (· (intro G; exact looked))); skip)
        refine dw_do rfl rfl ?_ dw_stop
        refine s_call rfl (rdigits (n := p) (by omega)) rfl ?_
        rintro _ _ ⟨e_, rfl⟩
        obtain rfl := e_.symm
        refine wpl_nil (qone ⟨(by (refine st_again ?_ ?_; (· exact looked)); exact st_nil), ?_⟩)
        ((apply dw_pure; (· exact rfl); (· exact rfl); (· (intro G; (refine s_concat rfl rfl (by simp only [List.length_append, List.length_cons, List.length_nil]; omega) rfl rfl ?_); exact looked))); skip)
        refine dw_do rfl rfl ?_ dw_stop
        refine s_buildInts (cs := [str (parts.getD i [] ++ [32] ++ dg p)]) rfl rfl rfl rfl rfl ?_
        intro b9
        refine wpl_nil (qone ⟨(by refine st_past (by kernel_rfl) ?_; exact st_nil), ?_⟩)
        (skip)
        refine dw_do rfl rfl ?_ dw_stop
        refine s_append (v := v1) rfl rfl (Rd.blk0 (m := 1) (e := 9) rfl (by simp [maxLen])) rfl rfl ?_ rfl ?_
        · simp only [maxLen]; omega
        intro v2
        refine wpl_nil (qone ⟨(by refine st_past (by kernel_rfl) ?_; exact st_nil), ?_⟩)
        ((apply dw_pure; (· exact rfl); (· exact rfl); (· (intro G; exact looked))); refine dw_nil ?_; skip)
        refine walk ?_
        refine ⟨(i + 1, v2, L1 ++ [partN i p]), asided, agreed, ?_, ⟨hi6, by simp only; rw [hL1, rowN_take hi6, List.append_assoc]⟩, by simp only; omega⟩
        simp only [len_push, ss_push, epn]
        exact Ent.auto
      · have hi' : i = 6 := by omega
        subst hi'
        refine walk ?_
        refine wp_loopF (α := Nat × Value × List (List UInt8)) [3, 7, 36, 37, 38, 39, 40, 41, 42, 43, 44, 45, 46, 47, 48, 49, 50, 51] (fun x => [(3, x.2.1), (7, .int .i64 x.1)]) (fun x => Mine 9 1 x.2.1 x.2.2.length (ss x.2.2) + (blk b (cv c) 25 + H)) (fun x => x.1 ≤ qq ∧ x.2.2 = L1 ++ (List.range x.1).map (slotN p)) (fun x => qq - x.1) (0, v1, L1) agreed Ent.auto ⟨Nat.zero_le _, by simp⟩ ?_
        rintro ⟨j, v3, L3⟩ f3 ⟨hj, hL3⟩
        simp only at hj hL3
        simp only [putAll]
        have hL3l : L3.length = L1.length + j := by rw [hL3]; simp
        by_cases hjq : j < qq
        · have hd2 := digits_lt (show j < 100 by omega)
          refine walk ?_
          refine s_call rfl (rdigits (n := p) (by omega)) rfl ?_
          rintro _ _ ⟨e_, rfl⟩
          obtain rfl := e_.symm
          refine walk ?_
          refine s_concat (l := [115, 108, 111, 116, 32]) rfl rfl (by simp only [List.length_cons, List.length_nil]; omega) rfl rfl ?_
          refine walk ?_
          refine s_concat (m := [32]) rfl rfl (by simp only [List.length_append, List.length_cons, List.length_nil]; omega) rfl rfl ?_
          refine walk ?_
          refine s_call rfl (rdigits (n := j) (by omega)) rfl ?_
          rintro _ _ ⟨e_, rfl⟩
          obtain rfl := e_.symm
          refine walk ?_
          refine s_concat rfl rfl (by simp only [List.length_append, List.length_cons, List.length_nil]; omega) rfl rfl ?_
          refine walk ?_
          have esn : slotN p j = [115, 108, 111, 116, 32] ++ dg p ++ [32] ++ dg j := by simp [slotN, slotW]
          refine s_buildInts (cs := [str ([115, 108, 111, 116, 32] ++ dg p ++ [32] ++ dg j)]) rfl rfl rfl rfl rfl ?_
          intro b9
          refine s_append (v := v3) rfl rfl (Rd.blk0 (m := 1) (e := 9) rfl (by simp [maxLen])) rfl rfl ?_ rfl ?_
          · simp only [maxLen]; omega
          intro v4
          refine walk ?_
          refine ⟨(j + 1, v4, L3 ++ [slotN p j]), asided, agreed, ?_, ⟨hjq, by simp only; rw [hL3, slots_next, List.append_assoc]⟩, by simp only; omega⟩
          simp only [len_push, ss_push, esn]
          exact Ent.auto
        · have hj' : j = qq := by omega
          subst hj'
          refine walk ?_
          refine ⟨(p + 1, v3, L3), asided, agreed, Ent.auto, ⟨hlt, ?_⟩, by simp only; omega⟩
          simp only
          rw [hL3, hL1, hL, List.take_of_length_le (by simp)]
          unfold namesL
          rw [show List.range (p + 1) = List.range p ++ [p] from List.range_succ, List.flatMap_append]
          simp only [rowN, List.flatMap_cons, List.flatMap_nil, List.append_nil, List.append_assoc]
    · have hp' : p = nn := by omega
      subst hp'
      subst hL
      refine walk ?_
      (first | (apply retRD1 (G := (Mine 9 1 v (namesL p qq).length (ss (namesL p qq)) + H)) (.inr rfl) rfl; (· first | (refine rv_tmp (v := .slice _ _ _) rfl) | exact rv_tmp rfl); (· exact Ent.auto)) | (apply retRD1 (G := (Mine 9 1 v (namesL p qq).length (ss (namesL p qq)) + H)) (.inl rfl) rfl; (· first | (refine rv_tmp (v := .slice _ _ _) rfl) | exact rv_tmp rfl); (· exact Ent.auto)))
      exact Ent.refl _
  · have eall : allN c = [] := by unfold allN; rw [if_neg hR]
    rw [eall]
    refine fn_intro 53 Tryd.func10 rfl rfl rfl ?_
    refine walk ?_
    refine s_box (cs := cv c) rfl rfl rfl ?_
    intro b
    refine walk ?_
    refine s_call rfl (rRight) rfl ?_
    rintro _ _ ⟨e_, rfl⟩
    obtain rfl := e_.symm
    refine walk ?_
    rw [decide_eq_false hR]
    refine walk ?_
    (first | (apply retRD1 (G := H) (.inr rfl) rfl; (· first | (refine rv_tmp (v := .slice _ _ _) rfl) | exact rv_tmp rfl); (· exact Ent.auto)) | (apply retRD1 (G := H) (.inl rfl) rfl; (· first | (refine rv_tmp (v := .slice _ _ _) rfl) | exact rv_tmp rfl); (· exact Ent.auto)))
    exact (by show Ent H (Mine 9 1 (.slice none 0 0) 0 [] + H); rw [Mine.nil, HProp.emp_add]; exact Ent.refl _)
theorem rFind {s : List UInt8} : Does Tryd.prog B 12 [cfgV c, str s] H fun r H' => H' = H ∧ r = .int .i64 (posS (allN c) s) := by
  refine Does.frame0 ?_
  have hbig : (allN c).length ≤ 1000 := by
    by_cases hR : RightP c
    · rw [allN_len hR]
      have h1 := hR.1
      have h2 := hR.2.1
      have h3 := hR.2.2.1
      have : c.n.toNat * (6 + c.q.toNat) ≤ 8 * 70 := Nat.mul_le_mul (by omega) (by unfold RoomP at h1; omega)
      omega
    · unfold allN; rw [if_neg hR]; simp
  refine fn_intro 22 Tryd.func12 rfl rfl rfl ?_
  refine walk ?_
  refine s_box (cs := cv c) rfl rfl rfl ?_
  intro b
  refine walk ?_
  refine s_call rfl rNames rfl ?_
  rintro v _ he
  refine WPL.ent he ?_
  refine WPL.shape ?_
  rintro ao cap rfl _ hcap _
  refine WPL.rd fun rd => ?_
  have rd' := rd
  unfold Rd at rd'
  obtain ⟨_, _, e_, hl, hm, ha⟩ := rd'
  cases e_
  refine walk ?_
  refine wp_loopR (α := Nat) [4, 6, 9, 10, 11, 12, 13, 14, 15, 16, 17, 18, 19, 20, 21] (fun i => [(6, .int .i64 (i : Nat))]) (fun i => i ≤ (allN c).length ∧ ∀ j, j < i → (allN c)[j]? ≠ some s) (fun i => (allN c).length - i) 0 agreed ⟨Nat.zero_le _, fun j hj => by omega⟩ ?_
  rintro i f ⟨hi, hn⟩
  simp only [putAll]
  by_cases hlt : i < (allN c).length
  · obtain ⟨bl, ol, rfl, hcl⟩ := Rd.addr hl ha hlt
    have hcell := hcl.cell (ss_get (allN c) i hlt)
    refine walk ?_
    by_cases hs : (allN c)[i] = s
    · refine s_eqstr rfl rfl (b := true) (by rw [decide_eq_true_eq, str_eq]; exact hs) rfl ?_
      refine walk ?_
      (first | (apply retRD1 (G := H) (.inr rfl) rfl; (· first | (refine rv_tmp (v := .int _ _) rfl) | exact rv_tmp rfl); (· exact Ent.auto)) | (apply retRD1 (G := H) (.inl rfl) rfl; (· first | (refine rv_tmp (v := .int _ _) rfl) | exact rv_tmp rfl); (· exact Ent.auto)))
      exact ⟨Ent.refl _, by rw [posS_at (by rw [List.getElem?_eq_getElem hlt, hs]) hn]⟩
    · refine s_eqstr rfl rfl (b := false) (by rw [decide_eq_false_iff_not, str_eq]; exact hs) rfl ?_
      refine walk ?_
      refine ⟨i + 1, asided, agreed, Ent.refl _, ⟨hlt, fun j hj => ?_⟩, by omega⟩
      by_cases hji : j = i
      · subst hji
        rw [List.getElem?_eq_getElem hlt]
        exact fun e => hs (Option.some.inj e)
      · exact hn j (by omega)
  · refine walk ?_
    (first | (apply retRD1 (G := H) (.inr rfl) rfl; (· first | (refine rv_tmp (v := .int _ _) rfl) | exact rv_tmp rfl); (· exact Ent.auto)) | (apply retRD1 (G := H) (.inl rfl) rfl; (· first | (refine rv_tmp (v := .int _ _) rfl) | exact rv_tmp rfl); (· exact Ent.auto)))
    exact ⟨Ent.refl _, by rw [posS_none fun j hj => hn j (by omega)]⟩
theorem cFind {s : List UInt8} : Does Tryd.prog B 11 [cfgV c, str s] H fun r H' => H' = H ∧ r = .tuple #[.int .i64 (posS (allN c) s), .int .i64 (if posS (allN c) s = -1 then 2 else 0)] := by
  refine Does.frame0 ?_
  by_cases hR : RightP c
  · obtain ⟨nn, hn⟩ := Int.eq_ofNat_of_zero_le (show 0 ≤ c.n by have := hR.2.1; omega)
    obtain ⟨qq, hq⟩ := Int.eq_ofNat_of_zero_le (show 0 ≤ c.q by have := hR.1; unfold RoomP at this; omega)
    obtain ⟨h1, h2, h3, _⟩ := id hR
    have hlen : (allN c).length = 4 + nn * (6 + qq) := by rw [allN_len hR, hn, hq]; rfl
    have hb : nn * (6 + qq) ≤ 8 * 70 := Nat.mul_le_mul (by omega) (by unfold RoomP at h1; omega)
    refine fn_intro 19 Tryd.func11 rfl rfl rfl ?_
    refine walk ?_
    refine s_box (cs := cv c) rfl rfl rfl ?_
    intro b
    refine walk ?_
    refine s_call rfl (cells_yes hR hn hq) rfl ?_
    rintro _ _ ⟨e_, rfl⟩
    obtain rfl := e_.symm
    refine walk ?_
    rw [← hlen]
    refine wp_loopR (α := Nat) [4, 5, 6, 9, 10, 11, 12, 13, 14, 15, 16, 17, 18] (fun i => [(9, .int .i64 (i : Nat))]) (fun i => i ≤ (allN c).length ∧ ∀ j, j < i → (allN c)[j]? ≠ some s) (fun i => (allN c).length - i) 0 agreed ⟨Nat.zero_le _, fun j hj => by omega⟩ ?_
    rintro i f ⟨hi, hno⟩
    simp only [putAll]
    by_cases hlt : i < (allN c).length
    · have en : nmC c i = (allN c)[i] := by rw [nmC_get, if_pos (by omega), Int.toNat_natCast, List.getD_eq_getElem?_getD, List.getElem?_eq_getElem hlt]; rfl
      refine walk ?_
      refine s_call rfl (cName (a := (i : Int))) rfl ?_
      rintro _ _ ⟨e_, rfl⟩
      obtain rfl := e_.symm
      refine walk ?_
      rw [en]
      by_cases hs : (allN c)[i] = s
      · refine s_eqstr rfl rfl (b := true) (by rw [decide_eq_true_eq, str_eq]; exact hs) rfl ?_
        refine walk ?_
        (first | (apply retRD2 (G := H) (.inr rfl) rfl; (· first | (refine rv_tmp (v := .int _ _) rfl) | exact rv_tmp rfl); (· first | (refine rv_tmp (v := .int _ _) rfl) | exact rv_tmp rfl); (· exact Ent.auto)) | (apply retRD2 (G := H) (.inl rfl) rfl; (· first | (refine rv_tmp (v := .int _ _) rfl) | exact rv_tmp rfl); (· first | (refine rv_tmp (v := .int _ _) rfl) | exact rv_tmp rfl); (· exact Ent.auto)))
        exact ⟨Ent.refl _, by rw [posS_at (by rw [List.getElem?_eq_getElem hlt, hs]) hno, if_neg (by omega)]⟩
      · refine s_eqstr rfl rfl (b := false) (by rw [decide_eq_false_iff_not, str_eq]; exact hs) rfl ?_
        refine walk ?_
        refine ⟨i + 1, asided, agreed, Ent.refl _, ⟨hlt, fun j hj => ?_⟩, by omega⟩
        by_cases hji : j = i
        · subst hji
          rw [List.getElem?_eq_getElem hlt]
          exact fun e => hs (Option.some.inj e)
        · exact hno j (by omega)
    · refine walk ?_
      (first | (apply retRD2 (G := H) (.inr rfl) rfl; (· first | (refine rv_tmp (v := .int _ _) rfl) | exact rv_tmp rfl); (· first | (refine rv_tmp (v := .int _ _) rfl) | exact rv_tmp rfl); (· exact Ent.auto)) | (apply retRD2 (G := H) (.inl rfl) rfl; (· first | (refine rv_tmp (v := .int _ _) rfl) | exact rv_tmp rfl); (· first | (refine rv_tmp (v := .int _ _) rfl) | exact rv_tmp rfl); (· exact Ent.auto)))
      exact ⟨Ent.refl _, by rw [posS_none fun j hj => hno j (by omega), if_pos rfl]⟩
  · have eall : allN c = [] := by unfold allN; rw [if_neg hR]
    rw [eall]
    refine fn_intro 19 Tryd.func11 rfl rfl rfl ?_
    refine walk ?_
    refine s_box (cs := cv c) rfl rfl rfl ?_
    intro b
    refine walk ?_
    refine s_call rfl (cells_no hR) rfl ?_
    rintro _ _ ⟨e_, rfl⟩
    obtain rfl := e_.symm
    refine walk ?_
    refine wp_loopR (α := Unit) [4, 5, 6, 9, 10, 11, 12, 13, 14, 15, 16, 17, 18] (fun _ => [(9, .int .i64 0)]) (fun _ => True) (fun _ => 0) () agreed trivial ?_
    rintro _ f _
    simp only [putAll]
    refine walk ?_
    (first | (apply retRD2 (G := H) (.inr rfl) rfl; (· first | (refine rv_tmp (v := .int _ _) rfl) | exact rv_tmp rfl); (· first | (refine rv_tmp (v := .int _ _) rfl) | exact rv_tmp rfl); (· exact Ent.auto)) | (apply retRD2 (G := H) (.inl rfl) rfl; (· first | (refine rv_tmp (v := .int _ _) rfl) | exact rv_tmp rfl); (· first | (refine rv_tmp (v := .int _ _) rfl) | exact rv_tmp rfl); (· exact Ent.auto)))
    exact ⟨Ent.refl _, rfl⟩
/-- A word, and a number. -/
theorem rOf {w : List UInt8} {p : Int} (hw : w.length ≤ 1000) : Does Tryd.prog B 23 [cfgV c, str w, .int .i64 p] H fun r H' => H' = H ∧ r = .int .i64 (if 0 ≤ p ∧ p ≤ 8 then posS (allN c) (w ++ 32 :: dg p.toNat) else -1) := by
  refine Does.frame0 ?_
  refine fn_intro 20 Tryd.func23 rfl rfl rfl ?_
  refine walk ?_
  refine s_box (cs := cv c) rfl rfl rfl ?_
  intro b
  refine walk ?_
  by_cases hp : 0 ≤ p ∧ p ≤ 8
  · obtain ⟨k, rfl⟩ := Int.eq_ofNat_of_zero_le hp.1
    have hd := digits_lt (show k < 100 by omega)
    rw [if_pos hp, Int.toNat_natCast]
    refine walk ?_
    (refine wp_draw [4, 6] (.look 0 (.look 1 (.look 2 (.look 3 (.act 4 (.look 5 (.act 6 (.look 7 .nil) .stop)) .stop))))) (by kernel_rfl) ?_; (apply dw_look; (· exact rfl); (· exact rfl); (· (exact looked))); (apply dw_pure; (· exact rfl); (· exact rfl); (· (intro G; exact looked))); (apply dw_pure; (· exact rfl); (· exact rfl); (· (intro G; (refine s_concat (m := [32]) rfl rfl (by simp only [List.length_cons, List.length_nil]; omega) rfl rfl ?_); exact looked))); (apply dw_pure; (· exact rfl); (· exact rfl); (· (intro G; exact looked))); skip)
    refine dw_do rfl rfl ?_ dw_stop
    refine s_call rfl (rdigits (n := k) (by omega)) rfl ?_
    rintro _ _ ⟨e_, rfl⟩
    obtain rfl := e_.symm
    refine wpl_nil (qone ⟨(by (refine st_again ?_ ?_; (· exact looked)); exact st_nil), ?_⟩)
    ((apply dw_pure; (· exact rfl); (· exact rfl); (· (intro G; (refine s_concat rfl rfl (by simp only [List.length_append, List.length_cons, List.length_nil]; omega) rfl rfl ?_); exact looked))); skip)
    refine dw_do rfl rfl ?_ dw_stop
    refine s_call rfl (rFind (c := c) (s := w ++ [32] ++ dg k)) rfl ?_
    rintro _ _ ⟨e_, rfl⟩
    obtain rfl := e_.symm
    refine wpl_nil (qone ⟨(by refine st_past (by kernel_rfl) ?_; exact st_nil), ?_⟩)
    ((apply dw_pure; (· exact rfl); (· exact rfl); (· (intro G; exact looked))); refine dw_nil ?_; skip)
    refine walk ?_
    (first | (apply retRD1 (G := H) (.inr rfl) rfl; (· first | (refine rv_tmp (v := .int _ _) rfl) | exact rv_tmp rfl); (· exact Ent.auto)) | (apply retRD1 (G := H) (.inl rfl) rfl; (· first | (refine rv_tmp (v := .int _ _) rfl) | exact rv_tmp rfl); (· exact Ent.auto)))
    exact ⟨Ent.refl _, by rw [List.append_assoc]; rfl⟩
  · rw [if_neg hp]
    by_cases h0 : p < 0
    · refine walk ?_
      (first | (apply retRD1 (G := H) (.inr rfl) rfl; (· first | (refine rv_tmp (v := .int _ _) rfl) | exact rv_tmp rfl); (· exact Ent.auto)) | (apply retRD1 (G := H) (.inl rfl) rfl; (· first | (refine rv_tmp (v := .int _ _) rfl) | exact rv_tmp rfl); (· exact Ent.auto)))
      exact ⟨Ent.refl _, rfl⟩
    · refine walk ?_
      (first | (apply retRD1 (G := H) (.inr rfl) rfl; (· first | (refine rv_tmp (v := .int _ _) rfl) | exact rv_tmp rfl); (· exact Ent.auto)) | (apply retRD1 (G := H) (.inl rfl) rfl; (· first | (refine rv_tmp (v := .int _ _) rfl) | exact rv_tmp rfl); (· exact Ent.auto)))
      exact ⟨Ent.refl _, rfl⟩
theorem rSlot {p i : Int} (hi : 0 ≤ i ∧ i < 4294967296) : Does Tryd.prog B 25 [cfgV c, .int .i64 p, .int .u32 i] H fun r H' => H' = H ∧ r = .int .i64 (if 0 ≤ p ∧ p ≤ 8 ∧ RightP c then posS (allN c) (slotN p.toNat (i % c.q).toNat) else -1) := by
  refine Does.frame0 ?_
  refine fn_intro 31 Tryd.func25 rfl rfl rfl ?_
  refine walk ?_
  refine s_box (cs := cv c) rfl rfl rfl ?_
  intro b
  refine walk ?_
  by_cases h0 : p < 0
  · rw [if_neg (by omega)]
    refine walk ?_
    (first | (apply retRD1 (G := H) (.inr rfl) rfl; (· first | (refine rv_tmp (v := .int _ _) rfl) | exact rv_tmp rfl); (· exact Ent.auto)) | (apply retRD1 (G := H) (.inl rfl) rfl; (· first | (refine rv_tmp (v := .int _ _) rfl) | exact rv_tmp rfl); (· exact Ent.auto)))
    exact ⟨Ent.refl _, rfl⟩
  by_cases h8 : 8 < p
  · rw [if_neg (by omega)]
    refine walk ?_
    (first | (apply retRD1 (G := H) (.inr rfl) rfl; (· first | (refine rv_tmp (v := .int _ _) rfl) | exact rv_tmp rfl); (· exact Ent.auto)) | (apply retRD1 (G := H) (.inl rfl) rfl; (· first | (refine rv_tmp (v := .int _ _) rfl) | exact rv_tmp rfl); (· exact Ent.auto)))
    exact ⟨Ent.refl _, rfl⟩
  by_cases hR : RightP c
  · obtain ⟨k, rfl⟩ := Int.eq_ofNat_of_zero_le (show 0 ≤ p by omega)
    have h1 := hR.1
    have hq2 : 2 ≤ c.q ∧ c.q ≤ 64 := by unfold RoomP at h1; omega
    obtain ⟨j, hj⟩ := Int.eq_ofNat_of_zero_le (Int.emod_nonneg i (show c.q ≠ 0 by omega))
    have hj64 : j < 64 := by have := Int.emod_lt_of_pos i (show 0 < c.q by omega); omega
    have hd := digits_lt (show k < 100 by omega)
    have hd2 := digits_lt (show j < 100 by omega)
    rw [if_pos ⟨by omega, by omega, hR⟩, hj, Int.toNat_natCast, Int.toNat_natCast]
    refine walk ?_
    refine s_call rfl (rRight) rfl ?_
    rintro _ _ ⟨e_, rfl⟩
    obtain rfl := e_.symm
    refine walk ?_
    rw [decide_eq_true hR]
    refine walk ?_
    (refine wp_draw [2, 10, 12] (.look 0 (.look 1 (.look 5 (.look 6 (.look 7 (.look 8 (.look 9 (.act 2 (.look 3 (.look 4 (.act 10 (.look 11 (.act 12 (.look 13 .nil) .stop)) .stop))) .stop)))))))) (by kernel_rfl) ?_; (apply dw_look; (· exact rfl); (· exact rfl); (· (exact looked))); (apply dw_pure; (· exact rfl); (· exact rfl); (· (intro G; exact looked))); (apply dw_pure; (· exact rfl); (· exact rfl); (· (intro G; exact looked))); (apply dw_pure; (· exact rfl); (· exact rfl); (· (intro G; exact looked))); (apply dw_pure; (· exact rfl); (· exact rfl); (· (intro G; exact looked))); (apply dw_look; (· exact rfl); (· exact rfl); (· (exact looked))); (apply dw_pure; (· exact rfl); (· exact rfl); (· (intro G; exact looked))); skip)
    refine dw_do rfl rfl ?_ dw_stop
    refine s_call rfl (rdigits (n := k) (by omega)) rfl ?_
    rintro _ _ ⟨e_, rfl⟩
    obtain rfl := e_.symm
    refine wpl_nil (qone ⟨(by (refine st_again ?_ ?_; (· exact looked)); (refine st_again ?_ ?_; (· exact looked)); exact st_nil), ?_⟩)
    ((apply dw_pure; (· exact rfl); (· exact rfl); (· (intro G; (refine s_concat (l := [115, 108, 111, 116, 32]) rfl rfl (by simp only [List.length_cons, List.length_nil]; omega) rfl rfl ?_); exact looked))); (apply dw_pure; (· exact rfl); (· exact rfl); (· (intro G; (refine s_concat (m := [32]) rfl rfl (by simp only [List.length_append, List.length_cons, List.length_nil]; omega) rfl rfl ?_); exact looked))); skip)
    refine dw_do rfl rfl ?_ dw_stop
    rw [hj]
    refine s_call rfl (rdigits (n := j) (by omega)) rfl ?_
    rintro _ _ ⟨e_, rfl⟩
    obtain rfl := e_.symm
    refine wpl_nil (qone ⟨(by refine st_past (by kernel_rfl) ?_; (refine st_again ?_ ?_; (· exact looked)); exact st_nil), ?_⟩)
    ((apply dw_pure; (· exact rfl); (· exact rfl); (· (intro G; (refine s_concat rfl rfl (by simp only [List.length_append, List.length_cons, List.length_nil]; omega) rfl rfl ?_); exact looked))); skip)
    refine dw_do rfl rfl ?_ dw_stop
    refine s_call rfl (rFind (c := c) (s := [115, 108, 111, 116, 32] ++ dg k ++ [32] ++ dg j)) rfl ?_
    rintro _ _ ⟨e_, rfl⟩
    obtain rfl := e_.symm
    refine wpl_nil (qone ⟨(by refine st_past (by kernel_rfl) ?_; refine st_past (by kernel_rfl) ?_; exact st_nil), ?_⟩)
    ((apply dw_pure; (· exact rfl); (· exact rfl); (· (intro G; exact looked))); refine dw_nil ?_; skip)
    refine walk ?_
    (first | (apply retRD1 (G := H) (.inr rfl) rfl; (· first | (refine rv_tmp (v := .int _ _) rfl) | exact rv_tmp rfl); (· exact Ent.auto)) | (apply retRD1 (G := H) (.inl rfl) rfl; (· first | (refine rv_tmp (v := .int _ _) rfl) | exact rv_tmp rfl); (· exact Ent.auto)))
    exact ⟨Ent.refl _, by simp [slotN, slotW]⟩
  · rw [if_neg (fun h => hR h.2.2)]
    refine walk ?_
    refine s_call rfl (rRight) rfl ?_
    rintro _ _ ⟨e_, rfl⟩
    obtain rfl := e_.symm
    refine walk ?_
    rw [decide_eq_false hR]
    refine walk ?_
    (first | (apply retRD1 (G := H) (.inr rfl) rfl; (· first | (refine rv_tmp (v := .int _ _) rfl) | exact rv_tmp rfl); (· exact Ent.auto)) | (apply retRD1 (G := H) (.inl rfl) rfl; (· first | (refine rv_tmp (v := .int _ _) rfl) | exact rv_tmp rfl); (· exact Ent.auto)))
    exact ⟨Ent.refl _, rfl⟩
end
end Go.Proofs.YtoheplamhocloaaDoor
