/- The names of a config's cells, told and found. No condition. -/
import Derived.Test.YtoheplamhocloaaDoorCfConf2
import Derived.Test.YtoheplamhocloaaDoorCfDigR
import Derived.Test.YtoheplamhocloaaDoorCfShelf
import Derived.Test.YtoheplamhocloaaDoorSL4
import Derived.Test.YtoheplamhocloaaDoorSL3
namespace Go.Proofs.YtoheplamhocloaaDoor
open Go Go.SL
set_option linter.unusedSimpArgs false
set_option linter.unusedVariables false
set_option maxRecDepth 10000
set_option maxHeartbeats 2000000
theorem ss_data (l : List (List UInt8)) : (l.map fun x => (⟨x.toArray⟩ : ByteArray)).map (·.data.toList) = l := by
  rw [List.map_map]
  conv => rhs; rw [← List.map_id l]
  refine List.map_congr_left fun x _ => ?_
  simp
section
variable {B : World} {F H G : HProp}
theorem itoaS {i : Nat} (hi : i < 100) : Does Tryd.prog B 35 [.int .i64 i] H fun r H' => H' = H ∧ r = str (dg i) :=
  Does.ofSame fun w _ => Tryd.strconv_Itoa_small i hi w
theorem joinS {l : List (List UInt8)} {b o cap : Nat} {sep : List UInt8} (hc : Cells B H b o (ss l)) (h1 : 1 ≤ l.length) (hcap : l.length ≤ cap) (hl : l.length ≤ 1000000) (hlen : (Lib.join l sep).length ≤ 1000000) :
    Does Tryd.prog B 43 [.slice (some ⟨b, o, none⟩) l.length cap, str sep] H fun r H' => H' = H ∧ r = str (Lib.join l sep) := by
  refine Does.ofBelow fun w hw => ?_
  have hcells := hc w hw
  have hget : ∀ (j : Nat) x, (l.map fun x => (⟨x.toArray⟩ : ByteArray))[j]? = some x → w.cell? ⟨b, o + j, none⟩ = some (.string x) := by
    intro j x hx
    rw [List.getElem?_map] at hx
    refine hcells j _ ?_
    unfold ss
    rw [List.getElem?_map]
    cases hj : l[j]? with
    | none => rw [hj] at hx; cases hx
    | some y => rw [hj] at hx; cases hx; rfl
  have hb : b < w.heap.size := by
    have h0 := hget 0 ⟨(l[0]'(by omega)).toArray⟩ (by rw [List.getElem?_map, List.getElem?_eq_getElem (by omega)]; rfl)
    exact block_lt_of_cell h0
  have key := Tryd.strings_Join b o cap (l.map fun x => (⟨x.toArray⟩ : ByteArray)) ⟨sep.toArray⟩ w hget hb (by rw [List.length_map]; omega) (by rw [List.length_map]; exact hcap) (by rw [ss_data]; show (Lib.join l sep).length ≤ _; omega)
  rw [ss_data, List.length_map] at key
  exact key
end
attribute [local irreducible] WP WPL QSeq QBlk QRet Does Cell Cells Rd Mine Ent Aside RV Yield
section
variable {B : World} {F H G : HProp} {c : Cfg} {nn qq : Nat}
theorem words_spec {l : List (List UInt8)} {b o cap : Nat} (hc : Cells B H b o (ss l)) (h1 : 1 ≤ l.length) (hcap : l.length ≤ cap) (hl : l.length ≤ 1000000) (hlen : (Lib.join l [32]).length ≤ 1000000) :
    Does Tryd.prog B 36 [.slice (some ⟨b, o, none⟩) l.length cap] H fun r H' => H' = H ∧ r = str (Lib.join l [32]) := by
  refine fn_intro 5 Tryd.func36 rfl rfl rfl ?_
  refine walk ?_
  refine s_call rfl (joinS (sep := [32]) hc h1 hcap hl hlen) rfl ?_
  rintro _ _ ⟨e_, rfl⟩
  obtain rfl := e_.symm
  refine walk ?_
  (first | refine ret1 (v := .string _) (.inr rfl) rfl rfl ?_ | refine ret1  (.inr rfl) rfl rfl ?_ | refine ret1 (v := .string _) (.inl rfl) rfl rfl ?_ | refine ret1  (.inl rfl) rfl rfl ?_)
  exact ⟨rfl, rfl⟩
theorem heads_spec : Does Tryd.prog B 33 [] H fun r H' => H' = H ∧ r = .agg (ss heads).toArray := by
  refine Does.frame0 ?_
  refine fn_intro 2 Tryd.func33 rfl rfl rfl ?_
  refine walk ?_
  refine s_alloc rfl ?_
  intro b
  refine walk ?_
  (refine s_buildA (cs := ss heads) ?_ rfl ?_; (· kernel_rfl))
  refine s_storeV (vs := ss heads) rfl rfl rfl rfl rfl ?_
  refine walk ?_
  (first | (apply retRD1 (G := H) (.inr rfl) rfl; (· first | (refine rv_cell (v := .agg _) rfl (Cell.blk rfl)) | exact rv_cellA rfl Cells.blk0 rfl | (apply rv_cell; (· exact rfl); (· assumption)) | (apply rv_cellA; (· exact rfl); (· assumption); (· exact rfl))); (· exact Ent.auto)) | (apply retRD1 (G := H) (.inl rfl) rfl; (· first | (refine rv_cell (v := .agg _) rfl (Cell.blk rfl)) | exact rv_cellA rfl Cells.blk0 rfl | (apply rv_cell; (· exact rfl); (· assumption)) | (apply rv_cellA; (· exact rfl); (· assumption); (· exact rfl))); (· exact Ent.auto)))
  exact ⟨Ent.refl _, rfl⟩
abbrev seven : List (List UInt8) := parts ++ [slotW]
theorem parts_spec : Does Tryd.prog B 34 [] H fun r H' => H' = H ∧ r = .agg (ss seven).toArray := by
  refine Does.frame0 ?_
  refine fn_intro 2 Tryd.func34 rfl rfl rfl ?_
  refine walk ?_
  refine s_alloc rfl ?_
  intro b
  refine walk ?_
  (refine s_buildA (cs := ss seven) ?_ rfl ?_; (· kernel_rfl))
  refine s_storeV (vs := ss seven) rfl rfl rfl rfl rfl ?_
  refine walk ?_
  (first | (apply retRD1 (G := H) (.inr rfl) rfl; (· first | (refine rv_cell (v := .agg _) rfl (Cell.blk rfl)) | exact rv_cellA rfl Cells.blk0 rfl | (apply rv_cell; (· exact rfl); (· assumption)) | (apply rv_cellA; (· exact rfl); (· assumption); (· exact rfl))); (· exact Ent.auto)) | (apply retRD1 (G := H) (.inl rfl) rfl; (· first | (refine rv_cell (v := .agg _) rfl (Cell.blk rfl)) | exact rv_cellA rfl Cells.blk0 rfl | (apply rv_cell; (· exact rfl); (· assumption)) | (apply rv_cellA; (· exact rfl); (· assumption); (· exact rfl))); (· exact Ent.auto)))
  exact ⟨Ent.refl _, rfl⟩
theorem digits_lt {n : Nat} (h : n < 100) : (dg n).length ≤ 2 := by
  show (Lib.decDigits n).length ≤ 2
  rw [dec_step]
  split
  · simp
  · rw [List.length_append, Lib.decDigits_one (by omega)]; simp
theorem rdigits {n : Nat} (h : n < 100) : Does Tryd.prog B 31 [.int .i64 n] H fun r H' => H' = H ∧ r = str (dg n) := by
  have := digits_spec (B := B) (H := H) (u := n) (least := 1) (by omega) (by omega)
  rw [digGo_one] at this
  refine fn_intro 6 Tryd.func31 rfl rfl rfl ?_
  refine walk ?_
  refine s_call rfl (this) rfl ?_
  rintro _ _ ⟨e_, rfl⟩
  obtain rfl := e_.symm
  refine walk ?_
  (first | refine ret1 (v := .string _) (.inr rfl) rfl rfl ?_ | refine ret1  (.inr rfl) rfl rfl ?_ | refine ret1 (v := .string _) (.inl rfl) rfl rfl ?_ | refine ret1  (.inl rfl) rfl rfl ?_)
  exact ⟨rfl, rfl⟩
/-- The name of an address, or none. -/
def nmC (c : Cfg) (a : Int) : List UInt8 := if RightP c ∧ 0 ≤ a ∧ a < 4 + c.n * (6 + c.q) then nameOf c.q.toNat a.toNat else []
theorem nmC_at (h : RightP c) (hn : c.n = nn) (hq : c.q = qq) {k : Nat} (hk : k < 4 + nn * (6 + qq)) : nmC c k = nameOf qq k := by
  have e : c.n * (6 + c.q) = ((nn * (6 + qq) : Nat) : Int) := by rw [hn, hq]; push_cast; rfl
  unfold nmC
  rw [if_pos ⟨h, by omega, by omega⟩, hq]; rfl
theorem cName {a : Int} : Does Tryd.prog B 13 [cfgV c, .int .i64 a] H fun r H' => H' = H ∧ r = str (nmC c a) := by
  refine Does.frame0 ?_
  by_cases hR : RightP c
  · obtain ⟨nn, hn⟩ := Int.eq_ofNat_of_zero_le (show 0 ≤ c.n by have := hR.2.1; omega)
    obtain ⟨qq, hq⟩ := Int.eq_ofNat_of_zero_le (show 0 ≤ c.q by have := hR.1; unfold RoomP at this; omega)
    obtain ⟨h1, h2, h3, _⟩ := id hR
    have hq2 : 2 ≤ qq ∧ qq ≤ 64 := by unfold RoomP at h1; omega
    have hb : nn * (6 + qq) ≤ 8 * 70 := Nat.mul_le_mul (by omega) (by omega)
    have e : c.n * (6 + c.q) = ((nn * (6 + qq) : Nat) : Int) := by rw [hn, hq]; push_cast; rfl
    refine fn_intro 48 Tryd.func13 rfl rfl rfl ?_
    refine walk ?_
    refine s_box (cs := cv c) rfl rfl rfl ?_
    intro b
    refine walk ?_
    refine s_call rfl (cells_yes hR hn hq) rfl ?_
    rintro _ _ ⟨e_, rfl⟩
    obtain rfl := e_.symm
    refine walk ?_
    by_cases ha : 0 ≤ a ∧ a < 4 + c.n * (6 + c.q)
    · obtain ⟨k, rfl⟩ := Int.eq_ofNat_of_zero_le ha.1
      have hk : k < 4 + nn * (6 + qq) := by omega
      rw [nmC_at hR hn hq hk]
      refine s_call rfl (within_t (x := (k : Int)) (by omega)) rfl ?_
      rintro _ _ ⟨e_, rfl⟩
      obtain rfl := e_.symm
      refine walk ?_
      unfold nameOf
      by_cases hk4 : k < 4
      · rw [if_pos hk4]
        refine walk ?_
        refine s_call rfl (heads_spec) rfl ?_
        rintro _ _ ⟨e_, rfl⟩
        obtain rfl := e_.symm
        refine walk ?_
        refine s_indexV (j := k) (v := str (heads.getD k [])) rfl rfl rfl hk4 ?_ rfl ?_
        · rw [ss_get _ _ (by show k < 4; exact hk4), List.getD_eq_getElem?_getD, List.getElem?_eq_getElem (by show k < 4; exact hk4)]; rfl
        refine walk ?_
        (first | (apply retRD1 (G := H) (.inr rfl) rfl; (· first | (refine rv_tmp (v := .string _) rfl) | exact rv_tmp rfl); (· exact Ent.auto)) | (apply retRD1 (G := H) (.inl rfl) rfl; (· first | (refine rv_tmp (v := .string _) rfl) | exact rv_tmp rfl); (· exact Ent.auto)))
        exact ⟨Ent.refl _, rfl⟩
      · rw [if_neg hk4]
        have e1 : ((k : Int) - 4) / (6 + c.q) = (((k - 4) / (6 + qq) : Nat) : Int) := by
          rw [hq, show ((k : Int) - 4) = ((k - 4 : Nat) : Int) by omega, show (6 + (qq : Int)) = ((6 + qq : Nat) : Int) by omega]; exact (Int.natCast_ediv _ _).symm
        have e2 : ((k : Int) - 4) % (6 + c.q) = (((k - 4) % (6 + qq) : Nat) : Int) := by
          rw [hq, show ((k : Int) - 4) = ((k - 4 : Nat) : Int) by omega, show (6 + (qq : Int)) = ((6 + qq : Nat) : Int) by omega]; exact (Int.natCast_emod _ _).symm
        have hp8 : (k - 4) / (6 + qq) < nn := Nat.div_lt_of_lt_mul (by rw [Nat.mul_comm]; omega)
        have hi70 : (k - 4) % (6 + qq) < 6 + qq := Nat.mod_lt _ (by omega)
        generalize (k - 4) / (6 + qq) = pp at *
        generalize (k - 4) % (6 + qq) = ii at *
        refine walk ?_
        (refine wp_draw [] (.look 0 (.look 1 (.look 2 (.look 3 (.look 4 (.look 5 (.look 6 (.look 7 (.look 8 (.look 9 (.look 10 (.look 11 (.look 12 (.look 13 .nil)))))))))))))) (by kernel_rfl) ?_; (apply dw_pure; (· exact rfl); (· exact rfl); (· (intro G; exact looked))); (apply dw_pure; (· exact rfl); (· exact rfl); (· (intro G; exact looked))); (apply dw_pure; (· exact rfl); (· exact rfl); (· (intro G; exact looked))); (apply dw_look; (· exact rfl); (· exact rfl); (· (exact looked))); (apply dw_pure; (· exact rfl); (· exact rfl); (· (intro G; exact looked))); (apply dw_pure; (· exact rfl); (· exact rfl); (· (intro G; exact looked))); (apply dw_pure; (· exact rfl); (· exact rfl); (· (intro G; exact looked))); (apply dw_pure; (· exact rfl); (· exact rfl); (· (intro G; exact looked))); (apply dw_pure; (· exact rfl); (· exact rfl); (· (intro G; exact looked))); (apply dw_look; (· exact rfl); (· exact rfl); (· (exact looked))); (apply dw_pure; (· exact rfl); (· exact rfl); (· (intro G; exact looked))); (apply dw_pure; (· exact rfl); (· exact rfl); (· (intro G; exact looked))); (apply dw_pure; (· exact rfl); (· exact rfl); (· (intro G; exact looked))); (apply dw_pure; (· exact rfl); (· exact rfl); (· (intro G; exact looked))); refine dw_nil ?_)
        refine walk ?_
        rw [e1, e2]
        have hd := digits_lt (show pp < 100 by omega)
        have hj7 : min ii 6 < 7 := by omega
        have hmin : min (ii : Int) 6 = ((min ii 6 : Nat) : Int) := by omega
        obtain ⟨wv, hv, hwv⟩ : ∃ wv, (ss seven)[min ii 6]? = some (str wv) ∧ wv = seven.getD (min ii 6) [] := by
          refine ⟨_, ?_, rfl⟩
          rw [ss_get _ _ (by show min ii 6 < 7; exact hj7), List.getD_eq_getElem?_getD, List.getElem?_eq_getElem (by show min ii 6 < 7; exact hj7)]; rfl
        by_cases hi6 : ii < 6
        · have hcell : cellN qq pp ii = Lib.join [parts.getD ii [], dg pp] [32] := by unfold cellN partN; rw [if_pos hi6, join_two, List.append_assoc]; rfl
          have hww : wv = parts.getD ii [] := by
            rw [hwv, Nat.min_eq_left (by omega)]
            have : ∀ j, j < 6 → seven.getD j [] = parts.getD j [] := by decide
            exact this ii hi6
          subst hww
          have hlen : (parts.getD ii []).length ≤ 10 := by
            have : ∀ j, j < 6 → (parts.getD j []).length ≤ 10 := by decide
            exact this ii hi6
          rw [hcell]
          (refine wp_draw [0, 5, 6] (.look 1 (.look 2 (.look 4 (.act 0 (.look 3 (.act 5 (.act 6 (.look 7 .nil) .stop) .stop)) .stop)))) (by kernel_rfl) ?_; (apply dw_pure; (· exact rfl); (· exact rfl); (· (intro G; exact looked))); (apply dw_pure; (· exact rfl); (· exact rfl); (· (intro G; (refine s_min2 rfl rfl hmin rfl ?_); exact looked))); (apply dw_pure; (· exact rfl); (· exact rfl); (· (intro G; exact looked))); skip)
          refine dw_do rfl rfl ?_ dw_stop
          refine s_call rfl (parts_spec) rfl ?_
          rintro _ _ ⟨e_, rfl⟩
          obtain rfl := e_.symm
          refine wpl_nil (qone ⟨(by exact st_nil), ?_⟩)
          ((apply dw_pure; (· exact rfl); (· exact rfl); (· (intro G; (refine s_indexV (j := min ii 6) rfl rfl rfl hj7 hv rfl ?_); exact looked))); skip)
          refine dw_do rfl rfl ?_ dw_stop
          refine s_call rfl (itoaS (i := pp) (by omega)) rfl ?_
          rintro _ _ ⟨e_, rfl⟩
          obtain rfl := e_.symm
          refine wpl_nil (qone ⟨(by exact st_nil), ?_⟩)
          (skip)
          refine dw_do rfl rfl ?_ dw_stop
          refine s_buildInts (cs := ss [parts.getD ii [], dg pp]) rfl rfl rfl rfl rfl ?_
          intro b6
          refine wpl_nil (qone ⟨(by exact st_nil), ?_⟩)
          ((apply dw_pure; (· exact rfl); (· exact rfl); (· (intro G; exact looked))); refine dw_nil ?_; skip)
          refine walk ?_
          refine s_call rfl (words_spec (l := [parts.getD ii [], dg pp]) Cells.blk0 (by simp) (Nat.le_refl _) (by simp) (by rw [join_two, List.length_append, List.length_append]; simp only [List.length_cons, List.length_nil]; omega)) rfl ?_
          rintro _ _ ⟨e_, rfl⟩
          obtain rfl := e_.symm
          refine walk ?_
          (first | (apply retRD1 (G := H) (.inr rfl) rfl; (· first | (refine rv_tmp (v := .string _) rfl) | exact rv_tmp rfl); (· exact Ent.auto)) | (apply retRD1 (G := H) (.inl rfl) rfl; (· first | (refine rv_tmp (v := .string _) rfl) | exact rv_tmp rfl); (· exact Ent.auto)))
          exact ⟨Ent.refl _, rfl⟩
        · have hcell : cellN qq pp ii = Lib.join [slotW, dg pp, dg (ii - 6)] [32] := by unfold cellN slotN; rw [if_neg hi6, join_three]; simp
          have hww : wv = slotW := by rw [hwv, Nat.min_eq_right (by omega)]; rfl
          subst hww
          have hd2 := digits_lt (show ii - 6 < 100 by omega)
          have e3 : (ii : Int) - 6 = ((ii - 6 : Nat) : Int) := by omega
          rw [hcell]
          (refine wp_draw [0, 5, 6] (.look 1 (.look 2 (.look 4 (.act 0 (.look 3 (.act 5 (.act 6 (.look 7 .nil) .stop) .stop)) .stop)))) (by kernel_rfl) ?_; (apply dw_pure; (· exact rfl); (· exact rfl); (· (intro G; exact looked))); (apply dw_pure; (· exact rfl); (· exact rfl); (· (intro G; (refine s_min2 rfl rfl hmin rfl ?_); exact looked))); (apply dw_pure; (· exact rfl); (· exact rfl); (· (intro G; exact looked))); skip)
          refine dw_do rfl rfl ?_ dw_stop
          refine s_call rfl (parts_spec) rfl ?_
          rintro _ _ ⟨e_, rfl⟩
          obtain rfl := e_.symm
          refine wpl_nil (qone ⟨(by exact st_nil), ?_⟩)
          ((apply dw_pure; (· exact rfl); (· exact rfl); (· (intro G; (refine s_indexV (j := min ii 6) rfl rfl rfl hj7 hv rfl ?_); exact looked))); skip)
          refine dw_do rfl rfl ?_ dw_stop
          refine s_call rfl (itoaS (i := pp) (by omega)) rfl ?_
          rintro _ _ ⟨e_, rfl⟩
          obtain rfl := e_.symm
          refine wpl_nil (qone ⟨(by exact st_nil), ?_⟩)
          (skip)
          refine dw_do rfl rfl ?_ dw_stop
          refine s_buildInts (cs := ss [slotW, dg pp]) rfl rfl rfl rfl rfl ?_
          intro b6
          refine wpl_nil (qone ⟨(by exact st_nil), ?_⟩)
          ((apply dw_pure; (· exact rfl); (· exact rfl); (· (intro G; exact looked))); refine dw_nil ?_; skip)
          refine walk ?_
          rw [e3]
          refine s_call rfl (itoaS (i := ii - 6) (by omega)) rfl ?_
          rintro _ _ ⟨e_, rfl⟩
          obtain rfl := e_.symm
          refine walk ?_
          refine s_buildInts (cs := ss [dg (ii - 6)]) rfl rfl rfl rfl rfl ?_
          intro b7
          refine WPL.ent (Ent.step (A := blk b6 (ss [slotW, dg pp]) 9) (Mine.of_blk (sz := 1) (n := 2) (cap := 2) (spare := []) (by rw [List.append_nil]) rfl (Nat.le_refl _) (by simp [maxLen]) rfl) (Ent.refl _)) ?_
          refine s_append (v := .slice (some ⟨b6, 0, none⟩) 2 2) rfl rfl (Rd.blk0 (m := 1) (e := 9) rfl (by simp [maxLen])) rfl rfl ?_ rfl ?_
          · simp only [maxLen]; omega
          intro v'
          refine WPL.shape ?_
          rintro av cv' rfl _ hcv _
          refine WPL.open (by omega) ?_
          rintro g9 sp rfl _
          have hc9 : Cells B (blk g9 (ss [slotW, dg pp] ++ ss [dg (ii - 6)] ++ sp) 9) g9 0 (ss [slotW, dg pp, dg (ii - 6)]) := by
            refine Cells.blk ?_
            intro j v h
            have hlt : j < (ss [slotW, dg pp] ++ ss [dg (ii - 6)]).length := (List.getElem?_eq_some_iff.1 h).1
            rw [Nat.zero_add, List.getElem?_append_left hlt]
            exact h
          refine walk ?_
          refine s_call rfl (words_spec (l := [slotW, dg pp, dg (ii - 6)]) (hc9.ent InH.ent) (by simp) hcv (by simp) (by rw [join_three]; simp [slotW]; omega)) rfl ?_
          rintro _ _ ⟨e_, rfl⟩
          obtain rfl := e_.symm
          refine walk ?_
          (first | (apply retRD1 (G := H) (.inr rfl) rfl; (· first | (refine rv_tmp (v := .string _) rfl) | exact rv_tmp rfl); (· exact Ent.auto)) | (apply retRD1 (G := H) (.inl rfl) rfl; (· first | (refine rv_tmp (v := .string _) rfl) | exact rv_tmp rfl); (· exact Ent.auto)))
          exact ⟨Ent.refl _, rfl⟩
    · have e0 : nmC c a = [] := by unfold nmC; rw [if_neg fun h => ha h.2]
      rw [e0]
      refine s_call rfl (within_f (x := a) (by omega)) rfl ?_
      rintro _ _ ⟨e_, rfl⟩
      obtain rfl := e_.symm
      refine walk ?_
      (first | (apply retRD1 (G := H) (.inr rfl) rfl; (· first | (refine rv_tmp (v := .string _) rfl) | exact rv_tmp rfl); (· exact Ent.auto)) | (apply retRD1 (G := H) (.inl rfl) rfl; (· first | (refine rv_tmp (v := .string _) rfl) | exact rv_tmp rfl); (· exact Ent.auto)))
      exact ⟨Ent.refl _, rfl⟩
  · have e0 : nmC c a = [] := by unfold nmC; rw [if_neg fun h => hR h.1]
    rw [e0]
    refine fn_intro 48 Tryd.func13 rfl rfl rfl ?_
    refine walk ?_
    refine s_box (cs := cv c) rfl rfl rfl ?_
    intro b
    refine walk ?_
    refine s_call rfl (cells_no hR) rfl ?_
    rintro _ _ ⟨e_, rfl⟩
    obtain rfl := e_.symm
    refine walk ?_
    refine s_call rfl (within_f (x := a) (by omega)) rfl ?_
    rintro _ _ ⟨e_, rfl⟩
    obtain rfl := e_.symm
    refine walk ?_
    (first | (apply retRD1 (G := H) (.inr rfl) rfl; (· first | (refine rv_tmp (v := .string _) rfl) | exact rv_tmp rfl); (· exact Ent.auto)) | (apply retRD1 (G := H) (.inl rfl) rfl; (· first | (refine rv_tmp (v := .string _) rfl) | exact rv_tmp rfl); (· exact Ent.auto)))
    exact ⟨Ent.refl _, rfl⟩
end
end Go.Proofs.YtoheplamhocloaaDoor
