/- The law of books. No condition. -/
import Derived.Test.YtofgpppnknpblaaGreatDoorNzBook7
import Derived.Test.YtofgpppnknpblaaGreatDoorSL4
namespace Go.Proofs.YtofgpppnknpblaaGreatDoor
open Go Go.SL
set_option linter.unusedSimpArgs false
set_option linter.unusedVariables false
set_option maxRecDepth 10000
set_option maxHeartbeats 4000000
/-- One call's notes, as they came. -/
structure NRow where
  ao : Option Addr
  cap : Nat
  l : List Nt
abbrev NRow.v (a : NRow) : Value := .slice a.ao a.l.length a.cap
def rowsN (R : List NRow) : List Value := R.map NRow.v
theorem nvs_set0 {l : List Nt} {k : Nat} {sp : List Value} {v : Int} (h : k < l.length) : (nvs l ++ sp).set (k * 5) (.int .i64 v) = nvs (l.set k { l[k] with kind := v }) ++ sp := by
  have hl : (nvs (l.take k)).length = k * 5 := by rw [nvs_len, List.length_take]; omega
  have e2 : l.set k { l[k] with kind := v } = l.take k ++ { l[k] with kind := v } :: l.drop (k + 1) := by rw [List.set_eq_take_append_cons_drop, if_pos h]
  rw [e2, nvs_app, nvs_split h]
  simp only [nvs, List.append_assoc]
  rw [List.set_append_right _ _ (by omega), hl, Nat.sub_self]
  rfl
attribute [local irreducible] WP WPL QSeq QBlk QRet Does Cell Cells Rd Mine Ent Aside RV Yield IterAt
section
variable {B : World} {F H G X Y : HProp} {n : Nat} {k v i g : Int} {b c m : Nat} {ao : Option Addr} {s u fv : Value} {L M : List Nt} {p : Nt → Bool} {K : List Int} {R : List NRow}
theorem rowsN_cell {o : Nat} (h : Cells B H b o (rowsN R)) {j : Nat} (hj : j < R.length) : Cell B H b (o + j) (.slice R[j].ao R[j].l.length R[j].cap) := by
  have e : (rowsN R)[j]? = some R[j].v := by unfold rowsN; rw [List.getElem?_map, List.getElem?_eq_getElem hj]; rfl
  exact h.cell (j := j) e
theorem sameB (hm : L.length = m) [i : HasOwn H s 31 5 m (nvs L) F] (hu : Rd B F 5 u m (nvs L)) : Does Tryz.prog B 27 [s, u] H fun r H' => H' = F ∧ r = .bool true := by
  subst hm
  exact (sameNotes (i := i) hu).weak fun r H1 ⟨e, h⟩ => ⟨_, e ▸ Ent.refl _, rfl, by rw [h, decide_eq_true rfl]⟩
theorem all_push {j : Nat} (h : j < M.length) : (M.take (j + 1)).all (fun x => decide (RightN x)) = ((M.take j).all (fun x => decide (RightN x)) && decide (RightN M[j])) := by
  rw [take_push h, List.all_append]; simp
theorem books_law (T : Tab B) (hs : Rd B H 1 s R.length (rowsN R)) (hrow : ∀ a ∈ R, Rd B H 5 (.slice a.ao a.l.length a.cap) a.l.length (nvs a.l)) (hk : Rd B H 1 u K.length (zs K)) :
    Does Tryz.prog B 11 [s, u, .int .i64 g, .int .i64 i] H fun r H' => H' = H ∧ r = .bool true := by
  refine Does.frame0 ?_
  have hk0 := hk
  unfold Rd at hs hk
  obtain ⟨ao, cap, rfl, hl, hm, ha⟩ := hs
  obtain ⟨ko, kc, rfl, hkl, hkm, hka⟩ := hk
  unfold maxLen at hm hkm
  refine fn_intro 162 Tryz.func11 rfl rfl rfl ?_
  refine walk ?_
  by_cases h12 : R.length ≤ 12
  case neg =>
    refine walk ?_
    refine s_call rfl (works_spec T) rfl ?_
    rintro _ _ ⟨e_, rfl⟩
    obtain rfl := e_.symm
    refine walk ?_
    (first | (apply retRD1 (G := H) (.inr rfl) rfl; (· first | (refine rv_tmp (v := .bool _) rfl) | exact rv_tmp rfl); (· exact Ent.auto)) | (apply retRD1 (G := H) (.inl rfl) rfl; (· first | (refine rv_tmp (v := .bool _) rfl) | exact rv_tmp rfl); (· exact Ent.auto)))
    exact ⟨Ent.refl _, rfl⟩
  by_cases h20 : K.length ≤ 20
  case neg =>
    refine walk ?_
    refine s_call rfl (works_spec T) rfl ?_
    rintro _ _ ⟨e_, rfl⟩
    obtain rfl := e_.symm
    refine walk ?_
    (first | (apply retRD1 (G := H) (.inr rfl) rfl; (· first | (refine rv_tmp (v := .bool _) rfl) | exact rv_tmp rfl); (· exact Ent.auto)) | (apply retRD1 (G := H) (.inl rfl) rfl; (· first | (refine rv_tmp (v := .bool _) rfl) | exact rv_tmp rfl); (· exact Ent.auto)))
    exact ⟨Ent.refl _, rfl⟩
  refine walk ?_
  refine s_alloc rfl ?_
  intro b
  refine walk ?_
  refine wp_loopF (α := Nat × Option Addr × Nat × List Nt) [8, 10, 11, 12, 13, 14, 15, 16, 17, 18, 19, 20, 21, 31, 32, 33, 34, 35, 36, 37, 38, 39, 40, 41, 42, 43, 44, 45, 46, 47, 48, 49, 50, 51, 52, 53, 54, 55, 56, 57, 58, 59, 60, 61, 62, 63, 64, 65, 66, 67, 68, 69, 70, 71, 72, 73, 74, 75, 76, 77, 78, 79, 80, 81, 82, 83, 84, 85, 86, 87, 88, 89, 90, 91, 92, 93, 94, 95, 96, 97, 98, 99, 100, 101, 102, 103, 104, 105, 106, 107, 108, 109, 110, 111, 112, 113, 114, 115, 116, 117, 118, 119, 120, 121, 122, 123, 124, 125, 126, 127, 128, 129, 130, 131, 132, 133, 134, 135, 136, 137, 138, 139, 140, 141, 142, 143, 144, 145, 146, 147, 148, 149, 150, 151, 152, 153, 154, 155, 156, 157, 158, 159, 160] (fun x => [(10, .slice x.2.1 x.2.2.2.length x.2.2.1), (11, .int .i64 (x.1 : Nat))]) (fun x => BookAt b x.2.2.2 + (Mine 25 5 (.slice x.2.1 x.2.2.2.length x.2.2.1) x.2.2.2.length (nvs x.2.2.2) + H)) (fun x => x.1 ≤ R.length ∧ x.2.2.2.length ≤ 20 * x.1 ∧ ∀ n ∈ x.2.2.2, RightN n) (fun x => R.length - x.1) (0, none, 0, []) agreed ?_ ⟨Nat.zero_le _, Nat.zero_le _, fun n hn => absurd hn (List.not_mem_nil)⟩ ?_
  · refine book_new.trans ?_
    show Ent _ (BookAt b [] + (Mine 25 5 (.slice none 0 0) 0 [] + _))
    rw [Mine.nil, HProp.emp_add]
    exact Ent.refl _
  rintro ⟨k, ro, rc, L⟩ f ⟨hkr, hL, hR⟩
  simp only at hkr hL hR
  simp only [putAll]
  refine WP.ent (Ent.of_eq (HProp.add_left_comm _ _ _)) ?_
  refine WP.rd fun hr0 => ?_
  refine WP.shape ?_
  rintro ao9 cap9 e9 _ hrc1 hrc2
  have hrc : L.length ≤ rc ∧ rc ≤ maxLen := by
    cases e9
    exact ⟨hrc1, hrc2⟩
  clear hrc1 hrc2 e9
  by_cases hlt : k < R.length
  case neg =>
    obtain rfl : k = R.length := by omega
    refine walk ?_
    refine s_call rfl (works_spec T) rfl ?_
    rintro _ _ ⟨e_, rfl⟩
    obtain rfl := e_.symm
    refine walk ?_
    (first | (apply retRD1 (G := H) (.inr rfl) rfl; (· first | (refine rv_tmp (v := .bool _) rfl) | exact rv_tmp rfl); (· exact Ent.auto)) | (apply retRD1 (G := H) (.inl rfl) rfl; (· first | (refine rv_tmp (v := .bool _) rfl) | exact rv_tmp rfl); (· exact Ent.auto)))
    exact ⟨Ent.refl _, rfl⟩
  obtain ⟨bl, ol, rfl, hrows⟩ : ∃ b o, ao = some ⟨b, o, none⟩ ∧ Cells B H b o (rowsN R) := by
    rcases ha with h | h
    · have : (rowsN R).length = 0 := by rw [h]; rfl
      unfold rowsN at this
      rw [List.length_map] at this
      omega
    · exact h
  have hrk := rowsN_cell hrows hlt
  have hMr := hrow R[k] (List.getElem_mem hlt)
  generalize hMe : R[k] = a at hrk hMr
  obtain ⟨xo, xc, M⟩ := a
  simp only at hrk hMr
  by_cases hM : M.length ≤ 20
  case neg =>
    refine walk ?_
    refine s_call rfl (works_spec T) rfl ?_
    rintro _ _ ⟨e_, rfl⟩
    obtain rfl := e_.symm
    refine walk ?_
    (first | (apply retRD1 (G := H) (.inr rfl) rfl; (· first | (refine rv_tmp (v := .bool _) rfl) | exact rv_tmp rfl); (· exact Ent.auto)) | (apply retRD1 (G := H) (.inl rfl) rfl; (· first | (refine rv_tmp (v := .bool _) rfl) | exact rv_tmp rfl); (· exact Ent.auto)))
    exact ⟨Ent.refl _, rfl⟩
  refine walk ?_
  refine s_call rfl (bCopy (b := b) (L := L) (by omega)) rfl ?_
  rintro _ _ ⟨b', rfl, rfl⟩
  refine walk ?_
  refine s_call rfl (dNotes (hMr.ent InH.ent) (by omega)) rfl ?_
  rintro vo _ rfl
  refine walk ?_
  refine WP.rd fun hown => ?_
  have hown0 := hown
  unfold Rd at hown
  obtain ⟨oo, oc, rfl, hol, _, hoa⟩ := hown
  refine walk ?_
  refine wp_loopR (α := Nat) [15, 16, 51, 52, 53, 54, 55, 56, 57, 58, 59, 60, 61, 62, 63, 64] (fun m => [(15, .bool ((M.take m).all fun x => decide (RightN x))), (16, .int .i64 (m : Nat))]) (fun m => m ≤ M.length) (fun m => M.length - m) 0 agreed (Nat.zero_le _) ?_
  rintro m f1 hm1
  simp only [putAll]
  by_cases hml : m < M.length
  case pos =>
    obtain ⟨bo, oo', rfl, hoc⟩ := Rd.addr5 hol hoa (show 0 < M.length by omega)
    have hoc1 := nvs_cells hoc hml
    cases hb : (M.take m).all fun x => decide (RightN x) with
    | true =>
      refine walk ?_
      refine s_call rfl (rRight (n := M[m])) rfl ?_
      rintro _ _ ⟨e_, rfl⟩
      obtain rfl := e_.symm
      refine walk ?_
      refine ⟨m + 1, asided, ?_, Ent.refl _, hml, by omega⟩
      rw [all_push hml, hb, Bool.true_and]
      exact agreed
    | false =>
      refine walk ?_
      refine ⟨m + 1, asided, ?_, Ent.refl _, hml, by omega⟩
      rw [all_push hml, hb, Bool.false_and]
      exact agreed
  obtain rfl : m = M.length := by omega
  rw [List.take_length]
  refine walk ?_
  refine WPL.ent (Ent.of_eq (HProp.emp_add _).symm) ?_
  rw [← Mine.nil 31 5]
  refine s_append (v := .slice none 0 0) rfl rfl (hMr.ent InH.ent) (nvs_one _) rfl ?_ rfl ?_
  · simp only [maxLen]; omega
  intro vi
  rw [Nat.zero_add, List.nil_append]
  refine WPL.shape ?_
  rintro io ic rfl _ hic hic2
  refine WPL.rd fun hin => ?_
  refine walk ?_
  refine s_call rfl (bAdd (b := b) (L := L) (by omega) (hin.ent InH.ent) (by omega)) rfl ?_
  rintro _ _ ⟨rfl, rfl⟩
  cases hall : M.all fun x => decide (RightN x) with
  | true =>
    simp only [if_true]
    refine walk ?_
    refine wp_loopS (α := Nat × List Nt) [19, 85, 86, 87, 88, 89, 90, 91, 92, 93, 94] (fun x => [(19, .int .i64 (x.1 : Nat))]) (fun x => Mine 31 5 (.slice io M.length ic) M.length (nvs x.2)) (fun x => x.1 ≤ M.length ∧ x.2.length = M.length) (fun x => M.length - x.1) (0, M) agreed ⟨Nat.zero_le _, rfl⟩ ?_
    rintro ⟨q, ys⟩ f2 ⟨hq, hyl⟩
    simp only at hq hyl
    simp only [putAll]
    by_cases hql : q < M.length
    case pos =>
      have hqy : q < ys.length := by omega
      refine WP.open (by omega) ?_
      rintro bi sp rfl hsp
      refine walk ?_
      refine s_store (v := .int .i64 99) (cs' := nvs (ys.set q { ys[q] with kind := 99 }) ++ sp) rfl rfl rfl ?_ ?_ ?_
      · rw [List.length_append, nvs_len]; omega
      · rw [Nat.zero_add]; exact nvs_set0 hqy
      refine walk ?_
      refine ⟨(q + 1, ys.set q { ys[q] with kind := 99 }), asided, agreed, ?_, ⟨hql, by simp [hyl]⟩, by simp only; omega⟩
      refine Ent.step (A := blk bi (nvs (ys.set q { ys[q] with kind := 99 }) ++ sp) 31) (Mine.of_blk (sz := 5) (spare := sp) rfl (by rw [nvs_len, List.length_set, hyl]) hic hic2 ?_) (Ent.refl _)
      rw [List.length_append, nvs_len, List.length_set]
      rw [List.length_append, nvs_len] at hsp
      exact hsp
    obtain rfl : q = M.length := by omega
    clear hyl hql hq
    refine walk ?_
    refine s_appendK (v := .slice ro L.length rc) rfl rfl (hown0.ent InH.ent) (nvs_one _) rfl ?_ rfl ?_
    · simp only [maxLen]; omega
    intro v2 X hX
    refine WPL.shape ?_
    rintro r2o r2c rfl _ hc2 hm2
    rw [show L.length + M.length = (L ++ M).length from List.length_append.symm] at hc2
    rw [show L.length + M.length = (L ++ M).length from List.length_append.symm, ← nvs_app] at hX ⊢
    refine WPL.rd fun hrd => ?_
    obtain ⟨Z, hZ⟩ : ∃ Z, Z = Mine 25 5 (.slice r2o (L ++ M).length r2c) (L ++ M).length (nvs (L ++ M)) + X := ⟨_, rfl⟩
    refine WPL.ent (G := BookAt b (L ++ M) + (BookAt b' L + (Mine 25 5 (.slice r2o (L ++ M).length r2c) (L ++ M).length (nvs (L ++ M)) + (X + H)))) Ent.auto ?_
    rw [← HProp.add_assoc (Mine 25 5 (.slice r2o (L ++ M).length r2c) (L ++ M).length (nvs (L ++ M))) X H, ← hZ]
    have hr2 : Rd B Z 5 (.slice r2o (L ++ M).length r2c) (L ++ M).length (nvs (L ++ M)) := by rw [hZ]; exact hrd.ent (Ent.drop_right _ _)
    have hw : Rd B Z 5 (.slice ro L.length rc) L.length (nvs L) := by rw [hZ]; exact hr0.ent hX
    have hz : Ent Z (Mine 25 5 (.slice r2o (L ++ M).length r2c) (L ++ M).length (nvs (L ++ M))) := by rw [hZ]; exact Ent.drop_right _ _
    have hR2 : ∀ n ∈ L ++ M, RightN n := fun n hn => by
      rcases List.mem_append.1 hn with h | h
      · exact hR n h
      · exact of_decide_eq_true (List.all_eq_true.1 hall n h)
    have hle : L.length ≤ (L ++ M).length := by rw [List.length_append]; omega
    have hlen2 : (L ++ M).length ≤ 20 * (k + 1) := by rw [List.length_append]; omega
    clear hZ hX hrd
    generalize L ++ M = L2 at *
    refine walk ?_
    have hat : (max (0 : Int) (min (L.length : Int) (L2.length : Int))).toNat = L.length := by omega
    have hs6 := Rd.sliceL (max 0 (min i (L2.length : Int))).toNat hr2 (by omega) hc2
    rw [nvs_drop _ _ (by omega)] at hs6
    have hl6 : (L2.drop (max 0 (min i (L2.length : Int))).toNat).length = L2.length - (max 0 (min i (L2.length : Int))).toNat := List.length_drop
    have hs46 := Rd.sliceL L.length hr2 hle hc2
    rw [nvs_drop _ _ hle] at hs46
    have hl46 : (L2.drop L.length).length = L2.length - L.length := List.length_drop
    have hab : L2.filter (pAbout g) = L2.filter (pAbout' g) := List.filter_congr fun x hx => pAbout_right (hR2 x hx)
    refine wp_loopR (α := Nat) [8, 20, 21, 99, 100, 101, 102, 103, 104, 105, 106, 107, 108, 109, 110, 111, 112, 113, 114, 115, 116, 117, 118, 119, 120, 121, 122, 123, 124, 125, 126, 127, 128, 129, 130, 131, 132, 133, 134, 135, 136, 137, 138, 139, 140, 141, 142, 143, 144, 145, 146, 147, 148, 149, 150, 151, 152, 153, 154, 155, 156] (fun t => [(20, .int .i64 (t : Nat))]) (fun t => t ≤ 2) (fun t => 2 - t) 0 agreed (Nat.zero_le _) ?_
    rintro t f3 ht
    simp only [putAll]
    by_cases ht2 : t < 2
    case pos =>
      refine walk ?_
      refine s_min2 rfl rfl rfl rfl ?_
      refine walk ?_
      refine s_max2 rfl rfl rfl rfl ?_
      refine walk ?_
      (refine wp_draw [0, 2, 6, 10, 15, 18, 19, 24, 27, 28, 33, 35, 41, 46] (.look 1 (.act 0 (.act 2 (.look 3 (.look 4 (.look 5 (.look 7 (.look 8 (.look 9 (.act 6 (.act 10 (.look 11 (.look 12 (.look 13 (.look 14 (.look 16 (.look 17 (.act 15 (.act 18 (.act 19 (.look 20 (.look 21 (.look 22 (.look 23 (.look 25 (.look 26 (.act 24 (.act 27 (.act 28 (.look 29 (.look 30 (.look 31 (.look 32 (.look 34 (.act 33 (.act 35 (.look 36 (.look 37 (.look 38 (.look 39 (.look 40 (.look 42 (.look 43 (.look 44 (.look 45 (.act 41 (.act 46 (.look 47 (.look 48 .nil)) .stop) .stop)))))))))) .stop) .stop)))))) .stop) .stop) .stop))))))) .stop) .stop) .stop))))))) .stop) .stop))))))) .stop) .stop)) (by kernel_rfl) ?_; (apply dw_pure; (· exact rfl); (· exact rfl); (· (intro G; exact looked))); skip)
      refine dw_do rfl rfl ?_ dw_stop
      (refine s_call rfl (bAll (b := b) (L := L2) (by omega)) rfl ?_; rintro r0 _ rfl)
      refine wpl_nil (qone ⟨(by exact st_nil), ?_⟩)
      (skip)
      refine dw_do rfl rfl ?_ dw_stop
      refine s_call rfl (sameB (s := r0) rfl (hr2.ent InH.ent)) rfl ?_
      rintro _ _ ⟨e_, rfl⟩
      obtain rfl := e_.symm
      refine wpl_nil (qone ⟨(by exact st_nil), ?_⟩)
      ((apply dw_pure; (· exact rfl); (· exact rfl); (· (intro G; exact looked))); (apply dw_pure; (· exact rfl); (· exact rfl); (· (intro G; exact looked))); (apply dw_pure; (· exact rfl); (· exact rfl); (· (intro G; exact looked))); (apply dw_pure; (· exact rfl); (· exact rfl); (· (intro G; exact looked))); (apply dw_pure; (· exact rfl); (· exact rfl); (· (intro G; exact looked))); (apply dw_pure; (· exact rfl); (· exact rfl); (· (intro G; refine step_wanted rfl rfl ?_; (first | (apply s_sliceL (l := (max 0 (min i (L2.length : Int))).toNat); (· exact rfl); (· exact rfl); (· omega); (· omega); (· exact rfl)) | (apply s_sliceL (l := (max 0 (min i (L.length : Int))).toNat); (· exact rfl); (· exact rfl); (· omega); (· omega); (· exact rfl))); exact looked))); skip)
      refine dw_do rfl rfl ?_ dw_stop
      refine step_wanted rfl rfl ?_
      (refine s_call rfl (bSince (b := b) (L := L2) (i := i) (by omega)) rfl ?_; rintro r6 _ rfl)
      refine wpl_nil (qone ⟨(by exact st_nil), ?_⟩)
      (skip)
      refine dw_do rfl rfl ?_ dw_stop
      refine step_wanted rfl rfl ?_
      refine s_call rfl (sameB (s := r6) hl6 (hs6.ent InH.ent)) rfl ?_
      rintro _ _ ⟨e_, rfl⟩
      obtain rfl := e_.symm
      refine wpl_nil (qone ⟨(by exact st_nil), ?_⟩)
      ((apply dw_pure; (· exact rfl); (· exact rfl); (· (intro G; exact looked))); (apply dw_pure; (· exact rfl); (· exact rfl); (· (intro G; exact looked))); (apply dw_pure; (· exact rfl); (· exact rfl); (· (intro G; exact looked))); (apply dw_pure; (· exact rfl); (· exact rfl); (· (intro G; exact looked))); (apply dw_pure; (· exact rfl); (· exact rfl); (· (intro G; exact looked))); (apply dw_pure; (· exact rfl); (· exact rfl); (· (intro G; exact looked))); skip)
      refine dw_do rfl rfl ?_ dw_stop
      refine step_wanted rfl rfl ?_
      (refine s_call rfl (bOf (b := b) (L := L2) (by omega) (hk0.ent InH.ent) (by omega)) rfl ?_; rintro r15 _ rfl)
      refine wpl_nil (qone ⟨(by exact st_nil), ?_⟩)
      (skip)
      refine dw_do rfl rfl ?_ dw_stop
      refine step_wanted rfl rfl ?_
      (refine s_call rfl (rSome (hr2.ent InH.ent) (by omega) (hk0.ent InH.ent) (by omega)) rfl ?_; rintro r18 _ rfl; refine WPL.rd fun h18 => ?_)
      refine wpl_nil (qone ⟨(by exact st_nil), ?_⟩)
      (skip)
      refine dw_do rfl rfl ?_ dw_stop
      refine step_wanted rfl rfl ?_
      refine s_call rfl (sameB (s := r15) rfl (h18.ent InH.ent)) rfl ?_
      rintro _ _ ⟨e_, rfl⟩
      obtain rfl := e_.symm
      refine wpl_nil (qone ⟨(by exact st_nil), ?_⟩)
      ((apply dw_pure; (· exact rfl); (· exact rfl); (· (intro G; exact looked))); (apply dw_pure; (· exact rfl); (· exact rfl); (· (intro G; exact looked))); (apply dw_pure; (· exact rfl); (· exact rfl); (· (intro G; exact looked))); (apply dw_pure; (· exact rfl); (· exact rfl); (· (intro G; exact looked))); (apply dw_pure; (· exact rfl); (· exact rfl); (· (intro G; exact looked))); (apply dw_pure; (· exact rfl); (· exact rfl); (· (intro G; exact looked))); skip)
      refine dw_do rfl rfl ?_ dw_stop
      refine step_wanted rfl rfl ?_
      (refine s_call rfl (bAbout (b := b) (L := L2) (g := g) (by omega)) rfl ?_; rintro r24 _ rfl; rw [hab])
      refine wpl_nil (qone ⟨(by exact st_nil), ?_⟩)
      (skip)
      refine dw_do rfl rfl ?_ dw_stop
      refine step_wanted rfl rfl ?_
      (refine s_call rfl (rAbout (g := g) (hr2.ent InH.ent) (by omega)) rfl ?_; rintro r27 _ rfl; refine WPL.rd fun h27 => ?_)
      refine wpl_nil (qone ⟨(by exact st_nil), ?_⟩)
      (skip)
      refine dw_do rfl rfl ?_ dw_stop
      refine step_wanted rfl rfl ?_
      refine s_call rfl (sameB (s := r24) rfl (h27.ent InH.ent)) rfl ?_
      rintro _ _ ⟨e_, rfl⟩
      obtain rfl := e_.symm
      refine wpl_nil (qone ⟨(by exact st_nil), ?_⟩)
      ((apply dw_pure; (· exact rfl); (· exact rfl); (· (intro G; exact looked))); (apply dw_pure; (· exact rfl); (· exact rfl); (· (intro G; exact looked))); (apply dw_pure; (· exact rfl); (· exact rfl); (· (intro G; exact looked))); (apply dw_pure; (· exact rfl); (· exact rfl); (· (intro G; exact looked))); (apply dw_pure; (· exact rfl); (· exact rfl); (· (intro G; exact looked))); skip)
      refine dw_do rfl rfl ?_ dw_stop
      refine step_wanted rfl rfl ?_
      (refine s_call rfl (bAll (b := b') (L := L) (by omega)) rfl ?_; rintro r33 _ rfl)
      refine wpl_nil (qone ⟨(by exact st_nil), ?_⟩)
      (skip)
      refine dw_do rfl rfl ?_ dw_stop
      refine step_wanted rfl rfl ?_
      refine s_call rfl (sameB (s := r33) rfl (hw.ent InH.ent)) rfl ?_
      rintro _ _ ⟨e_, rfl⟩
      obtain rfl := e_.symm
      refine wpl_nil (qone ⟨(by exact st_nil), ?_⟩)
      ((apply dw_pure; (· exact rfl); (· exact rfl); (· (intro G; exact looked))); (apply dw_pure; (· exact rfl); (· exact rfl); (· (intro G; exact looked))); (apply dw_pure; (· exact rfl); (· exact rfl); (· (intro G; exact looked))); (apply dw_pure; (· exact rfl); (· exact rfl); (· (intro G; exact looked))); (apply dw_pure; (· exact rfl); (· exact rfl); (· (intro G; exact looked))); (apply dw_pure; (· exact rfl); (· exact rfl); (· (intro G; exact looked))); (apply dw_pure; (· exact rfl); (· exact rfl); (· (intro G; exact looked))); (apply dw_pure; (· exact rfl); (· exact rfl); (· (intro G; exact looked))); (apply dw_pure; (· exact rfl); (· exact rfl); (· (intro G; refine step_wanted rfl rfl ?_; (apply s_sliceL (l := L.length); (· exact rfl); (· exact rfl); (· omega); (· omega); (· exact rfl)); exact looked))); skip)
      refine dw_do rfl rfl ?_ dw_stop
      refine step_wanted rfl rfl ?_
      (refine s_call rfl (bSince (b := b) (L := L2) (i := (L.length : Int)) (by omega)) rfl ?_; rintro r41 _ rfl; rw [hat])
      refine wpl_nil (qone ⟨(by exact st_nil), ?_⟩)
      (skip)
      refine dw_do rfl rfl ?_ dw_stop
      refine step_wanted rfl rfl ?_
      refine s_call rfl (sameB (s := r41) hl46 (hs46.ent InH.ent)) rfl ?_
      rintro _ _ ⟨e_, rfl⟩
      obtain rfl := e_.symm
      refine wpl_nil (qone ⟨(by exact st_nil), ?_⟩)
      ((apply dw_pure; (· exact rfl); (· exact rfl); (· (intro G; exact looked))); (apply dw_pure; (· exact rfl); (· exact rfl); (· (intro G; exact looked))); refine dw_nil ?_; skip)
      refine walk ?_
      refine ⟨t + 1, asided, agreed, Ent.auto, by omega, by omega⟩
    obtain rfl : t = 2 := by omega
    refine walk ?_
    refine s_call rfl (bLen (b := b) (L := L2)) rfl ?_
    rintro _ _ ⟨e_, rfl⟩
    obtain rfl := e_.symm
    refine walk ?_
    refine ⟨(k + 1, r2o, r2c, L2), asided, agreed, ?_, ⟨hlt, hlen2, hR2⟩, by simp only; omega⟩
    exact ((Ent.drop_left (BookAt b' L) (Z + H)).trans (hz.frame_right H)).frame_left (BookAt b L2)
  | false =>
    simp only [Bool.false_eq_true, if_false]
    refine walk ?_
    refine wp_loopS (α := Nat × List Nt) [19, 85, 86, 87, 88, 89, 90, 91, 92, 93, 94] (fun x => [(19, .int .i64 (x.1 : Nat))]) (fun x => Mine 31 5 (.slice io M.length ic) M.length (nvs x.2)) (fun x => x.1 ≤ M.length ∧ x.2.length = M.length) (fun x => M.length - x.1) (0, M) agreed ⟨Nat.zero_le _, rfl⟩ ?_
    rintro ⟨q, ys⟩ f2 ⟨hq, hyl⟩
    simp only at hq hyl
    simp only [putAll]
    by_cases hql : q < M.length
    case pos =>
      have hqy : q < ys.length := by omega
      refine WP.open (by omega) ?_
      rintro bi sp rfl hsp
      refine walk ?_
      refine s_store (v := .int .i64 99) (cs' := nvs (ys.set q { ys[q] with kind := 99 }) ++ sp) rfl rfl rfl ?_ ?_ ?_
      · rw [List.length_append, nvs_len]; omega
      · rw [Nat.zero_add]; exact nvs_set0 hqy
      refine walk ?_
      refine ⟨(q + 1, ys.set q { ys[q] with kind := 99 }), asided, agreed, ?_, ⟨hql, by simp [hyl]⟩, by simp only; omega⟩
      refine Ent.step (A := blk bi (nvs (ys.set q { ys[q] with kind := 99 }) ++ sp) 31) (Mine.of_blk (sz := 5) (spare := sp) rfl (by rw [nvs_len, List.length_set, hyl]) hic hic2 ?_) (Ent.refl _)
      rw [List.length_append, nvs_len, List.length_set]
      rw [List.length_append, nvs_len] at hsp
      exact hsp
    obtain rfl : q = M.length := by omega
    clear hyl hql hq
    refine walk ?_
    refine WP.ent (G := BookAt b L + (BookAt b' L + (Mine 25 5 (.slice ro L.length rc) L.length (nvs L) + H))) Ent.auto ?_
    obtain ⟨Z, hZ⟩ : ∃ Z, Z = Mine 25 5 (.slice ro L.length rc) L.length (nvs L) := ⟨_, rfl⟩
    rw [← hZ]
    have hr2 : Rd B Z 5 (.slice ro L.length rc) L.length (nvs L) := by rw [hZ]; exact hr0
    have hw := hr2
    have hz : Ent Z (Mine 25 5 (.slice ro L.length rc) L.length (nvs L)) := by rw [hZ]; exact Ent.refl _
    have hR2 := hR
    have hc2 := hrc.1
    have hle := Nat.le_refl L.length
    have hlen2 : L.length ≤ 20 * (k + 1) := by omega
    clear hZ
    have hat : (max (0 : Int) (min (L.length : Int) (L.length : Int))).toNat = L.length := by omega
    have hs6 := Rd.sliceL (max 0 (min i (L.length : Int))).toNat hr2 (by omega) hc2
    rw [nvs_drop _ _ (by omega)] at hs6
    have hl6 : (L.drop (max 0 (min i (L.length : Int))).toNat).length = L.length - (max 0 (min i (L.length : Int))).toNat := List.length_drop
    have hs46 := Rd.sliceL L.length hr2 hle hc2
    rw [nvs_drop _ _ hle] at hs46
    have hl46 : (L.drop L.length).length = L.length - L.length := List.length_drop
    have hab : L.filter (pAbout g) = L.filter (pAbout' g) := List.filter_congr fun x hx => pAbout_right (hR2 x hx)
    refine wp_loopR (α := Nat) [8, 20, 21, 99, 100, 101, 102, 103, 104, 105, 106, 107, 108, 109, 110, 111, 112, 113, 114, 115, 116, 117, 118, 119, 120, 121, 122, 123, 124, 125, 126, 127, 128, 129, 130, 131, 132, 133, 134, 135, 136, 137, 138, 139, 140, 141, 142, 143, 144, 145, 146, 147, 148, 149, 150, 151, 152, 153, 154, 155, 156] (fun t => [(20, .int .i64 (t : Nat))]) (fun t => t ≤ 2) (fun t => 2 - t) 0 agreed (Nat.zero_le _) ?_
    rintro t f3 ht
    simp only [putAll]
    by_cases ht2 : t < 2
    case pos =>
      refine walk ?_
      refine s_min2 rfl rfl rfl rfl ?_
      refine walk ?_
      refine s_max2 rfl rfl rfl rfl ?_
      refine walk ?_
      (refine wp_draw [0, 2, 6, 10, 15, 18, 19, 24, 27, 28, 33, 35, 41, 46] (.look 1 (.act 0 (.act 2 (.look 3 (.look 4 (.look 5 (.look 7 (.look 8 (.look 9 (.act 6 (.act 10 (.look 11 (.look 12 (.look 13 (.look 14 (.look 16 (.look 17 (.act 15 (.act 18 (.act 19 (.look 20 (.look 21 (.look 22 (.look 23 (.look 25 (.look 26 (.act 24 (.act 27 (.act 28 (.look 29 (.look 30 (.look 31 (.look 32 (.look 34 (.act 33 (.act 35 (.look 36 (.look 37 (.look 38 (.look 39 (.look 40 (.look 42 (.look 43 (.look 44 (.look 45 (.act 41 (.act 46 (.look 47 (.look 48 .nil)) .stop) .stop)))))))))) .stop) .stop)))))) .stop) .stop) .stop))))))) .stop) .stop) .stop))))))) .stop) .stop))))))) .stop) .stop)) (by kernel_rfl) ?_; (apply dw_pure; (· exact rfl); (· exact rfl); (· (intro G; exact looked))); skip)
      refine dw_do rfl rfl ?_ dw_stop
      (refine s_call rfl (bAll (b := b) (L := L) (by omega)) rfl ?_; rintro r0 _ rfl)
      refine wpl_nil (qone ⟨(by exact st_nil), ?_⟩)
      (skip)
      refine dw_do rfl rfl ?_ dw_stop
      refine s_call rfl (sameB (s := r0) rfl (hr2.ent InH.ent)) rfl ?_
      rintro _ _ ⟨e_, rfl⟩
      obtain rfl := e_.symm
      refine wpl_nil (qone ⟨(by exact st_nil), ?_⟩)
      ((apply dw_pure; (· exact rfl); (· exact rfl); (· (intro G; exact looked))); (apply dw_pure; (· exact rfl); (· exact rfl); (· (intro G; exact looked))); (apply dw_pure; (· exact rfl); (· exact rfl); (· (intro G; exact looked))); (apply dw_pure; (· exact rfl); (· exact rfl); (· (intro G; exact looked))); (apply dw_pure; (· exact rfl); (· exact rfl); (· (intro G; exact looked))); (apply dw_pure; (· exact rfl); (· exact rfl); (· (intro G; refine step_wanted rfl rfl ?_; (first | (apply s_sliceL (l := (max 0 (min i (L2.length : Int))).toNat); (· exact rfl); (· exact rfl); (· omega); (· omega); (· exact rfl)) | (apply s_sliceL (l := (max 0 (min i (L.length : Int))).toNat); (· exact rfl); (· exact rfl); (· omega); (· omega); (· exact rfl))); exact looked))); skip)
      refine dw_do rfl rfl ?_ dw_stop
      refine step_wanted rfl rfl ?_
      (refine s_call rfl (bSince (b := b) (L := L) (i := i) (by omega)) rfl ?_; rintro r6 _ rfl)
      refine wpl_nil (qone ⟨(by exact st_nil), ?_⟩)
      (skip)
      refine dw_do rfl rfl ?_ dw_stop
      refine step_wanted rfl rfl ?_
      refine s_call rfl (sameB (s := r6) hl6 (hs6.ent InH.ent)) rfl ?_
      rintro _ _ ⟨e_, rfl⟩
      obtain rfl := e_.symm
      refine wpl_nil (qone ⟨(by exact st_nil), ?_⟩)
      ((apply dw_pure; (· exact rfl); (· exact rfl); (· (intro G; exact looked))); (apply dw_pure; (· exact rfl); (· exact rfl); (· (intro G; exact looked))); (apply dw_pure; (· exact rfl); (· exact rfl); (· (intro G; exact looked))); (apply dw_pure; (· exact rfl); (· exact rfl); (· (intro G; exact looked))); (apply dw_pure; (· exact rfl); (· exact rfl); (· (intro G; exact looked))); (apply dw_pure; (· exact rfl); (· exact rfl); (· (intro G; exact looked))); skip)
      refine dw_do rfl rfl ?_ dw_stop
      refine step_wanted rfl rfl ?_
      (refine s_call rfl (bOf (b := b) (L := L) (by omega) (hk0.ent InH.ent) (by omega)) rfl ?_; rintro r15 _ rfl)
      refine wpl_nil (qone ⟨(by exact st_nil), ?_⟩)
      (skip)
      refine dw_do rfl rfl ?_ dw_stop
      refine step_wanted rfl rfl ?_
      (refine s_call rfl (rSome (hr2.ent InH.ent) (by omega) (hk0.ent InH.ent) (by omega)) rfl ?_; rintro r18 _ rfl; refine WPL.rd fun h18 => ?_)
      refine wpl_nil (qone ⟨(by exact st_nil), ?_⟩)
      (skip)
      refine dw_do rfl rfl ?_ dw_stop
      refine step_wanted rfl rfl ?_
      refine s_call rfl (sameB (s := r15) rfl (h18.ent InH.ent)) rfl ?_
      rintro _ _ ⟨e_, rfl⟩
      obtain rfl := e_.symm
      refine wpl_nil (qone ⟨(by exact st_nil), ?_⟩)
      ((apply dw_pure; (· exact rfl); (· exact rfl); (· (intro G; exact looked))); (apply dw_pure; (· exact rfl); (· exact rfl); (· (intro G; exact looked))); (apply dw_pure; (· exact rfl); (· exact rfl); (· (intro G; exact looked))); (apply dw_pure; (· exact rfl); (· exact rfl); (· (intro G; exact looked))); (apply dw_pure; (· exact rfl); (· exact rfl); (· (intro G; exact looked))); (apply dw_pure; (· exact rfl); (· exact rfl); (· (intro G; exact looked))); skip)
      refine dw_do rfl rfl ?_ dw_stop
      refine step_wanted rfl rfl ?_
      (refine s_call rfl (bAbout (b := b) (L := L) (g := g) (by omega)) rfl ?_; rintro r24 _ rfl; rw [hab])
      refine wpl_nil (qone ⟨(by exact st_nil), ?_⟩)
      (skip)
      refine dw_do rfl rfl ?_ dw_stop
      refine step_wanted rfl rfl ?_
      (refine s_call rfl (rAbout (g := g) (hr2.ent InH.ent) (by omega)) rfl ?_; rintro r27 _ rfl; refine WPL.rd fun h27 => ?_)
      refine wpl_nil (qone ⟨(by exact st_nil), ?_⟩)
      (skip)
      refine dw_do rfl rfl ?_ dw_stop
      refine step_wanted rfl rfl ?_
      refine s_call rfl (sameB (s := r24) rfl (h27.ent InH.ent)) rfl ?_
      rintro _ _ ⟨e_, rfl⟩
      obtain rfl := e_.symm
      refine wpl_nil (qone ⟨(by exact st_nil), ?_⟩)
      ((apply dw_pure; (· exact rfl); (· exact rfl); (· (intro G; exact looked))); (apply dw_pure; (· exact rfl); (· exact rfl); (· (intro G; exact looked))); (apply dw_pure; (· exact rfl); (· exact rfl); (· (intro G; exact looked))); (apply dw_pure; (· exact rfl); (· exact rfl); (· (intro G; exact looked))); (apply dw_pure; (· exact rfl); (· exact rfl); (· (intro G; exact looked))); skip)
      refine dw_do rfl rfl ?_ dw_stop
      refine step_wanted rfl rfl ?_
      (refine s_call rfl (bAll (b := b') (L := L) (by omega)) rfl ?_; rintro r33 _ rfl)
      refine wpl_nil (qone ⟨(by exact st_nil), ?_⟩)
      (skip)
      refine dw_do rfl rfl ?_ dw_stop
      refine step_wanted rfl rfl ?_
      refine s_call rfl (sameB (s := r33) rfl (hw.ent InH.ent)) rfl ?_
      rintro _ _ ⟨e_, rfl⟩
      obtain rfl := e_.symm
      refine wpl_nil (qone ⟨(by exact st_nil), ?_⟩)
      ((apply dw_pure; (· exact rfl); (· exact rfl); (· (intro G; exact looked))); (apply dw_pure; (· exact rfl); (· exact rfl); (· (intro G; exact looked))); (apply dw_pure; (· exact rfl); (· exact rfl); (· (intro G; exact looked))); (apply dw_pure; (· exact rfl); (· exact rfl); (· (intro G; exact looked))); (apply dw_pure; (· exact rfl); (· exact rfl); (· (intro G; exact looked))); (apply dw_pure; (· exact rfl); (· exact rfl); (· (intro G; exact looked))); (apply dw_pure; (· exact rfl); (· exact rfl); (· (intro G; exact looked))); (apply dw_pure; (· exact rfl); (· exact rfl); (· (intro G; exact looked))); (apply dw_pure; (· exact rfl); (· exact rfl); (· (intro G; refine step_wanted rfl rfl ?_; (apply s_sliceL (l := L.length); (· exact rfl); (· exact rfl); (· omega); (· omega); (· exact rfl)); exact looked))); skip)
      refine dw_do rfl rfl ?_ dw_stop
      refine step_wanted rfl rfl ?_
      (refine s_call rfl (bSince (b := b) (L := L) (i := (L.length : Int)) (by omega)) rfl ?_; rintro r41 _ rfl; rw [hat])
      refine wpl_nil (qone ⟨(by exact st_nil), ?_⟩)
      (skip)
      refine dw_do rfl rfl ?_ dw_stop
      refine step_wanted rfl rfl ?_
      refine s_call rfl (sameB (s := r41) hl46 (hs46.ent InH.ent)) rfl ?_
      rintro _ _ ⟨e_, rfl⟩
      obtain rfl := e_.symm
      refine wpl_nil (qone ⟨(by exact st_nil), ?_⟩)
      ((apply dw_pure; (· exact rfl); (· exact rfl); (· (intro G; exact looked))); (apply dw_pure; (· exact rfl); (· exact rfl); (· (intro G; exact looked))); refine dw_nil ?_; skip)
      refine walk ?_
      refine ⟨t + 1, asided, agreed, Ent.auto, by omega, by omega⟩
    obtain rfl : t = 2 := by omega
    refine walk ?_
    refine s_call rfl (bLen (b := b) (L := L)) rfl ?_
    rintro _ _ ⟨e_, rfl⟩
    obtain rfl := e_.symm
    refine walk ?_
    refine ⟨(k + 1, ro, rc, L), asided, agreed, ?_, ⟨hlt, hlen2, hR2⟩, by simp only; omega⟩
    exact ((Ent.drop_left (BookAt b' L) (Z + H)).trans (hz.frame_right H)).frame_left (BookAt b L)
end
end Go.Proofs.YtofgpppnknpblaaGreatDoor
