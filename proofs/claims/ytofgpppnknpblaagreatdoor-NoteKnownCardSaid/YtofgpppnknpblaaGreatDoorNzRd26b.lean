/- A note is read of a text: the program's walk. No condition. -/
import Derived.Test.YtofgpppnknpblaaGreatDoorNzRd26a
import Derived.Test.YtofgpppnknpblaaGreatDoorNzSplit
import Derived.Test.YtofgpppnknpblaaGreatDoorSL4
import Derived.Test.YtofgpppnknpblaaGreatDoorSL3
import Derived.Test.YtofgpppnknpblaaGreatDoorSL2
namespace Go.Proofs.YtofgpppnknpblaaGreatDoor
open Go Go.SL
set_option linter.unusedSimpArgs false
set_option linter.unusedVariables false
set_option maxRecDepth 10000
set_option maxHeartbeats 4000000
/-- What reading answers. -/
def readNV : Option Nt → Value
  | some n => .tuple #[noteV n, .int .i64 0]
  | none => .tuple #[noteV zeroN, .int .i64 260]
def isForm (w : List UInt8) (i : Nat) : Bool := decide (wordK i = w) && decide (hasK i ≠ [])
theorem kindOf_at {w : List UInt8} {j : Nat} (hj : j < 17) (h1 : ∀ q, q < j → isForm w q = false) (h2 : isForm w j = true) : kindOf w = (j : Nat) := by
  have e : (List.range 17).find? (fun i => decide (wordK i = w) && decide (hasK i ≠ [])) = some j := by
    rw [List.find?_range_eq_some]
    exact ⟨h2, by simpa using hj, fun q hq => by have := h1 q hq; unfold isForm at this; rw [this]; rfl⟩
  unfold kindOf
  rw [e]
theorem kindOf_no {w : List UInt8} (h1 : ∀ q, q < 17 → isForm w q = false) : kindOf w = -1 := by
  have e : (List.range 17).find? (fun i => decide (wordK i = w) && decide (hasK i ≠ [])) = none := by
    rw [List.find?_eq_none]
    intro q hq
    have := h1 q (by simpa using hq)
    unfold isForm at this
    rw [this]
    simp
  unfold kindOf
  rw [e]
attribute [local irreducible] WP WPL QSeq QBlk QRet Does Cell Cells Rd Mine Ent Aside RV Yield IterAt
section
variable {B : World} {F H G : HProp} {n : Nt} {b c : Nat} {s : List UInt8} {w : List UInt8} {W : List (List UInt8)}
theorem read1 {i b4 bl m cp : Nat} (h4 : Cell B H b4 0 (.slice (some ⟨bl, 0, none⟩) (m + 1) cp)) (hw : Cell B H bl 0 (str w)) :
    Does Tryz.prog B 43 ([] ++ [formV i] ++ [.pointer (some ⟨b4, 0, none⟩)]) H fun r H' => H' = H ∧ r = .bool (isForm w i) := by
  refine Does.frame0 ?_
  refine fn_intro 15 Tryz.func43 rfl rfl rfl ?_
  refine walk ?_
  refine s_box (cs := formC i) rfl rfl rfl ?_
  intro b2
  refine walk ?_
  have e1 : decide ((⟨(wordK i).toArray⟩ : ByteArray) = ⟨w.toArray⟩) = decide (wordK i = w) := by simp
  have e2 : (!decide ((⟨(hasK i).toArray⟩ : ByteArray) = ⟨#[]⟩)) = decide (hasK i ≠ []) := by simp
  cases h1 : decide (wordK i = w) <;> cases h2 : decide (hasK i ≠ []) <;> rw [h1] at e1 <;> rw [h2] at e2
  · skip
    (refine wp_draw [] (.look 0 (.look 1 (.look 2 (.look 3 (.look 4 (.look 5 (.look 6 (.look 7 (.look 8 (.look 9 (.look 10 (.look 11 .nil)))))))))))) (by kernel_rfl) ?_; (apply dw_pure; (· exact rfl); (· exact rfl); (· (intro G; exact looked))); (apply dw_look; (· exact rfl); (· exact rfl); (· (exact looked))); (apply dw_look; (· exact rfl); (· exact rfl); (· (exact looked))); (apply dw_pure; (· exact rfl); (· exact rfl); (· (intro G; (apply s_indexAddr (j := 0) (o' := 0); (· exact rfl); (· exact rfl); (· omega); (· omega); (· omega); (· exact rfl)); exact looked))); (apply dw_look; (· exact rfl); (· exact rfl); (· (exact looked))); (apply dw_pure; (· exact rfl); (· exact rfl); (· (intro G; refine s_eqstr rfl rfl e1 rfl ?_; exact looked))); (apply dw_pure; (· exact rfl); (· exact rfl); (· (intro G; exact looked))); (apply dw_pure; (· exact rfl); (· exact rfl); (· (intro G; (first | (refine step_wanted rfl rfl ?_; refine s_fieldAddr0 rfl rfl ?_) | skip); exact looked))); (apply dw_look; (· exact rfl); (· exact rfl); (· (exact looked))); (apply dw_pure; (· exact rfl); (· exact rfl); (· (intro G; (first | (refine step_wanted rfl rfl ?_; refine s_nestr rfl rfl e2 rfl ?_) | skip); exact looked))); (apply dw_pure; (· exact rfl); (· exact rfl); (· (intro G; exact looked))); (apply dw_pure; (· exact rfl); (· exact rfl); (· (intro G; exact looked))); refine dw_nil ?_)
    refine walk ?_
    (first | (apply retRD1 (G := H) (.inr rfl) rfl; (· first | (refine rv_tmp (v := .bool _) rfl) | exact rv_tmp rfl); (· exact Ent.auto)) | (apply retRD1 (G := H) (.inl rfl) rfl; (· first | (refine rv_tmp (v := .bool _) rfl) | exact rv_tmp rfl); (· exact Ent.auto)))
    exact ⟨Ent.refl _, by unfold isForm; rw [h1, h2]; rfl⟩
  · skip
    (refine wp_draw [] (.look 0 (.look 1 (.look 2 (.look 3 (.look 4 (.look 5 (.look 6 (.look 7 (.look 8 (.look 9 (.look 10 (.look 11 .nil)))))))))))) (by kernel_rfl) ?_; (apply dw_pure; (· exact rfl); (· exact rfl); (· (intro G; exact looked))); (apply dw_look; (· exact rfl); (· exact rfl); (· (exact looked))); (apply dw_look; (· exact rfl); (· exact rfl); (· (exact looked))); (apply dw_pure; (· exact rfl); (· exact rfl); (· (intro G; (apply s_indexAddr (j := 0) (o' := 0); (· exact rfl); (· exact rfl); (· omega); (· omega); (· omega); (· exact rfl)); exact looked))); (apply dw_look; (· exact rfl); (· exact rfl); (· (exact looked))); (apply dw_pure; (· exact rfl); (· exact rfl); (· (intro G; refine s_eqstr rfl rfl e1 rfl ?_; exact looked))); (apply dw_pure; (· exact rfl); (· exact rfl); (· (intro G; exact looked))); (apply dw_pure; (· exact rfl); (· exact rfl); (· (intro G; (first | (refine step_wanted rfl rfl ?_; refine s_fieldAddr0 rfl rfl ?_) | skip); exact looked))); (apply dw_look; (· exact rfl); (· exact rfl); (· (exact looked))); (apply dw_pure; (· exact rfl); (· exact rfl); (· (intro G; (first | (refine step_wanted rfl rfl ?_; refine s_nestr rfl rfl e2 rfl ?_) | skip); exact looked))); (apply dw_pure; (· exact rfl); (· exact rfl); (· (intro G; exact looked))); (apply dw_pure; (· exact rfl); (· exact rfl); (· (intro G; exact looked))); refine dw_nil ?_)
    refine walk ?_
    (first | (apply retRD1 (G := H) (.inr rfl) rfl; (· first | (refine rv_tmp (v := .bool _) rfl) | exact rv_tmp rfl); (· exact Ent.auto)) | (apply retRD1 (G := H) (.inl rfl) rfl; (· first | (refine rv_tmp (v := .bool _) rfl) | exact rv_tmp rfl); (· exact Ent.auto)))
    exact ⟨Ent.refl _, by unfold isForm; rw [h1, h2]; rfl⟩
  · skip
    (refine wp_draw [] (.look 0 (.look 1 (.look 2 (.look 3 (.look 4 (.look 5 (.look 6 (.look 7 (.look 8 (.look 9 (.look 10 (.look 11 .nil)))))))))))) (by kernel_rfl) ?_; (apply dw_pure; (· exact rfl); (· exact rfl); (· (intro G; exact looked))); (apply dw_look; (· exact rfl); (· exact rfl); (· (exact looked))); (apply dw_look; (· exact rfl); (· exact rfl); (· (exact looked))); (apply dw_pure; (· exact rfl); (· exact rfl); (· (intro G; (apply s_indexAddr (j := 0) (o' := 0); (· exact rfl); (· exact rfl); (· omega); (· omega); (· omega); (· exact rfl)); exact looked))); (apply dw_look; (· exact rfl); (· exact rfl); (· (exact looked))); (apply dw_pure; (· exact rfl); (· exact rfl); (· (intro G; refine s_eqstr rfl rfl e1 rfl ?_; exact looked))); (apply dw_pure; (· exact rfl); (· exact rfl); (· (intro G; exact looked))); (apply dw_pure; (· exact rfl); (· exact rfl); (· (intro G; (first | (refine step_wanted rfl rfl ?_; refine s_fieldAddr0 rfl rfl ?_) | skip); exact looked))); (apply dw_look; (· exact rfl); (· exact rfl); (· (exact looked))); (apply dw_pure; (· exact rfl); (· exact rfl); (· (intro G; (first | (refine step_wanted rfl rfl ?_; refine s_nestr rfl rfl e2 rfl ?_) | skip); exact looked))); (apply dw_pure; (· exact rfl); (· exact rfl); (· (intro G; exact looked))); (apply dw_pure; (· exact rfl); (· exact rfl); (· (intro G; exact looked))); refine dw_nil ?_)
    refine walk ?_
    (first | (apply retRD1 (G := H) (.inr rfl) rfl; (· first | (refine rv_tmp (v := .bool _) rfl) | exact rv_tmp rfl); (· exact Ent.auto)) | (apply retRD1 (G := H) (.inl rfl) rfl; (· first | (refine rv_tmp (v := .bool _) rfl) | exact rv_tmp rfl); (· exact Ent.auto)))
    exact ⟨Ent.refl _, by unfold isForm; rw [h1, h2]; rfl⟩
  · skip
    (refine wp_draw [] (.look 0 (.look 1 (.look 2 (.look 3 (.look 4 (.look 5 (.look 6 (.look 7 (.look 8 (.look 9 (.look 10 (.look 11 .nil)))))))))))) (by kernel_rfl) ?_; (apply dw_pure; (· exact rfl); (· exact rfl); (· (intro G; exact looked))); (apply dw_look; (· exact rfl); (· exact rfl); (· (exact looked))); (apply dw_look; (· exact rfl); (· exact rfl); (· (exact looked))); (apply dw_pure; (· exact rfl); (· exact rfl); (· (intro G; (apply s_indexAddr (j := 0) (o' := 0); (· exact rfl); (· exact rfl); (· omega); (· omega); (· omega); (· exact rfl)); exact looked))); (apply dw_look; (· exact rfl); (· exact rfl); (· (exact looked))); (apply dw_pure; (· exact rfl); (· exact rfl); (· (intro G; refine s_eqstr rfl rfl e1 rfl ?_; exact looked))); (apply dw_pure; (· exact rfl); (· exact rfl); (· (intro G; exact looked))); (apply dw_pure; (· exact rfl); (· exact rfl); (· (intro G; (first | (refine step_wanted rfl rfl ?_; refine s_fieldAddr0 rfl rfl ?_) | skip); exact looked))); (apply dw_look; (· exact rfl); (· exact rfl); (· (exact looked))); (apply dw_pure; (· exact rfl); (· exact rfl); (· (intro G; (first | (refine step_wanted rfl rfl ?_; refine s_nestr rfl rfl e2 rfl ?_) | skip); exact looked))); (apply dw_pure; (· exact rfl); (· exact rfl); (· (intro G; exact looked))); (apply dw_pure; (· exact rfl); (· exact rfl); (· (intro G; exact looked))); refine dw_nil ?_)
    refine walk ?_
    (first | (apply retRD1 (G := H) (.inr rfl) rfl; (· first | (refine rv_tmp (v := .bool _) rfl) | exact rv_tmp rfl); (· exact Ent.auto)) | (apply retRD1 (G := H) (.inl rfl) rfl; (· first | (refine rv_tmp (v := .bool _) rfl) | exact rv_tmp rfl); (· exact Ent.auto)))
    exact ⟨Ent.refl _, by unfold isForm; rw [h1, h2]; rfl⟩
theorem indexForms {b4 b5 bl m cp : Nat} (h5 : Cells B H b5 0 formsC) (h4 : Cell B H b4 0 (.slice (some ⟨bl, 0, none⟩) (m + 1) cp)) (hw : Cell B H bl 0 (str w)) :
    Does Tryz.prog B 42 [.slice (some ⟨b5, 0, none⟩) 17 17, .func (.func 43) ([] : List Value).toArray ([.pointer (some ⟨b4, 0, none⟩)] : List Value).toArray] H fun r H' => H' = H ∧ r = .int .i64 (kindOf w) := by
  refine fn_intro 19 Tryz.func42 rfl rfl rfl ?_
  refine walk ?_
  refine wp_loopR (α := Nat) [4, 5, 8, 9, 10, 11, 12, 13, 14, 15, 16, 17, 18] (fun j => [(8, .int .i64 (j : Nat))]) (fun j => j ≤ 17 ∧ ∀ q, q < j → isForm w q = false) (fun j => 17 - j) 0 agreed ⟨Nat.zero_le _, fun q h => by omega⟩ ?_
  rintro j g ⟨hj, hno⟩
  simp only [putAll]
  by_cases hlt : j < 17
  · have hc : Cells B H b5 (0 + j * 3) (formC j) := by
      have := h5.drop (j * 3)
      have := this.take 3
      rw [formsC_at j hlt] at this
      exact this
    refine walk ?_
    refine s_callV (first := []) (cap := [.pointer (some ⟨b4, 0, none⟩)]) rfl rfl (read1 (i := j) h4 hw) rfl ?_
    rintro r _ ⟨rfl, rfl⟩
    cases hpj : isForm w j with
    | true =>
      refine walk ?_
      (first | refine ret1 (v := .int _ _) (.inr rfl) rfl rfl ?_ | refine ret1  (.inr rfl) rfl rfl ?_ | refine ret1 (v := .int _ _) (.inl rfl) rfl rfl ?_ | refine ret1  (.inl rfl) rfl rfl ?_)
      exact ⟨rfl, by rw [kindOf_at hlt hno hpj]⟩
    | false =>
      refine walk ?_
      refine ⟨j + 1, asided, agreed, Ent.refl _, ⟨hlt, fun q hq => ?_⟩, by omega⟩
      rcases Nat.lt_or_ge q j with h | h
      · exact hno q h
      · obtain rfl : q = j := by omega
        exact hpj
  · obtain rfl : j = 17 := by omega
    refine walk ?_
    (first | refine ret1 (v := .int _ _) (.inr rfl) rfl rfl ?_ | refine ret1  (.inr rfl) rfl rfl ?_ | refine ret1 (v := .int _ _) (.inl rfl) rfl rfl ?_ | refine ret1  (.inl rfl) rfl rfl ?_)
    exact ⟨rfl, by rw [kindOf_no hno]⟩
local instance : UnderIfc Tryz.prog 82 := ⟨by kernel_rfl⟩
theorem nRead (T : Tab B) (L : LibOk B) {s : List UInt8} (hs : s.length ≤ 1000) : Does Tryz.prog B 22 [str s] H fun r H' => H' = H ∧ r = readNV (readN s) := by
  refine Does.frame0 ?_
  refine fn_intro 60 Tryz.func22 rfl rfl rfl ?_
  refine walk ?_
  refine s_alloc rfl ?_
  intro b
  refine walk ?_
  refine s_call rfl (dSplit L (c := 32) (s := s) (by omega)) rfl ?_
  rintro _ _ ⟨bl, rfl, rfl⟩
  refine walk ?_
  have hcl := cut_len 32 s
  have hpc : ∀ x ∈ cutAt 32 s, x.length ≤ s.length := fun x hx => cut_piece hx
  have hbad := @read_bad s
  have hnn := @read_new_no s
  have hny := @read_new_yes s
  generalize readN s = ans at *
  generalize cutAt 32 s = P at *
  obtain ⟨w, W, rfl⟩ : ∃ w W, P = w :: W := by
    match P, hcl.2 with
    | w :: W, _ => exact ⟨w, W, rfl⟩
  have hWl : W.length ≤ 1000 := by
    have := hcl.1
    rw [List.length_cons] at this
    omega
  have hlen : (w :: W).length = W.length + 1 := rfl
  rw [hlen]
  have hpW : ∀ x ∈ W, x.length ≤ 1000 := fun x hx => Nat.le_trans (hpc x (List.mem_cons_of_mem _ hx)) hs
  simp only [List.headD_cons, List.drop_one, List.tail_cons] at hbad hnn hny
  refine s_alloc rfl ?_
  intro b4
  refine walk ?_
  refine s_store1 (v := .slice _ _ _) rfl rfl rfl rfl ?_
  refine walk ?_
  refine s_call rfl (forms_spec) rfl ?_
  rintro _ _ ⟨e_, rfl⟩
  obtain rfl := e_.symm
  refine walk ?_
  refine s_alloc rfl ?_
  intro b5
  refine walk ?_
  refine s_storeV (vs := formsC) rfl rfl rfl rfl rfl ?_
  refine walk ?_
  refine s_sliceArr rfl rfl ?_
  refine s_makeFunc (vs := []) (us := [.pointer (some ⟨b4, 0, none⟩)]) rfl rfl rfl ?_
  refine walk ?_
  refine s_call rfl (indexForms (w := w) (m := W.length) Cells.blk0 (Cell.blk rfl) (Cell.blk rfl)) rfl ?_
  rintro _ _ ⟨e_, rfl⟩
  obtain rfl := e_.symm
  refine walk ?_
  refine walk ?_
  (apply s_sliceL (l := 1); (· exact rfl); (· exact rfl); (· omega); (· omega); (· exact rfl))
  have hrd : Rd B (blk bl (ss (w :: W)) 9) 1 (.slice (some ⟨bl, 0, none⟩) (W.length + 1) (W.length + 1)) (W.length + 1) (ss (w :: W)) := by
    have := Rd.blk0 (B := B) (H := blk bl (ss (w :: W)) 9 + emp) (b := bl) (m := W.length + 1) (cap := W.length + 1) (sz := 1) (e := 9) (cs := ss (w :: W)) (by rw [ss_length]; simp) (by unfold maxLen; omega)
    rwa [HProp.add_emp] at this
  have hpart := Rd.sliceL 1 hrd (by omega) (Nat.le_refl _)
  unfold Rd at hpart
  obtain ⟨ao, cap, he, hl, hm, hc⟩ := hpart
  injection he with ea eb ec
  rw [show (W.length + 1 - 1) = W.length by omega] at *
  rw [show (ss (w :: W)).drop (1 * 1) = ss W from rfl] at hl hc
  rw [ea]
  clear ea eb hrd
  refine walk ?_
  refine wp_loopF (α := Nat × Value × List Int) [3, 7, 9, 10, 11, 23, 24, 25, 26, 27, 28, 29, 30, 31, 32, 33, 34, 35, 36, 37, 38, 39, 40, 41, 42, 43] (fun x => [(23, .int .i64 x.1), (7, x.2.1)]) (fun x => Mine 3 1 x.2.1 x.2.2.length (zs x.2.2) + (blk bl (ss (w :: W)) 9 + (blk b [.int .i64 0, .int .i64 0, .int .i64 0, .int .i64 0, .int .i64 0] 31 + H))) (fun x => x.1 ≤ W.length ∧ x.2.2 = (W.take x.1).map valN) (fun x => W.length - x.1) (0, .slice none 0 0, []) agreed ?_ ⟨Nat.zero_le _, by simp⟩ ?_
  · show Ent _ (Mine 3 1 (.slice none 0 0) 0 [] + _)
    rw [Mine.nil, HProp.emp_add]
    exact Ent.auto
  rintro ⟨j, v, l⟩ f ⟨hj, hL⟩
  simp only at hj hL
  simp only [putAll]
  have hll : l.length = j := by rw [hL, List.length_map, List.length_take]; omega
  by_cases hlt : j < W.length
  · obtain ⟨bx, ox, rfl, hcx⟩ := Rd.addr hl hc hlt
    have hcell := hcx.cell (ss_get W j hlt)
    have hxl := hpW W[j] (List.getElem_mem hlt)
    have hmin : min 1 (W[j].length : Int) = ((min 1 W[j].length : Nat) : Int) := by omega
    have hdrop : (W[j].take W[j].length).drop (min 1 W[j].length) = W[j].drop 1 := by
      rw [List.take_length]
      cases W[j] with
      | nil => rfl
      | cons a l => simp
    have hdl : (W[j].drop 1).length ≤ 1000000 := by rw [List.length_drop]; omega
    refine walk ?_
    refine s_slen rfl rfl ?_
    refine s_min2 rfl rfl hmin rfl ?_
    refine s_sslice (l := W[j]) (a := min 1 W[j].length) (b := W[j].length) rfl ⟨.i64, rfl⟩ rfl (by omega) (Nat.le_refl _) hdrop rfl ?_
    refine s_call rfl (dAtoi L hdl) rfl ?_
    rintro _ _ ⟨e_, x, rfl, hx⟩
    obtain rfl := e_.symm
    cases hok : atoiOk (W[j].drop 1) with
    | true =>
      rw [hok] at hx
      obtain rfl : x = .nilIface := hx
      refine walk ?_
      refine s_neqI0 rfl rfl ?_
      refine walk ?_
      refine s_buildInts (cs := zs [valN W[j]]) rfl rfl rfl rfl rfl ?_
      intro b7
      refine s_append (v := v) rfl rfl (Rd.blk0 (m := 1) (e := 3) rfl (by simp [maxLen])) rfl rfl ?_ rfl ?_
      · simp only [maxLen]; omega
      intro v8
      refine walk ?_
      refine ⟨(j + 1, v8, l ++ [valN W[j]]), asided, agreed, ?_, ⟨by simp only; omega, ?_⟩, by simp only; omega⟩
      · simp only [len_push, zs_append]
        exact Ent.auto
      · simp only
        rw [take_push hlt, List.map_append, ← hL]; rfl
    | false =>
      rw [hok] at hx
      obtain ⟨ti, a, rfl⟩ : ∃ t a, x = .iface t a := hx
      have hnone := hbad (List.getElem_mem hlt) hok
      subst hnone
      refine walk ?_
      refine s_neqI1 rfl rfl ?_
      refine walk ?_
      (refine s_build (cs := nv zeroN) ?_ rfl ?_; (· kernel_rfl))
      refine s_storeV (vs := nv zeroN) rfl rfl rfl rfl rfl ?_
      refine walk ?_
      (first | (apply retRD2 (G := H) (.inr rfl) rfl; (· first | (refine rv_cell (v := .agg _) rfl (Cell.blk rfl)) | exact rv_cellA rfl Cells.blk0 rfl | (apply rv_cell; (· exact rfl); (· assumption)) | (apply rv_cellA; (· exact rfl); (· assumption); (· exact rfl))); (· first | (refine rv_tmp (v := .int _ _) rfl) | exact rv_tmp rfl); (· exact Ent.auto)) | (apply retRD2 (G := H) (.inl rfl) rfl; (· first | (refine rv_cell (v := .agg _) rfl (Cell.blk rfl)) | exact rv_cellA rfl Cells.blk0 rfl | (apply rv_cell; (· exact rfl); (· assumption)) | (apply rv_cellA; (· exact rfl); (· assumption); (· exact rfl))); (· first | (refine rv_tmp (v := .int _ _) rfl) | exact rv_tmp rfl); (· exact Ent.auto)))
      exact ⟨Ent.refl _, rfl⟩
  · obtain rfl : j = W.length := by omega
    rw [List.take_length] at hL
    rw [← hL] at hnn hny
    have htop : ∀ x ∈ l, x < 9223372036854775808 := by rw [hL]; exact vals_top W
    have hok := new_ok (k := kindOf w) htop
    have htl := textN_len hok
    refine WP.rd fun rd => ?_
    refine walk ?_
    refine s_call rfl (nNew (k := kindOf w) (l := l) (rd.ent InH.ent)) rfl ?_
    rintro _ _ ⟨e_, rfl⟩
    obtain rfl := e_.symm
    rcases new_cases (kindOf w) l with h0 | h0
    · obtain ⟨m, hm0⟩ : ∃ m, newN (kindOf w) l = (m, 0) := ⟨_, Prod.ext rfl h0⟩
      have hans := hny hm0
      rw [hm0] at hok
      rw [hm0]
      simp only at hok
      refine walk ?_
      refine s_alloc rfl ?_
      intro b12
      refine walk ?_
      refine s_storeV (vs := nv m) rfl rfl rfl rfl rfl ?_
      refine walk ?_
      refine s_call rfl (nText T (n := m) hok) rfl ?_
      rintro _ _ ⟨e_, rfl⟩
      obtain rfl := e_.symm
      refine walk ?_
      by_cases ht : textN m = s
      · rw [if_pos ht] at hans
        subst hans
        refine s_nestr rfl rfl (b := false) (by simp [ht]) rfl ?_
        refine walk ?_
        refine s_storeV (vs := nv m) rfl rfl rfl rfl rfl ?_
        refine walk ?_
        (first | (apply retRD2 (G := H) (.inr rfl) rfl; (· first | (refine rv_cell (v := .agg _) rfl (Cell.blk rfl)) | exact rv_cellA rfl Cells.blk0 rfl | (apply rv_cell; (· exact rfl); (· assumption)) | (apply rv_cellA; (· exact rfl); (· assumption); (· exact rfl))); (· first | (refine rv_tmp (v := .int _ _) rfl) | exact rv_tmp rfl); (· exact Ent.auto)) | (apply retRD2 (G := H) (.inl rfl) rfl; (· first | (refine rv_cell (v := .agg _) rfl (Cell.blk rfl)) | exact rv_cellA rfl Cells.blk0 rfl | (apply rv_cell; (· exact rfl); (· assumption)) | (apply rv_cellA; (· exact rfl); (· assumption); (· exact rfl))); (· first | (refine rv_tmp (v := .int _ _) rfl) | exact rv_tmp rfl); (· exact Ent.auto)))
        exact ⟨Ent.refl _, rfl⟩
      · rw [if_neg ht] at hans
        subst hans
        refine s_nestr rfl rfl (b := true) (by simpa using ht) rfl ?_
        refine walk ?_
        (refine s_build (cs := nv zeroN) ?_ rfl ?_; (· kernel_rfl))
        refine s_storeV (vs := nv zeroN) rfl rfl rfl rfl rfl ?_
        refine walk ?_
        (first | (apply retRD2 (G := H) (.inr rfl) rfl; (· first | (refine rv_cell (v := .agg _) rfl (Cell.blk rfl)) | exact rv_cellA rfl Cells.blk0 rfl | (apply rv_cell; (· exact rfl); (· assumption)) | (apply rv_cellA; (· exact rfl); (· assumption); (· exact rfl))); (· first | (refine rv_tmp (v := .int _ _) rfl) | exact rv_tmp rfl); (· exact Ent.auto)) | (apply retRD2 (G := H) (.inl rfl) rfl; (· first | (refine rv_cell (v := .agg _) rfl (Cell.blk rfl)) | exact rv_cellA rfl Cells.blk0 rfl | (apply rv_cell; (· exact rfl); (· assumption)) | (apply rv_cellA; (· exact rfl); (· assumption); (· exact rfl))); (· first | (refine rv_tmp (v := .int _ _) rfl) | exact rv_tmp rfl); (· exact Ent.auto)))
        exact ⟨Ent.refl _, rfl⟩
    · have hnone := hnn h0
      subst hnone
      obtain ⟨m, hm0⟩ : ∃ m, newN (kindOf w) l = (m, 260) := ⟨_, Prod.ext rfl h0⟩
      rw [hm0]
      refine walk ?_
      refine s_alloc rfl ?_
      intro b12
      refine walk ?_
      refine s_storeV (vs := nv m) rfl rfl rfl rfl rfl ?_
      refine walk ?_
      (refine s_build (cs := nv zeroN) ?_ rfl ?_; (· kernel_rfl))
      refine s_storeV (vs := nv zeroN) rfl rfl rfl rfl rfl ?_
      refine walk ?_
      (first | (apply retRD2 (G := H) (.inr rfl) rfl; (· first | (refine rv_cell (v := .agg _) rfl (Cell.blk rfl)) | exact rv_cellA rfl Cells.blk0 rfl | (apply rv_cell; (· exact rfl); (· assumption)) | (apply rv_cellA; (· exact rfl); (· assumption); (· exact rfl))); (· first | (refine rv_tmp (v := .int _ _) rfl) | exact rv_tmp rfl); (· exact Ent.auto)) | (apply retRD2 (G := H) (.inl rfl) rfl; (· first | (refine rv_cell (v := .agg _) rfl (Cell.blk rfl)) | exact rv_cellA rfl Cells.blk0 rfl | (apply rv_cell; (· exact rfl); (· assumption)) | (apply rv_cellA; (· exact rfl); (· assumption); (· exact rfl))); (· first | (refine rv_tmp (v := .int _ _) rfl) | exact rv_tmp rfl); (· exact Ent.auto)))
      exact ⟨Ent.refl _, rfl⟩
end
end Go.Proofs.YtofgpppnknpblaaGreatDoor
