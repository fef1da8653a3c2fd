/- A word's text; its places. No condition. -/
import Derived.Test.YtdmfojjpanndoaaDoorWdRef02
import Derived.Test.YtdmfojjpanndoaaDoorWdDigits
import Derived.Test.YtdmfojjpanndoaaDoorSLRange
import Derived.Test.YtdmfojjpanndoaaDoorSLKeep
namespace Go.Proofs.YtdmfojjpanndoaaDoor
open Go Go.SL
set_option linter.unusedSimpArgs false
set_option linter.unusedVariables false
set_option maxRecDepth 10000
set_option maxHeartbeats 2000000
/-- A word's text. -/
def wtext (h t : Int) : List UInt8 := Lib.decDigits h.toNat ++ [46, 46] ++ Lib.decDigits t.toNat
theorem dec_len {n : Nat} (h : n < 18446744073709551616) : (Lib.decDigits n).length ≤ 20 := by rw [Lib.decDigits_length]; exact Lib.nDigits_le20 n h
attribute [local irreducible] WP WPL QSeq QBlk QRet Does Cell Cells Rd Mine Ent Aside RV
section
variable {B : World} {H F : HProp} {h t n p q k w : Int}
theorem digU (T : Tab B) (hn : U32 n) : Does Tryd.prog B 34 [.int .u32 n] H fun r H' => H' = H ∧ r = str (Lib.decDigits n.toNat) := by
  obtain ⟨a, rfl⟩ := Int.eq_ofNat_of_zero_le hn.1
  have hb := hn.2
  rw [Int.toNat_natCast]
  refine fn_intro 6 Tryd.func34 rfl rfl rfl ?_
  refine walkG ?_
  refine s_call rfl (fmtU T (u := a) (by omega)) rfl ?_
  rintro _ _ ⟨e_, rfl⟩
  obtain rfl := e_.symm
  refine walk ?_
  (first | refine ret1 (v := .string _) (.inr rfl) rfl rfl ?_ | refine ret1  (.inr rfl) rfl rfl ?_ | refine ret1 (v := .string _) (.inl rfl) rfl rfl ?_ | refine ret1  (.inl rfl) rfl rfl ?_)
  exact ⟨rfl, rfl⟩
theorem autoWordText3 {p q : Prop} (k : q) (h : Owed q → p := by
  intro k_
  refine walkG ?_
  repeat ((first | (show WPL _ _ _ _ _ (⟨_, .call ⟨.value (.func 14), _, _⟩, _, _, _, none⟩ :: _) _ _ _; (apply s_call; (· exact rfl); (· refine head_spec ?_ ?_ <;> (first | assumption | omega | decide | (unfold U32; omega) | exact InH.ent | (apply Rd.ent; (· assumption); (· exact InH.ent)) | exact Rd.nil | (refine Rd.blk0 ?_ ?_; (· rfl); (· simp [maxLen])) | simp)); (· exact rfl); rintro _ _ ⟨e_, rfl⟩; obtain rfl := e_.symm)) | (show WPL _ _ _ _ _ (⟨_, .call ⟨.value (.func 17), _, _⟩, _, _, _, none⟩ :: _) _ _ _; (apply s_call; (· exact rfl); (· refine tail_spec ?_ ?_ <;> (first | assumption | omega | decide | (unfold U32; omega) | exact InH.ent | (apply Rd.ent; (· assumption); (· exact InH.ent)) | exact Rd.nil | (refine Rd.blk0 ?_ ?_; (· rfl); (· simp [maxLen])) | simp)); (· exact rfl); rintro _ _ ⟨e_, rfl⟩; obtain rfl := e_.symm))); refine walkG ?_)
  exact k_.get) : p := h ⟨k⟩
theorem wText (T : Tab B) (h1 : U32 h) (h2 : U32 t) : Does Tryd.prog B 18 [wd h t] H fun r H' => H' = H ∧ r = str (wtext h t) := by
  have l1 := dec_len (n := h.toNat) (by have := h1.2; omega)
  have l2 := dec_len (n := t.toNat) (by have := h2.2; omega)
  refine fn_intro 14 Tryd.func18 rfl rfl rfl ?_
  refine autoWordText3 ?_
  refine s_callV (first := []) (cap := []) rfl rfl (digU T h1) rfl ?_
  rintro _ _ ⟨e_, rfl⟩
  obtain rfl := e_.symm
  refine autoWordText3 ?_
  refine s_concat (m := [46, 46]) rfl rfl (by simp; omega) rfl rfl ?_
  refine autoWordText3 ?_
  refine s_callV (first := []) (cap := []) rfl rfl (digU T h2) rfl ?_
  rintro _ _ ⟨e_, rfl⟩
  obtain rfl := e_.symm
  refine autoWordText3 ?_
  refine s_concat rfl rfl (by simp; omega) rfl rfl ?_
  refine autoWordText3 ?_
  (first | refine ret1 (v := .string _) (.inr rfl) rfl rfl ?_ | refine ret1  (.inr rfl) rfl rfl ?_ | refine ret1 (v := .string _) (.inl rfl) rfl rfl ?_ | refine ret1  (.inl rfl) rfl rfl ?_)
  exact ⟨rfl, rfl⟩

theorem digits1 {u : Int} (hu : U32 u) : Does Tryd.prog B 36 [.int .u64 u, .int .i64 1] H fun r H' => H' = H ∧ r = str (Lib.decDigits u.toNat) := by
  obtain ⟨a, rfl⟩ := Int.eq_ofNat_of_zero_le hu.1
  have hb := hu.2
  rw [Int.toNat_natCast, ← digGo_one]
  exact digits_spec (least := 1) (by omega) (by omega)
theorem rText (h1 : U32 h) (h2 : U32 t) : Does Tryd.prog B 19 [wA h t] H fun r H' => H' = H ∧ r = str (wtext h t) := by
  have l1 := dec_len (n := h.toNat) (by have := h1.2; omega)
  have l2 := dec_len (n := t.toNat) (by have := h2.2; omega)
  refine fn_intro 13 Tryd.func19 rfl rfl rfl ?_
  refine walkG ?_
  repeat ((first | (show WPL _ _ _ _ _ (⟨_, .box _ _, _, _, _, none⟩ :: _) _ _ _; (first | refine s_box (v := .int _ _) rfl rfl rfl ?_ | refine s_box (v := .pointer _) rfl rfl rfl ?_ | refine s_box (v := .slice _ _ _) rfl rfl rfl ?_ | refine s_box (v := .bool _) rfl rfl rfl ?_ | refine s_box (v := .agg _) rfl rfl rfl ?_ | refine s_box (v := .string _) rfl rfl rfl ?_ | refine s_box (v := .func _ _ _) rfl rfl rfl ?_ | refine s_box (v := .float _ _) rfl rfl rfl ?_); intro _) | (show WP _ _ _ _ (.region 1 _ true) _ _ _; (refine wp_draw [3, 8] (.look 0 (.look 1 (.look 2 (.look 5 (.look 6 (.look 7 (.act 3 (.look 4 (.act 8 (.look 9 (.look 10 .nil)) .stop)) .stop))))))) (by kernel_rfl) ?_; (apply dw_pure; (· exact rfl); (· exact rfl); (· (intro G; exact lookedG))); (apply dw_look; (· exact rfl); (· exact rfl); (· (exact lookedG))); (apply dw_pure; (· exact rfl); (· exact rfl); (· (intro G; exact lookedG))); (apply dw_pure; (· exact rfl); (· exact rfl); (· (intro G; exact lookedG))); (apply dw_look; (· exact rfl); (· exact rfl); (· (exact lookedG))); (apply dw_pure; (· exact rfl); (· exact rfl); (· (intro G; exact lookedG))); skip); refine dw_do rfl rfl ?_ dw_stop; fail; refine wpl_nil (qone ⟨(by (refine st_again ?_ ?_; (· exact lookedG)); refine st_past (by kernel_rfl) ?_; exact st_nil), ?_⟩); ((apply dw_pure; (· exact rfl); (· exact rfl); (· (intro G; refine s_concat (m := [46, 46]) rfl rfl (by simp; omega) rfl rfl ?_; exact lookedG))); skip); refine dw_do rfl rfl ?_ dw_stop; fail; refine wpl_nil (qone ⟨(by refine st_past (by kernel_rfl) ?_; refine st_past (by kernel_rfl) ?_; exact st_nil), ?_⟩); ((apply dw_pure; (· exact rfl); (· exact rfl); (· (intro G; refine s_concat rfl rfl (by simp; omega) rfl rfl ?_; exact lookedG))); (apply dw_pure; (· exact rfl); (· exact rfl); (· (intro G; exact lookedG))); refine dw_nil ?_; skip))); refine walkG ?_)
  (refine wp_draw [3, 8] (.look 0 (.look 1 (.look 2 (.look 5 (.look 6 (.look 7 (.act 3 (.look 4 (.act 8 (.look 9 (.look 10 .nil)) .stop)) .stop))))))) (by kernel_rfl) ?_; (apply dw_pure; (· exact rfl); (· exact rfl); (· (intro G; exact lookedG))); (apply dw_look; (· exact rfl); (· exact rfl); (· (exact lookedG))); (apply dw_pure; (· exact rfl); (· exact rfl); (· (intro G; exact lookedG))); (apply dw_pure; (· exact rfl); (· exact rfl); (· (intro G; exact lookedG))); (apply dw_look; (· exact rfl); (· exact rfl); (· (exact lookedG))); (apply dw_pure; (· exact rfl); (· exact rfl); (· (intro G; exact lookedG))); skip)
  refine dw_do rfl rfl ?_ dw_stop
  refine s_call rfl (digits1 h1) rfl ?_
  rintro _ _ ⟨e_, rfl⟩
  obtain rfl := e_.symm
  refine wpl_nil (qone ⟨(by (refine st_again ?_ ?_; (· exact lookedG)); refine st_past (by kernel_rfl) ?_; exact st_nil), ?_⟩)
  ((apply dw_pure; (· exact rfl); (· exact rfl); (· (intro G; refine s_concat (m := [46, 46]) rfl rfl (by simp; omega) rfl rfl ?_; exact lookedG))); skip)
  refine dw_do rfl rfl ?_ dw_stop
  refine s_call rfl (digits1 h2) rfl ?_
  rintro _ _ ⟨e_, rfl⟩
  obtain rfl := e_.symm
  refine wpl_nil (qone ⟨(by refine st_past (by kernel_rfl) ?_; refine st_past (by kernel_rfl) ?_; exact st_nil), ?_⟩)
  ((apply dw_pure; (· exact rfl); (· exact rfl); (· (intro G; refine s_concat rfl rfl (by simp; omega) rfl rfl ?_; exact lookedG))); (apply dw_pure; (· exact rfl); (· exact rfl); (· (intro G; exact lookedG))); refine dw_nil ?_; skip)
  refine walkG ?_
  repeat ((first | (show WPL _ _ _ _ _ (⟨_, .box _ _, _, _, _, none⟩ :: _) _ _ _; (first | refine s_box (v := .int _ _) rfl rfl rfl ?_ | refine s_box (v := .pointer _) rfl rfl rfl ?_ | refine s_box (v := .slice _ _ _) rfl rfl rfl ?_ | refine s_box (v := .bool _) rfl rfl rfl ?_ | refine s_box (v := .agg _) rfl rfl rfl ?_ | refine s_box (v := .string _) rfl rfl rfl ?_ | refine s_box (v := .func _ _ _) rfl rfl rfl ?_ | refine s_box (v := .float _ _) rfl rfl rfl ?_); intro _) | (show WP _ _ _ _ (.region 1 _ true) _ _ _; (refine wp_draw [3, 8] (.look 0 (.look 1 (.look 2 (.look 5 (.look 6 (.look 7 (.act 3 (.look 4 (.act 8 (.look 9 (.look 10 .nil)) .stop)) .stop))))))) (by kernel_rfl) ?_; (apply dw_pure; (· exact rfl); (· exact rfl); (· (intro G; exact lookedG))); (apply dw_look; (· exact rfl); (· exact rfl); (· (exact lookedG))); (apply dw_pure; (· exact rfl); (· exact rfl); (· (intro G; exact lookedG))); (apply dw_pure; (· exact rfl); (· exact rfl); (· (intro G; exact lookedG))); (apply dw_look; (· exact rfl); (· exact rfl); (· (exact lookedG))); (apply dw_pure; (· exact rfl); (· exact rfl); (· (intro G; exact lookedG))); skip); refine dw_do rfl rfl ?_ dw_stop; fail; refine wpl_nil (qone ⟨(by (refine st_again ?_ ?_; (· exact lookedG)); refine st_past (by kernel_rfl) ?_; exact st_nil), ?_⟩); ((apply dw_pure; (· exact rfl); (· exact rfl); (· (intro G; refine s_concat (m := [46, 46]) rfl rfl (by simp; omega) rfl rfl ?_; exact lookedG))); skip); refine dw_do rfl rfl ?_ dw_stop; fail; refine wpl_nil (qone ⟨(by refine st_past (by kernel_rfl) ?_; refine st_past (by kernel_rfl) ?_; exact st_nil), ?_⟩); ((apply dw_pure; (· exact rfl); (· exact rfl); (· (intro G; refine s_concat rfl rfl (by simp; omega) rfl rfl ?_; exact lookedG))); (apply dw_pure; (· exact rfl); (· exact rfl); (· (intro G; exact lookedG))); refine dw_nil ?_; skip))); refine walkG ?_)
  (first | (apply retRD1 (G := H) (.inr rfl) rfl; (· first | (refine rv_tmp (v := .string _) rfl) | exact rv_tmp rfl); (· exact Ent.auto)) | (apply retRD1 (G := H) (.inl rfl) rfl; (· first | (refine rv_tmp (v := .string _) rfl) | exact rv_tmp rfl); (· exact Ent.auto)))
  exact ⟨rfl, rfl⟩
theorem autoWordText8 {p q : Prop} (k : q) (h : Owed q → p := by
  intro k_
  refine walkG ?_
  repeat ((first | (show WPL _ _ _ _ _ (⟨_, .call ⟨.value (.func 14), _, _⟩, _, _, _, none⟩ :: _) _ _ _; (apply s_call; (· exact rfl); (· refine head_spec ?_ ?_ <;> (first | assumption | omega | decide | (unfold U32; omega) | exact InH.ent | (apply Rd.ent; (· assumption); (· exact InH.ent)) | exact Rd.nil | (refine Rd.blk0 ?_ ?_; (· rfl); (· simp [maxLen])) | simp)); (· exact rfl); rintro _ _ ⟨e_, rfl⟩; obtain rfl := e_.symm)) | (show WPL _ _ _ _ _ (⟨_, .call ⟨.value (.func 13), _, _⟩, _, _, _, none⟩ :: _) _ _ _; (apply s_call; (· exact rfl); (· refine len_spec ?_ ?_ <;> (first | assumption | omega | decide | (unfold U32; omega) | exact InH.ent | (apply Rd.ent; (· assumption); (· exact InH.ent)) | exact Rd.nil | (refine Rd.blk0 ?_ ?_; (· rfl); (· simp [maxLen])) | simp)); (· exact rfl); rintro _ _ ⟨e_, rfl⟩; obtain rfl := e_.symm))); refine walkG ?_)
  exact k_.get) : p := h ⟨k⟩
theorem wHas (h1 : U32 h) (h2 : U32 t) : Does Tryd.prog B 24 [wd h t, .int .u32 p] H fun r H' => H' = H ∧ r = .bool (decide ((p - h) % 4294967296 < (t - h) % 4294967296)) := by
  refine fn_intro 12 Tryd.func24 rfl rfl rfl ?_
  refine autoWordText8 ?_
  (first | refine ret1 (v := .bool _) (.inr rfl) rfl rfl ?_ | refine ret1  (.inr rfl) rfl rfl ?_ | refine ret1 (v := .bool _) (.inl rfl) rfl rfl ?_ | refine ret1  (.inl rfl) rfl rfl ?_)
  exact ⟨rfl, rfl⟩
theorem autoWordText11 {p q : Prop} (k : q) (h : Owed q → p := by
  intro k_
  refine walkG ?_
  repeat ((first | (show WPL _ _ _ _ _ (⟨_, .call ⟨.value (.func 20), _, _⟩, _, _, _, none⟩ :: _) _ _ _; (apply s_call; (· exact rfl); (· exact roomOf_spec); (· exact rfl); rintro _ _ ⟨e_, rfl⟩; obtain rfl := e_.symm))); refine walkG ?_)
  exact k_.get) : p := h ⟨k⟩
theorem wSlot (hp : U32 p) : Does Tryd.prog B 22 [.int .u32 p, .int .i64 q] H fun r H' => H' = H ∧ r = .int .i64 (if (decide (0 ≤ q) && isRoom q.toNat) = true then p % q else 0) := by
  cases hr : (decide (0 ≤ q) && isRoom q.toNat) with
  | true =>
    rw [Bool.and_eq_true, decide_eq_true_eq] at hr
    obtain ⟨hq, hr⟩ := hr
    obtain ⟨a, rfl⟩ := Int.eq_ofNat_of_zero_le hq
    rw [Int.toNat_natCast] at hr
    obtain ⟨b, rfl⟩ := Int.eq_ofNat_of_zero_le hp.1
    exact slot_spec hp hr
  | false =>
    refine fn_intro 13 Tryd.func22 rfl rfl rfl ?_
    refine autoWordText11 ?_
    rw [hr]
    refine autoWordText11 ?_
    (first | refine ret1 (v := .int _ _) (.inr rfl) rfl rfl ?_ | refine ret1  (.inr rfl) rfl rfl ?_ | refine ret1 (v := .int _ _) (.inl rfl) rfl rfl ?_ | refine ret1  (.inl rfl) rfl rfl ?_)
    exact ⟨rfl, rfl⟩
end
end Go.Proofs.YtdmfojjpanndoaaDoor
