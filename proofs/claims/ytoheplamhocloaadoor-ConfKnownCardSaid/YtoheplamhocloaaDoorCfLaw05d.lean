/- The chapter's examples. No condition. -/
import Derived.Test.YtoheplamhocloaaDoorCfLaw05b
import Derived.Test.YtoheplamhocloaaDoorCfLaw05c
namespace Go.Proofs.YtoheplamhocloaaDoor
open Go Go.SL
set_option linter.unusedSimpArgs false
set_option linter.unusedVariables false
set_option maxRecDepth 10000
set_option maxHeartbeats 4000000
theorem Cells.part {B : World} {H F : HProp} {b o : Nat} {cs vs : List Value} {e : TypeId} [i : HasBlk H b cs e F] (h : (cs.drop o).take vs.length = vs) : Cells B H b o vs :=
  Cells.blk fun j v hj => by
    have h1 : ((cs.drop o).take vs.length)[j]? = some v := by rw [h]; exact hj
    rw [List.getElem?_take] at h1
    split at h1
    · rwa [List.getElem?_drop] at h1
    · cases h1
/-- The configs of one round. -/
def roundC (i : Int) : Nat → Cfg
  | 0 => ⟨i.tmod 12, 4, 8, 3, 5, 1⟩
  | 1 => ⟨2, i, 8, 3, 5, 1⟩
  | 2 => ⟨2, 4, i * 4 - 3, 3, 5, 1⟩
  | 3 => ⟨2, 4, 8, i.tmod 20, 5, 1⟩
  | 4 => ⟨2, 4, 8, 3, i * 3, 1⟩
  | _ => ⟨2, 4, 8, 3, 5, i * 15 - 3⟩
def round1 (i : Int) : List Value := cv ⟨i.tmod 12, 4, 8, 3, 5, 1⟩ ++ (cv exC ++ (cv exC ++ (cv exC ++ (cv exC ++ cv exC))))
def round2 (i : Int) : List Value := cv ⟨i.tmod 12, 4, 8, 3, 5, 1⟩ ++ (cv ⟨2, i, 8, 3, 5, 1⟩ ++ (cv exC ++ (cv exC ++ (cv exC ++ cv exC))))
def round3 (i : Int) : List Value := cv ⟨i.tmod 12, 4, 8, 3, 5, 1⟩ ++ (cv ⟨2, i, 8, 3, 5, 1⟩ ++ (cv ⟨2, 4, i * 4 - 3, 3, 5, 1⟩ ++ (cv exC ++ (cv exC ++ cv exC))))
def round4 (i : Int) : List Value := cv ⟨i.tmod 12, 4, 8, 3, 5, 1⟩ ++ (cv ⟨2, i, 8, 3, 5, 1⟩ ++ (cv ⟨2, 4, i * 4 - 3, 3, 5, 1⟩ ++ (cv ⟨2, 4, 8, i.tmod 20, 5, 1⟩ ++ (cv exC ++ cv exC))))
def round5 (i : Int) : List Value := cv ⟨i.tmod 12, 4, 8, 3, 5, 1⟩ ++ (cv ⟨2, i, 8, 3, 5, 1⟩ ++ (cv ⟨2, 4, i * 4 - 3, 3, 5, 1⟩ ++ (cv ⟨2, 4, 8, i.tmod 20, 5, 1⟩ ++ (cv ⟨2, 4, 8, 3, i * 3, 1⟩ ++ cv exC))))
def round6 (i : Int) : List Value := cv ⟨i.tmod 12, 4, 8, 3, 5, 1⟩ ++ (cv ⟨2, i, 8, 3, 5, 1⟩ ++ (cv ⟨2, 4, i * 4 - 3, 3, 5, 1⟩ ++ (cv ⟨2, 4, 8, i.tmod 20, 5, 1⟩ ++ (cv ⟨2, 4, 8, 3, i * 3, 1⟩ ++ cv ⟨2, 4, 8, 3, 5, i * 15 - 3⟩))))
theorem round_at (i : Int) {k : Nat} (h : k < 6) : ((round6 i).drop (k * 6)).take (cv (roundC i k)).length = cv (roundC i k) := by
  match k, h with
  | 0, _ => rfl
  | 1, _ => rfl
  | 2, _ => rfl
  | 3, _ => rfl
  | 4, _ => rfl
  | 5, _ => rfl
def names13 : List (List UInt8) := [[], [116, 105, 99, 107, 101, 116], [116, 105, 99, 107, 101, 116, 32], [119, 111, 114, 100], [119, 111, 114, 100, 32, 48], [119, 111, 114, 100, 32, 50], [119, 111, 114, 100, 32, 48, 48], [115, 108, 111, 116, 32, 49], [115, 108, 111, 116, 32, 49, 32, 51], [115, 108, 111, 116, 32, 49, 32, 52], [115, 108, 111, 116, 32, 48, 32, 45, 49], [70, 108, 97, 103, 32, 49], [115, 121, 115, 32, 49]]
def texts10 : List (List UInt8) := [[], [110, 32, 50, 32, 113, 32, 52, 32, 103, 32, 56, 32, 109, 32, 51, 32, 116, 32, 53, 32, 115, 32, 49], [110, 32, 50, 32, 113, 32, 52, 32, 103, 32, 56, 32, 109, 32, 51, 32, 116, 32, 53, 32, 115, 32, 49, 32], [110, 32, 50, 32, 113, 32, 52, 32, 103, 32, 56, 32, 109, 32, 51, 32, 116, 32, 53], [110, 32, 50, 32, 113, 32, 53, 32, 103, 32, 56, 32, 109, 32, 51, 32, 116, 32, 53, 32, 115, 32, 49], [110, 32, 48, 50, 32, 113, 32, 52, 32, 103, 32, 56, 32, 109, 32, 51, 32, 116, 32, 53, 32, 115, 32, 49], [113, 32, 52, 32, 110, 32, 50, 32, 103, 32, 56, 32, 109, 32, 51, 32, 116, 32, 53, 32, 115, 32, 49], [110, 32, 50, 32, 113, 32, 52, 32, 103, 32, 56, 32, 109, 32, 50, 32, 116, 32, 53, 32, 115, 32, 49], [110, 32, 56, 32, 113, 32, 54, 52, 32, 103, 32, 50, 53, 54, 32, 109, 32, 49, 54, 32, 116, 32, 50, 48, 48, 32, 115, 32, 49, 48, 48, 48], [110, 32, 45, 50, 32, 113, 32, 52, 32, 103, 32, 56, 32, 109, 32, 51, 32, 116, 32, 53, 32, 115, 32, 49]]
attribute [local irreducible] WP WPL QSeq QBlk QRet Does Cell Cells Rd Mine Ent Aside RV Yield
section
variable {B : World} {F H G : HProp}
theorem known_law (T : Tab B) (L : LibOk B) : Does Tryd.prog B 7 [] H fun r H' => H' = H ∧ r = .bool true := by
  refine Does.frame0 ?_
  refine fn_intro 147 Tryd.func7 rfl rfl rfl ?_
  refine walk ?_
  refine s_call rfl (example_spec) rfl ?_
  rintro _ _ ⟨e_, rfl⟩
  obtain rfl := e_.symm
  refine walk ?_
  refine s_alloc rfl ?_
  intro b
  refine walk ?_
  refine s_storeV (vs := cv exC) rfl rfl rfl rfl rfl ?_
  refine walk ?_
  refine wp_loopR (α := Int) [0, 2, 3, 4, 10, 11, 12, 13, 14, 15, 16, 17, 18, 19, 20, 21, 22, 23, 24, 25, 26, 27, 28, 29, 30, 31, 32, 33, 34, 35, 36, 37, 38, 39, 40, 41, 42, 43, 44, 45, 46, 47, 48, 49, 50, 51, 52, 53, 54, 55, 56, 57, 58, 59, 60, 61, 62, 63, 64, 65, 66, 67, 68, 69, 70, 71, 72, 73, 74, 75, 76, 77, 78, 79, 80, 81, 82, 83, 84, 85, 86, 87, 88, 89, 90, 91, 92, 93, 94, 95, 96, 97, 98, 99, 100, 101, 102] (fun i => [(2, .int .i64 i)]) (fun i => -1 ≤ i ∧ i ≤ 70) (fun i => (70 - i).toNat) (-1) agreed ⟨by omega, by omega⟩ ?_
  rintro i f ⟨hi0, hi1⟩
  simp only [putAll]
  by_cases hlt : i < 70
  · have h4 : -1 ≤ i.tmod 4 ∧ i.tmod 4 ≤ 70 := by
      rcases (show i < 0 ∨ 0 ≤ i by omega) with h | h
      · obtain rfl : i = -1 := by omega
        decide
      · rw [Int.tmod_eq_emod_of_nonneg h]; omega
    refine walk ?_
    refine s_buildRows [cv exC, cv exC, cv exC, cv exC, cv exC, cv exC] rfl rfl rfl rfl rfl rfl ?_
    intro bl
    refine walk ?_
    refine s_rem rfl rfl (by omega) rfl rfl ?_
    refine walk ?_
    (apply s_indexAddr (j := 0) (o' := 0); (· exact rfl); (· exact rfl); (· omega); (· omega); (· omega); (· exact rfl))
    refine walk ?_
    refine s_store (v := .int .i64 _) (cs' := round1 i) rfl rfl rfl (by show _ < 36; decide) rfl ?_
    refine walk ?_
    (apply s_indexAddr (j := 1) (o' := 6); (· exact rfl); (· exact rfl); (· omega); (· omega); (· omega); (· exact rfl))
    refine walk ?_
    refine s_store (v := .int .i64 _) (cs' := round2 i) rfl rfl rfl (by show _ < 36; decide) rfl ?_
    refine walk ?_
    (apply s_indexAddr (j := 2) (o' := 12); (· exact rfl); (· exact rfl); (· omega); (· omega); (· omega); (· exact rfl))
    refine walk ?_
    refine s_store (v := .int .i64 _) (cs' := round3 i) rfl rfl rfl (by show _ < 36; decide) rfl ?_
    refine walk ?_
    refine s_rem rfl rfl (by omega) rfl rfl ?_
    refine walk ?_
    (apply s_indexAddr (j := 3) (o' := 18); (· exact rfl); (· exact rfl); (· omega); (· omega); (· omega); (· exact rfl))
    refine walk ?_
    refine s_store (v := .int .i64 _) (cs' := round4 i) rfl rfl rfl (by show _ < 36; decide) rfl ?_
    refine walk ?_
    (apply s_indexAddr (j := 4) (o' := 24); (· exact rfl); (· exact rfl); (· omega); (· omega); (· omega); (· exact rfl))
    refine walk ?_
    refine s_store (v := .int .i64 _) (cs' := round5 i) rfl rfl rfl (by show _ < 36; decide) rfl ?_
    refine walk ?_
    (apply s_indexAddr (j := 5) (o' := 30); (· exact rfl); (· exact rfl); (· omega); (· omega); (· omega); (· exact rfl))
    refine walk ?_
    refine s_store (v := .int .i64 _) (cs' := round6 i) rfl rfl rfl (by show _ < 36; decide) rfl ?_
    refine walk ?_
    refine wp_loopR (α := Nat) [0, 4, 52, 53, 54, 55, 56, 57, 58, 59, 60, 61, 62, 63, 64, 65, 66, 67, 68, 69, 70, 71, 72, 73, 74, 75, 76, 77, 78, 79, 80, 81, 82, 83, 84, 85, 86, 87, 88, 89, 90, 91, 92, 93, 94, 95, 96, 97, 98, 99, 100, 101, 102] (fun k => [(4, .int .i64 k)]) (fun k => k ≤ 6) (fun k => 6 - k) 0 agreed (Nat.zero_le _) ?_
    rintro k f2 hk
    simp only [putAll]
    by_cases hk6 : k < 6
    · have hc : Cells B (blk bl (round6 i) 23) bl (k * 6) (cv (roundC i k)) := Cells.part (round_at i hk6)
      by_cases h9 : i.tmod 9 = 0
      · refine walk ?_
        (refine wp_draw [9, 20, 21, 22, 31, 43] (.look 0 (.look 1 (.look 2 (.look 3 (.look 4 (.look 5 (.look 6 (.look 7 (.look 8 (.act 9 (.look 10 (.look 11 (.look 12 (.look 13 (.look 14 (.look 15 (.look 16 (.look 17 (.look 18 (.look 19 (.act 20 (.act 21 (.act 22 (.look 23 (.look 24 (.look 25 (.look 26 (.look 27 (.look 28 (.look 29 (.look 30 (.act 31 (.look 32 (.look 33 (.look 34 (.look 35 (.look 36 (.look 37 (.look 38 (.look 39 (.look 40 (.look 41 (.look 42 (.act 43 (.look 44 (.look 45 (.look 46 .nil))) .stop)))))))))))) .stop))))))))) .stop) .stop) .stop))))))))))) .stop)))))))))) (by kernel_rfl) ?_; (apply dw_pure; (· exact rfl); (· exact rfl); (· (intro G; exact looked))); (apply dw_pure; (· exact rfl); (· exact rfl); (· (intro G; exact looked))); (apply dw_pure; (· exact rfl); (· exact rfl); (· (intro G; (apply s_indexAddr (j := k) (o' := k * 6); (· exact rfl); (· exact rfl); (· omega); (· omega); (· omega); (· exact rfl)); exact looked))); (apply dw_look; (· exact rfl); (· exact rfl); (· (exact looked))); (apply dw_pure; (· exact rfl); (· exact rfl); (· (intro G; exact looked))); (apply dw_pure; (· exact rfl); (· exact rfl); (· (intro G; refine s_rem rfl rfl (by omega) rfl rfl ?_; exact looked))); (apply dw_pure; (· exact rfl); (· exact rfl); (· (intro G; exact looked))); (apply dw_pure; (· exact rfl); (· exact rfl); (· (intro G; exact looked))); (apply dw_pure; (· exact rfl); (· exact rfl); (· (intro G; exact looked))); skip)
        refine dw_do rfl rfl ?_ dw_stop
        refine s_call rfl (cells_law T (c := roundC i k) (by omega)) rfl ?_
        rintro _ _ ⟨e_, rfl⟩
        obtain rfl := e_.symm
        refine wpl_nil (qone ⟨(by refine st_past (by kernel_rfl) ?_; exact st_nil), ?_⟩)
        ((apply dw_pure; (· exact rfl); (· exact rfl); (· (intro G; exact looked))); (apply dw_pure; (· exact rfl); (· exact rfl); (· (intro G; exact looked))); (apply dw_pure; (· exact rfl); (· exact rfl); (· (intro G; exact looked))); (apply dw_pure; (· exact rfl); (· exact rfl); (· (intro G; exact looked))); (apply dw_pure; (· exact rfl); (· exact rfl); (· (intro G; refine step_wanted rfl rfl ?_; (apply s_indexAddr (j := k) (o' := k * 6); (· exact rfl); (· exact rfl); (· omega); (· omega); (· omega); (· exact rfl)); exact looked))); (apply dw_look; (· exact rfl); (· exact rfl); (· (exact looked))); (apply dw_pure; (· exact rfl); (· exact rfl); (· (intro G; exact looked))); (apply dw_pure; (· exact rfl); (· exact rfl); (· (intro G; exact looked))); (apply dw_pure; (· exact rfl); (· exact rfl); (· (intro G; refine step_wanted rfl rfl ?_; (apply s_indexAddr (j := k) (o' := k * 6); (· exact rfl); (· exact rfl); (· omega); (· omega); (· omega); (· exact rfl)); exact looked))); (apply dw_look; (· exact rfl); (· exact rfl); (· (exact looked))); skip)
        refine dw_do rfl rfl ?_ dw_stop
        refine step_wanted rfl rfl ?_
        refine s_call rfl (dConfig (c := roundC i k)) rfl ?_
        rintro _ _ ⟨e_, rfl⟩
        obtain rfl := e_.symm
        refine wpl_nil (qone ⟨(by refine st_past (by kernel_rfl) ?_; (refine st_again ?_ ?_; (· exact looked)); refine st_past (by kernel_rfl) ?_; exact st_nil), ?_⟩)
        (skip)
        refine dw_do rfl rfl ?_ dw_stop
        refine step_wanted rfl rfl ?_
        refine s_call rfl (rText (c := roundC i k)) rfl ?_
        rintro _ _ ⟨e_, rfl⟩
        obtain rfl := e_.symm
        refine wpl_nil (qone ⟨(by refine st_past (by kernel_rfl) ?_; (refine st_again ?_ ?_; (· exact looked)); refine st_past (by kernel_rfl) ?_; exact st_nil), ?_⟩)
        (skip)
        refine dw_do rfl rfl ?_ dw_stop
        refine step_wanted rfl rfl ?_
        refine s_call rfl (texts_law T L (c := roundC i k)) rfl ?_
        rintro _ _ ⟨e_, rfl⟩
        obtain rfl := e_.symm
        refine wpl_nil (qone ⟨(by refine st_past (by kernel_rfl) ?_; refine st_past (by kernel_rfl) ?_; refine st_past (by kernel_rfl) ?_; exact st_nil), ?_⟩)
        ((apply dw_pure; (· exact rfl); (· exact rfl); (· (intro G; exact looked))); (apply dw_pure; (· exact rfl); (· exact rfl); (· (intro G; exact looked))); (apply dw_pure; (· exact rfl); (· exact rfl); (· (intro G; exact looked))); (apply dw_pure; (· exact rfl); (· exact rfl); (· (intro G; exact looked))); (apply dw_pure; (· exact rfl); (· exact rfl); (· (intro G; exact looked))); (apply dw_pure; (· exact rfl); (· exact rfl); (· (intro G; refine step_wanted rfl rfl ?_; (apply s_indexAddr (j := k) (o' := k * 6); (· exact rfl); (· exact rfl); (· omega); (· omega); (· omega); (· exact rfl)); exact looked))); (apply dw_look; (· exact rfl); (· exact rfl); (· (exact looked))); (apply dw_pure; (· exact rfl); (· exact rfl); (· (intro G; exact looked))); skip)
        refine dw_do rfl rfl ?_ dw_stop
        refine step_wanted rfl rfl ?_
        refine s_call rfl (names_law T (c := roundC i k)) rfl ?_
        rintro _ _ ⟨e_, rfl⟩
        obtain rfl := e_.symm
        refine wpl_nil (qone ⟨(by refine st_past (by kernel_rfl) ?_; refine st_past (by kernel_rfl) ?_; refine st_past (by kernel_rfl) ?_; refine st_past (by kernel_rfl) ?_; exact st_nil), ?_⟩)
        ((apply dw_pure; (· exact rfl); (· exact rfl); (· (intro G; exact looked))); (apply dw_pure; (· exact rfl); (· exact rfl); (· (intro G; exact looked))); (apply dw_pure; (· exact rfl); (· exact rfl); (· (intro G; exact looked))); (apply dw_pure; (· exact rfl); (· exact rfl); (· (intro G; exact looked))); (apply dw_pure; (· exact rfl); (· exact rfl); (· (intro G; refine step_wanted rfl rfl ?_; refine s_rem rfl rfl (by omega) rfl rfl ?_; exact looked))); (apply dw_pure; (· exact rfl); (· exact rfl); (· (intro G; exact looked))); (apply dw_pure; (· exact rfl); (· exact rfl); (· (intro G; exact looked))); (apply dw_pure; (· exact rfl); (· exact rfl); (· (intro G; exact looked))); (apply dw_pure; (· exact rfl); (· exact rfl); (· (intro G; exact looked))); (apply dw_pure; (· exact rfl); (· exact rfl); (· (intro G; (first | (refine step_wanted rfl rfl ?_; apply s_indexAddr (j := k) (o' := k * 6); (· exact rfl); (· exact rfl); (· omega); (· omega); (· omega); (· exact rfl)) | skip); exact looked))); (apply dw_look; (· exact rfl); (· exact rfl); (· (exact looked))); skip)
        refine dw_do rfl rfl ?_ dw_stop
        refine step_wanted rfl rfl ?_
        refine s_call rfl (once_law T (c := roundC i k)) rfl ?_
        rintro _ _ ⟨e_, rfl⟩
        obtain rfl := e_.symm
        refine wpl_nil (qone ⟨(by refine st_past (by kernel_rfl) ?_; refine st_past (by kernel_rfl) ?_; refine st_past (by kernel_rfl) ?_; refine st_past (by kernel_rfl) ?_; refine st_past (by kernel_rfl) ?_; exact st_nil), ?_⟩)
        ((apply dw_pure; (· exact rfl); (· exact rfl); (· (intro G; exact looked))); (apply dw_pure; (· exact rfl); (· exact rfl); (· (intro G; exact looked))); (apply dw_pure; (· exact rfl); (· exact rfl); (· (intro G; exact looked))); refine dw_nil ?_; skip)
        refine walk ?_
        exact ⟨k + 1, asided, agreed, Ent.refl _, hk6, by omega⟩
      · refine walk ?_
        (refine wp_draw [9, 20, 21, 22, 31, 43] (.look 0 (.look 1 (.look 2 (.look 3 (.look 4 (.look 5 (.look 6 (.look 7 (.look 8 (.act 9 (.look 10 (.look 11 (.look 12 (.look 13 (.look 14 (.look 15 (.look 16 (.look 17 (.look 18 (.look 19 (.act 20 (.act 21 (.act 22 (.look 23 (.look 24 (.look 25 (.look 26 (.look 27 (.look 28 (.look 29 (.look 30 (.act 31 (.look 32 (.look 33 (.look 34 (.look 35 (.look 36 (.look 37 (.look 38 (.look 39 (.look 40 (.look 41 (.look 42 (.act 43 (.look 44 (.look 45 (.look 46 .nil))) .stop)))))))))))) .stop))))))))) .stop) .stop) .stop))))))))))) .stop)))))))))) (by kernel_rfl) ?_; (apply dw_pure; (· exact rfl); (· exact rfl); (· (intro G; exact looked))); (apply dw_pure; (· exact rfl); (· exact rfl); (· (intro G; exact looked))); (apply dw_pure; (· exact rfl); (· exact rfl); (· (intro G; (apply s_indexAddr (j := k) (o' := k * 6); (· exact rfl); (· exact rfl); (· omega); (· omega); (· omega); (· exact rfl)); exact looked))); (apply dw_look; (· exact rfl); (· exact rfl); (· (exact looked))); (apply dw_pure; (· exact rfl); (· exact rfl); (· (intro G; exact looked))); (apply dw_pure; (· exact rfl); (· exact rfl); (· (intro G; refine s_rem rfl rfl (by omega) rfl rfl ?_; exact looked))); (apply dw_pure; (· exact rfl); (· exact rfl); (· (intro G; exact looked))); (apply dw_pure; (· exact rfl); (· exact rfl); (· (intro G; exact looked))); (apply dw_pure; (· exact rfl); (· exact rfl); (· (intro G; exact looked))); skip)
        refine dw_do rfl rfl ?_ dw_stop
        refine s_call rfl (cells_law T (c := roundC i k) (by omega)) rfl ?_
        rintro _ _ ⟨e_, rfl⟩
        obtain rfl := e_.symm
        refine wpl_nil (qone ⟨(by refine st_past (by kernel_rfl) ?_; exact st_nil), ?_⟩)
        ((apply dw_pure; (· exact rfl); (· exact rfl); (· (intro G; exact looked))); (apply dw_pure; (· exact rfl); (· exact rfl); (· (intro G; exact looked))); (apply dw_pure; (· exact rfl); (· exact rfl); (· (intro G; exact looked))); (apply dw_pure; (· exact rfl); (· exact rfl); (· (intro G; exact looked))); (apply dw_pure; (· exact rfl); (· exact rfl); (· (intro G; refine step_wanted rfl rfl ?_; (apply s_indexAddr (j := k) (o' := k * 6); (· exact rfl); (· exact rfl); (· omega); (· omega); (· omega); (· exact rfl)); exact looked))); (apply dw_look; (· exact rfl); (· exact rfl); (· (exact looked))); (apply dw_pure; (· exact rfl); (· exact rfl); (· (intro G; exact looked))); (apply dw_pure; (· exact rfl); (· exact rfl); (· (intro G; exact looked))); (apply dw_pure; (· exact rfl); (· exact rfl); (· (intro G; refine step_wanted rfl rfl ?_; (apply s_indexAddr (j := k) (o' := k * 6); (· exact rfl); (· exact rfl); (· omega); (· omega); (· omega); (· exact rfl)); exact looked))); (apply dw_look; (· exact rfl); (· exact rfl); (· (exact looked))); skip)
        refine dw_do rfl rfl ?_ dw_stop
        refine step_wanted rfl rfl ?_
        refine s_call rfl (dConfig (c := roundC i k)) rfl ?_
        rintro _ _ ⟨e_, rfl⟩
        obtain rfl := e_.symm
        refine wpl_nil (qone ⟨(by refine st_past (by kernel_rfl) ?_; (refine st_again ?_ ?_; (· exact looked)); refine st_past (by kernel_rfl) ?_; exact st_nil), ?_⟩)
        (skip)
        refine dw_do rfl rfl ?_ dw_stop
        refine step_wanted rfl rfl ?_
        refine s_call rfl (rText (c := roundC i k)) rfl ?_
        rintro _ _ ⟨e_, rfl⟩
        obtain rfl := e_.symm
        refine wpl_nil (qone ⟨(by refine st_past (by kernel_rfl) ?_; (refine st_again ?_ ?_; (· exact looked)); refine st_past (by kernel_rfl) ?_; exact st_nil), ?_⟩)
        (skip)
        refine dw_do rfl rfl ?_ dw_stop
        refine step_wanted rfl rfl ?_
        refine s_call rfl (texts_law T L (c := roundC i k)) rfl ?_
        rintro _ _ ⟨e_, rfl⟩
        obtain rfl := e_.symm
        refine wpl_nil (qone ⟨(by refine st_past (by kernel_rfl) ?_; refine st_past (by kernel_rfl) ?_; refine st_past (by kernel_rfl) ?_; exact st_nil), ?_⟩)
        ((apply dw_pure; (· exact rfl); (· exact rfl); (· (intro G; exact looked))); (apply dw_pure; (· exact rfl); (· exact rfl); (· (intro G; exact looked))); (apply dw_pure; (· exact rfl); (· exact rfl); (· (intro G; exact looked))); (apply dw_pure; (· exact rfl); (· exact rfl); (· (intro G; exact looked))); (apply dw_pure; (· exact rfl); (· exact rfl); (· (intro G; exact looked))); (apply dw_pure; (· exact rfl); (· exact rfl); (· (intro G; refine step_wanted rfl rfl ?_; (apply s_indexAddr (j := k) (o' := k * 6); (· exact rfl); (· exact rfl); (· omega); (· omega); (· omega); (· exact rfl)); exact looked))); (apply dw_look; (· exact rfl); (· exact rfl); (· (exact looked))); (apply dw_pure; (· exact rfl); (· exact rfl); (· (intro G; exact looked))); skip)
        refine dw_do rfl rfl ?_ dw_stop
        refine step_wanted rfl rfl ?_
        refine s_call rfl (names_law T (c := roundC i k)) rfl ?_
        rintro _ _ ⟨e_, rfl⟩
        obtain rfl := e_.symm
        refine wpl_nil (qone ⟨(by refine st_past (by kernel_rfl) ?_; refine st_past (by kernel_rfl) ?_; refine st_past (by kernel_rfl) ?_; refine st_past (by kernel_rfl) ?_; exact st_nil), ?_⟩)
        ((apply dw_pure; (· exact rfl); (· exact rfl); (· (intro G; exact looked))); (apply dw_pure; (· exact rfl); (· exact rfl); (· (intro G; exact looked))); (apply dw_pure; (· exact rfl); (· exact rfl); (· (intro G; exact looked))); (apply dw_pure; (· exact rfl); (· exact rfl); (· (intro G; exact looked))); (apply dw_pure; (· exact rfl); (· exact rfl); (· (intro G; refine step_wanted rfl rfl ?_; refine s_rem rfl rfl (by omega) rfl rfl ?_; exact looked))); (apply dw_pure; (· exact rfl); (· exact rfl); (· (intro G; exact looked))); (apply dw_pure; (· exact rfl); (· exact rfl); (· (intro G; exact looked))); (apply dw_pure; (· exact rfl); (· exact rfl); (· (intro G; exact looked))); (apply dw_pure; (· exact rfl); (· exact rfl); (· (intro G; exact looked))); (apply dw_pure; (· exact rfl); (· exact rfl); (· (intro G; (first | (refine step_wanted rfl rfl ?_; apply s_indexAddr (j := k) (o' := k * 6); (· exact rfl); (· exact rfl); (· omega); (· omega); (· omega); (· exact rfl)) | skip); exact looked))); (apply dw_look; (· exact rfl); (· exact rfl); (· (exact looked))); skip)
        refine dw_do rfl rfl ?_ dw_stop
        (first | refine step_unwanted rfl rfl rfl rfl ?_ | refine step_unwantedU rfl rfl rfl ?_ | refine step_unwanted0 rfl rfl rfl ?_ | refine step_unwantedU0 rfl rfl ?_)
        refine wpl_nil (qone ⟨(by refine st_past (by kernel_rfl) ?_; refine st_past (by kernel_rfl) ?_; refine st_past (by kernel_rfl) ?_; refine st_past (by kernel_rfl) ?_; refine st_past (by kernel_rfl) ?_; exact st_nil), ?_⟩)
        ((apply dw_pure; (· exact rfl); (· exact rfl); (· (intro G; exact looked))); (apply dw_pure; (· exact rfl); (· exact rfl); (· (intro G; exact looked))); (apply dw_pure; (· exact rfl); (· exact rfl); (· (intro G; exact looked))); refine dw_nil ?_; skip)
        refine walk ?_
        exact ⟨k + 1, asided, agreed, Ent.refl _, hk6, by omega⟩
    · refine walk ?_
      exact ⟨i + 1, asided, agreed, Ent.auto, ⟨by omega, by omega⟩, by omega⟩
  · refine walk ?_
    refine s_buildInts (cs := ss names13) rfl rfl rfl rfl rfl ?_
    intro b5
    refine walk ?_
    refine wp_loopR (α := Nat) [0, 6, 104, 105, 106, 107, 108, 109, 110, 111, 112, 113, 114, 115, 116, 117, 118, 119] (fun k => [(6, .int .i64 k)]) (fun k => k ≤ 13) (fun k => 13 - k) 0 agreed (Nat.zero_le _) ?_
    rintro k f2 hk
    simp only [putAll]
    by_cases hk13 : k < 13
    · have hc : Cell B (blk b5 (ss names13) 9) b5 k (str (names13[k]'hk13)) := Cell.blk (ss_get _ _ hk13)
      refine walk ?_
      (refine wp_draw [8] (.look 0 (.look 1 (.look 2 (.look 3 (.look 4 (.look 5 (.look 6 (.look 7 (.act 8 (.look 9 .nil) .stop))))))))) (by kernel_rfl) ?_; (apply dw_look; (· exact rfl); (· exact rfl); (· (exact looked))); (apply dw_pure; (· exact rfl); (· exact rfl); (· (intro G; exact looked))); (apply dw_pure; (· exact rfl); (· exact rfl); (· (intro G; exact looked))); (apply dw_pure; (· exact rfl); (· exact rfl); (· (intro G; exact looked))); (apply dw_pure; (· exact rfl); (· exact rfl); (· (intro G; exact looked))); (apply dw_pure; (· exact rfl); (· exact rfl); (· (intro G; exact looked))); (apply dw_pure; (· exact rfl); (· exact rfl); (· (intro G; exact looked))); (apply dw_look; (· exact rfl); (· exact rfl); (· (exact looked))); skip)
      refine dw_do rfl rfl ?_ dw_stop
      refine s_call rfl (names_law T (c := exC)) rfl ?_
      rintro _ _ ⟨e_, rfl⟩
      obtain rfl := e_.symm
      refine wpl_nil (qone ⟨(by refine st_past (by kernel_rfl) ?_; refine st_past (by kernel_rfl) ?_; exact st_nil), ?_⟩)
      ((apply dw_pure; (· exact rfl); (· exact rfl); (· (intro G; exact looked))); refine dw_nil ?_; skip)
      refine walk ?_
      exact ⟨k + 1, asided, agreed, Ent.refl _, hk13, by omega⟩
    · refine walk ?_
      refine s_buildInts (cs := ss texts10) rfl rfl rfl rfl rfl ?_
      intro b7
      refine walk ?_
      refine wp_loopR (α := Nat) [0, 8, 121, 122, 123, 124, 125, 126, 127, 128, 129, 130, 131, 132, 133] (fun k => [(8, .int .i64 k)]) (fun k => k ≤ 10) (fun k => 10 - k) 0 agreed (Nat.zero_le _) ?_
      rintro j f3 hj
      simp only [putAll]
      by_cases hj10 : j < 10
      · have hc : Cell B (blk b7 (ss texts10) 9) b7 j (str (texts10[j]'hj10)) := Cell.blk (ss_get _ _ hj10)
        refine walk ?_
        (refine wp_draw [5] (.look 0 (.look 1 (.look 2 (.look 3 (.look 4 (.act 5 (.look 6 .nil) .stop)))))) (by kernel_rfl) ?_; (apply dw_look; (· exact rfl); (· exact rfl); (· (exact looked))); (apply dw_pure; (· exact rfl); (· exact rfl); (· (intro G; exact looked))); (apply dw_pure; (· exact rfl); (· exact rfl); (· (intro G; exact looked))); (apply dw_pure; (· exact rfl); (· exact rfl); (· (intro G; exact looked))); (apply dw_look; (· exact rfl); (· exact rfl); (· (exact looked))); skip)
        refine dw_do rfl rfl ?_ dw_stop
        refine s_call rfl (texts_law T L (c := exC)) rfl ?_
        rintro _ _ ⟨e_, rfl⟩
        obtain rfl := e_.symm
        refine wpl_nil (qone ⟨(by refine st_past (by kernel_rfl) ?_; refine st_past (by kernel_rfl) ?_; exact st_nil), ?_⟩)
        ((apply dw_pure; (· exact rfl); (· exact rfl); (· (intro G; exact looked))); refine dw_nil ?_; skip)
        refine walk ?_
        exact ⟨j + 1, asided, agreed, Ent.refl _, hj10, by omega⟩
      · refine walk ?_
        (refine s_build (cs := cv ⟨8, 64, 256, 16, 200, 1000⟩) ?_ rfl ?_; (· kernel_rfl))
        refine walk ?_
        refine s_call rfl (once_law T (c := ⟨8, 64, 256, 16, 200, 1000⟩)) rfl ?_
        rintro _ _ ⟨e_, rfl⟩
        obtain rfl := e_.symm
        refine walk ?_
        (refine s_build (cs := cv ⟨-9223372036854775808, -9223372036854775808, 0, 9223372036854775807, 0, 0⟩) ?_ rfl ?_; (· kernel_rfl))
        refine walk ?_
        refine s_call rfl (cells_law T (c := ⟨-9223372036854775808, -9223372036854775808, 0, 9223372036854775807, 0, 0⟩) (by omega)) rfl ?_
        rintro _ _ ⟨e_, rfl⟩
        obtain rfl := e_.symm
        refine walk ?_
        refine s_call rfl (cells_law T (c := exC) (by omega)) rfl ?_
        rintro _ _ ⟨e_, rfl⟩
        obtain rfl := e_.symm
        refine walk ?_
        refine s_call rfl (works_spec T) rfl ?_
        rintro _ _ ⟨e_, rfl⟩
        obtain rfl := e_.symm
        refine walk ?_
        (first | (apply retRD1 (G := H) (.inr rfl) rfl; (· first | (refine rv_tmp (v := .bool _) rfl) | exact rv_tmp rfl); (· exact Ent.auto)) | (apply retRD1 (G := H) (.inl rfl) rfl; (· first | (refine rv_tmp (v := .bool _) rfl) | exact rv_tmp rfl); (· exact Ent.auto)))
        exact ⟨Ent.refl _, rfl⟩
end
end Go.Proofs.YtoheplamhocloaaDoor
