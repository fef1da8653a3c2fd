/- The law on a word's parts. No condition. -/
import Derived.Test.YtdmfojjpanndoaaDoorWdLaw02c
namespace Go.Proofs.YtdmfojjpanndoaaDoor
open Go Go.SL
set_option linter.unusedSimpArgs false
set_option linter.unusedVariables false
set_option maxRecDepth 10000
set_option maxHeartbeats 4000000
attribute [local irreducible] WP WPL QSeq QBlk QRet Does Cell Cells Rd Mine Ent Aside RV
section
variable {B : World} {H F : HProp} {h t n p q k w a : Int}
theorem autoLaw02d1 {p q : Prop} (k : q) (h : Owed q → p := by
  intro k_
  refine walkG ?_
  repeat ((first | (show WPL _ _ _ _ _ (⟨_, .call ⟨.value (.func 15), _, _⟩, _, _, _, none⟩ :: _) _ _ _; (apply s_call; (· exact rfl); (· exact rLen); (· exact rfl); rintro _ _ ⟨e_, rfl⟩; obtain rfl := e_.symm)) | (show WPL _ _ _ _ _ (⟨_, .call ⟨.value (.func 11), _, _⟩, _, _, _, none⟩ :: _) _ _ _; (apply s_call; (· exact rfl); (· refine pack_spec ?_ ?_ <;> (first | assumption | omega | decide | (unfold U32; omega) | exact InH.ent | (apply Rd.ent; (· assumption); (· exact InH.ent)) | exact Rd.nil | (refine Rd.blk0 ?_ ?_; (· rfl); (· simp [maxLen])) | simp)); (· exact rfl); rintro _ _ ⟨e_, rfl⟩; obtain rfl := e_.symm)) | (show WPL _ _ _ _ _ (⟨_, .call ⟨.value (.func 16), _, _⟩, _, _, _, none⟩ :: _) _ _ _; (apply s_call; (· exact rfl); (· refine rPack ?_ ?_ <;> (first | assumption | omega | decide | (unfold U32; omega) | exact InH.ent | (apply Rd.ent; (· assumption); (· exact InH.ent)) | exact Rd.nil | (refine Rd.blk0 ?_ ?_; (· rfl); (· simp [maxLen])) | simp)); (· exact rfl); rintro _ _ ⟨e_, rfl⟩; obtain rfl := e_.symm)) | (show WPL _ _ _ _ _ (⟨_, .call ⟨.value (.func 9), _, _⟩, _, _, _, none⟩ :: _) _ _ _; (apply s_call; (· exact rfl); (· refine rOfW ?_ ?_ <;> (first | assumption | omega | decide | (unfold U32; omega) | exact InH.ent | (apply Rd.ent; (· assumption); (· exact InH.ent)) | exact Rd.nil | (refine Rd.blk0 ?_ ?_; (· rfl); (· simp [maxLen])) | simp)); (· exact rfl); rintro _ _ ⟨e_, rfl⟩; obtain rfl := e_.symm)) | (show WPL _ _ _ _ _ (⟨_, .call ⟨.value (.func 9), _, _⟩, _, _, _, none⟩ :: _) _ _ _; (apply s_call; (· exact rfl); (· refine rOf ?_ <;> (first | assumption | omega | decide | (unfold U32; omega) | exact InH.ent | (apply Rd.ent; (· assumption); (· exact InH.ent)) | exact Rd.nil | (refine Rd.blk0 ?_ ?_; (· rfl); (· simp [maxLen])) | simp)); (· exact rfl); rintro _ _ ⟨e_, rfl⟩; obtain rfl := e_.symm)) | (show WPL _ _ _ _ _ (⟨_, .call ⟨.value (.func 14), _, _⟩, _, _, _, none⟩ :: _) _ _ _; (apply s_call; (· exact rfl); (· refine head_spec ?_ ?_ <;> (first | assumption | omega | decide | (unfold U32; omega) | exact InH.ent | (apply Rd.ent; (· assumption); (· exact InH.ent)) | exact Rd.nil | (refine Rd.blk0 ?_ ?_; (· rfl); (· simp [maxLen])) | simp)); (· exact rfl); rintro _ _ ⟨e_, rfl⟩; obtain rfl := e_.symm)) | (show WPL _ _ _ _ _ (⟨_, .call ⟨.value (.func 17), _, _⟩, _, _, _, none⟩ :: _) _ _ _; (apply s_call; (· exact rfl); (· refine tail_spec ?_ ?_ <;> (first | assumption | omega | decide | (unfold U32; omega) | exact InH.ent | (apply Rd.ent; (· assumption); (· exact InH.ent)) | exact Rd.nil | (refine Rd.blk0 ?_ ?_; (· rfl); (· simp [maxLen])) | simp)); (· exact rfl); rintro _ _ ⟨e_, rfl⟩; obtain rfl := e_.symm)) | (show WPL _ _ _ _ _ (⟨_, .call ⟨.value (.func 13), _, _⟩, _, _, _, none⟩ :: _) _ _ _; (apply s_call; (· exact rfl); (· refine len_spec ?_ ?_ <;> (first | assumption | omega | decide | (unfold U32; omega) | exact InH.ent | (apply Rd.ent; (· assumption); (· exact InH.ent)) | exact Rd.nil | (refine Rd.blk0 ?_ ?_; (· rfl); (· simp [maxLen])) | simp)); (· exact rfl); rintro _ _ ⟨e_, rfl⟩; obtain rfl := e_.symm)) | (show WPL _ _ _ _ _ (⟨_, .call ⟨.value (.func 19), _, _⟩, _, _, _, none⟩ :: _) _ _ _; (apply s_call; (· exact rfl); (· refine rText ?_ ?_ <;> (first | assumption | omega | decide | (unfold U32; omega) | exact InH.ent | (apply Rd.ent; (· assumption); (· exact InH.ent)) | exact Rd.nil | (refine Rd.blk0 ?_ ?_; (· rfl); (· simp [maxLen])) | simp)); (· exact rfl); rintro _ _ ⟨e_, rfl⟩; obtain rfl := e_.symm)) | (show WPL _ _ _ _ _ (⟨_, .call ⟨.value (.func 12), _, _⟩, _, _, _, none⟩ :: _) _ _ _; (apply s_call; (· exact rfl); (· refine older_spec ?_ <;> (first | assumption | omega | decide | (unfold U32; omega) | exact InH.ent | (apply Rd.ent; (· assumption); (· exact InH.ent)) | exact Rd.nil | (refine Rd.blk0 ?_ ?_; (· rfl); (· simp [maxLen])) | simp)); (· exact rfl); rintro _ _ ⟨e_, rfl⟩; obtain rfl := e_.symm)) | (show WPL _ _ _ _ _ (⟨_, .call ⟨.value (.func 20), _, _⟩, _, _, _, none⟩ :: _) _ _ _; (apply s_call; (· exact rfl); (· exact roomOf_spec); (· exact rfl); rintro _ _ ⟨e_, rfl⟩; obtain rfl := e_.symm)) | (show WPL _ _ _ _ _ (⟨_, .call ⟨.value (.func 21), _, _⟩, _, _, _, none⟩ :: _) _ _ _; (apply s_call; (· exact rfl); (· exact rRoom2); (· exact rfl); rintro _ _ ⟨e_, rfl⟩; obtain rfl := e_.symm)) | (show WPL _ _ _ _ _ (⟨_, .call ⟨.value (.func 22), _, _⟩, _, _, _, none⟩ :: _) _ _ _; (apply s_call; (· exact rfl); (· refine wSlot ?_ <;> (first | assumption | omega | decide | (unfold U32; omega) | exact InH.ent | (apply Rd.ent; (· assumption); (· exact InH.ent)) | exact Rd.nil | (refine Rd.blk0 ?_ ?_; (· rfl); (· simp [maxLen])) | simp)); (· exact rfl); rintro _ _ ⟨e_, rfl⟩; obtain rfl := e_.symm)) | (show WPL _ _ _ _ _ (⟨_, .call ⟨.value (.func 23), _, _⟩, _, _, _, none⟩ :: _) _ _ _; (apply s_call; (· exact rfl); (· refine rSlot ?_ <;> (first | assumption | omega | decide | (unfold U32; omega) | exact InH.ent | (apply Rd.ent; (· assumption); (· exact InH.ent)) | exact Rd.nil | (refine Rd.blk0 ?_ ?_; (· rfl); (· simp [maxLen])) | simp)); (· exact rfl); rintro _ _ ⟨e_, rfl⟩; obtain rfl := e_.symm)) | (show WPL _ _ _ _ _ (⟨_, .call ⟨.value (.func 24), _, _⟩, _, _, _, none⟩ :: _) _ _ _; (apply s_call; (· exact rfl); (· refine wHas ?_ ?_ <;> (first | assumption | omega | decide | (unfold U32; omega) | exact InH.ent | (apply Rd.ent; (· assumption); (· exact InH.ent)) | exact Rd.nil | (refine Rd.blk0 ?_ ?_; (· rfl); (· simp [maxLen])) | simp)); (· exact rfl); rintro _ _ ⟨e_, rfl⟩; obtain rfl := e_.symm)) | (show WPL _ _ _ _ _ (⟨_, .call ⟨.value (.func 25), _, _⟩, _, _, _, none⟩ :: _) _ _ _; (apply s_call; (· exact rfl); (· exact rHas); (· exact rfl); rintro _ _ ⟨e_, rfl⟩; obtain rfl := e_.symm)) | (show WPL _ _ _ _ _ (⟨_, .call ⟨.value (.func 26), _, _⟩, _, _, _, none⟩ :: _) _ _ _; (apply s_call; (· exact rfl); (· refine gain_spec ?_ ?_ ?_ <;> (first | assumption | omega | decide | (unfold U32; omega) | exact InH.ent | (apply Rd.ent; (· assumption); (· exact InH.ent)) | exact Rd.nil | (refine Rd.blk0 ?_ ?_; (· rfl); (· simp [maxLen])) | simp)); (· exact rfl); rintro _ _ ⟨e_, rfl⟩; obtain rfl := e_.symm)) | (show WPL _ _ _ _ _ (⟨_, .call ⟨.value (.func 27), _, _⟩, _, _, _, none⟩ :: _) _ _ _; (apply s_call; (· exact rfl); (· refine grow_spec ?_ ?_ ?_ <;> (first | assumption | omega | decide | (unfold U32; omega) | exact InH.ent | (apply Rd.ent; (· assumption); (· exact InH.ent)) | exact Rd.nil | (refine Rd.blk0 ?_ ?_; (· rfl); (· simp [maxLen])) | simp)); (· exact rfl); rintro _ _ ⟨e_, rfl⟩; obtain rfl := e_.symm)) | (show WPL _ _ _ _ _ (⟨_, .call ⟨.value (.func 28), _, _⟩, _, _, _, none⟩ :: _) _ _ _; (apply s_call; (· exact rfl); (· refine drop_spec ?_ ?_ ?_ <;> (first | assumption | omega | decide | (unfold U32; omega) | exact InH.ent | (apply Rd.ent; (· assumption); (· exact InH.ent)) | exact Rd.nil | (refine Rd.blk0 ?_ ?_; (· rfl); (· simp [maxLen])) | simp)); (· exact rfl); rintro _ _ ⟨e_, rfl⟩; obtain rfl := e_.symm))); refine walkG ?_)
  exact k_.get) : p := h ⟨k⟩
theorem parts_law (T : Tab B) (h1 : U32 h) (h2 : U32 t) (h3 : U32 n) (h4 : U32 p) :
    Does Tryd.prog B 5 [.int .u32 h, .int .u32 t, .int .u32 n, .int .u32 p, .int .i64 q] H fun r H' => H' = H ∧ r = .bool true := by
  have g1 : U32 ((h + n) % 4294967296) := by unfold U32; omega
  have g2 : U32 ((t + n) % 4294967296) := by unfold U32; omega
  have g3 : U32 ((t - n) % 4294967296) := by unfold U32; omega
  refine fn_intro 165 Tryd.func5 rfl rfl rfl ?_
  refine autoLaw02d1 ?_
  repeat ((first | (show WPL _ _ _ _ _ (⟨_, .alloc _, _, _, _, none⟩ :: _) _ _ _; refine s_alloc rfl ?_; intro _) | (show WP _ _ _ _ (.region 16 _ true) _ _ _; (refine wp_draw [3, 7, 8, 12, 14, 15] (.look 0 (.look 1 (.look 2 (.look 4 (.look 5 (.look 6 (.act 3 (.act 7 (.act 8 (.look 9 (.look 10 (.look 11 (.look 13 (.act 12 (.act 14 (.act 15 (.look 16 (.look 17 .nil)) .stop) .stop) .stop))))) .stop) .stop) .stop))))))) (by kernel_rfl) ?_; (apply dw_pure; (· exact rfl); (· exact rfl); (· (intro G; exact lookedG))); (apply dw_pure; (· exact rfl); (· exact rfl); (· (intro G; exact lookedG))); (apply dw_pure; (· exact rfl); (· exact rfl); (· (intro G; exact lookedG))); (apply dw_look; (· exact rfl); (· exact rfl); (· (exact lookedG))); (apply dw_pure; (· exact rfl); (· exact rfl); (· (intro G; exact lookedG))); (apply dw_pure; (· exact rfl); (· exact rfl); (· (intro G; exact lookedG))); skip); refine dw_do rfl rfl ?_ dw_stop; fail; refine wpl_nil (qone ⟨(by (refine st_again ?_ ?_; (· exact lookedG)); exact st_nil), ?_⟩); (skip); refine dw_do rfl rfl ?_ dw_stop; fail; refine wpl_nil (qone ⟨(by refine st_past (by kernel_rfl) ?_; exact st_nil), ?_⟩); (skip); refine dw_do rfl rfl ?_ dw_stop; fail; refine wpl_nil (qone ⟨(by refine st_past (by kernel_rfl) ?_; exact st_nil), ?_⟩); ((apply dw_pure; (· exact rfl); (· exact rfl); (· (intro G; exact lookedG))); (apply dw_pure; (· exact rfl); (· exact rfl); (· (intro G; exact lookedG))); (apply dw_pure; (· exact rfl); (· exact rfl); (· (intro G; exact lookedG))); (apply dw_look; (· exact rfl); (· exact rfl); (· (exact lookedG))); skip); refine dw_do rfl rfl ?_ dw_stop; refine step_wanted rfl rfl ?_; fail; refine wpl_nil (qone ⟨(by (refine st_again ?_ ?_; (· exact lookedG)); refine st_past (by kernel_rfl) ?_; exact st_nil), ?_⟩); (skip); refine dw_do rfl rfl ?_ dw_stop; refine step_wanted rfl rfl ?_; fail; refine wpl_nil (qone ⟨(by refine st_past (by kernel_rfl) ?_; refine st_past (by kernel_rfl) ?_; exact st_nil), ?_⟩); (skip); refine dw_do rfl rfl ?_ dw_stop; refine step_wanted rfl rfl ?_; fail; refine wpl_nil (qone ⟨(by refine st_past (by kernel_rfl) ?_; refine st_past (by kernel_rfl) ?_; exact st_nil), ?_⟩); ((apply dw_pure; (· exact rfl); (· exact rfl); (· (intro G; exact lookedG))); (apply dw_pure; (· exact rfl); (· exact rfl); (· (intro G; exact lookedG))); refine dw_nil ?_; skip))); refine autoLaw02d1 ?_)
  (refine s_build (cs := [.int .u32 h, .int .u32 t]) ?_ rfl ?_; (· kernel_rfl))
  refine autoLaw02d1 ?_
  repeat ((first | (show WPL _ _ _ _ _ (⟨_, .alloc _, _, _, _, none⟩ :: _) _ _ _; refine s_alloc rfl ?_; intro _) | (show WP _ _ _ _ (.region 16 _ true) _ _ _; (refine wp_draw [3, 7, 8, 12, 14, 15] (.look 0 (.look 1 (.look 2 (.look 4 (.look 5 (.look 6 (.act 3 (.act 7 (.act 8 (.look 9 (.look 10 (.look 11 (.look 13 (.act 12 (.act 14 (.act 15 (.look 16 (.look 17 .nil)) .stop) .stop) .stop))))) .stop) .stop) .stop))))))) (by kernel_rfl) ?_; (apply dw_pure; (· exact rfl); (· exact rfl); (· (intro G; exact lookedG))); (apply dw_pure; (· exact rfl); (· exact rfl); (· (intro G; exact lookedG))); (apply dw_pure; (· exact rfl); (· exact rfl); (· (intro G; exact lookedG))); (apply dw_look; (· exact rfl); (· exact rfl); (· (exact lookedG))); (apply dw_pure; (· exact rfl); (· exact rfl); (· (intro G; exact lookedG))); (apply dw_pure; (· exact rfl); (· exact rfl); (· (intro G; exact lookedG))); skip); refine dw_do rfl rfl ?_ dw_stop; fail; refine wpl_nil (qone ⟨(by (refine st_again ?_ ?_; (· exact lookedG)); exact st_nil), ?_⟩); (skip); refine dw_do rfl rfl ?_ dw_stop; fail; refine wpl_nil (qone ⟨(by refine st_past (by kernel_rfl) ?_; exact st_nil), ?_⟩); (skip); refine dw_do rfl rfl ?_ dw_stop; fail; refine wpl_nil (qone ⟨(by refine st_past (by kernel_rfl) ?_; exact st_nil), ?_⟩); ((apply dw_pure; (· exact rfl); (· exact rfl); (· (intro G; exact lookedG))); (apply dw_pure; (· exact rfl); (· exact rfl); (· (intro G; exact lookedG))); (apply dw_pure; (· exact rfl); (· exact rfl); (· (intro G; exact lookedG))); (apply dw_look; (· exact rfl); (· exact rfl); (· (exact lookedG))); skip); refine dw_do rfl rfl ?_ dw_stop; refine step_wanted rfl rfl ?_; fail; refine wpl_nil (qone ⟨(by (refine st_again ?_ ?_; (· exact lookedG)); refine st_past (by kernel_rfl) ?_; exact st_nil), ?_⟩); (skip); refine dw_do rfl rfl ?_ dw_stop; refine step_wanted rfl rfl ?_; fail; refine wpl_nil (qone ⟨(by refine st_past (by kernel_rfl) ?_; refine st_past (by kernel_rfl) ?_; exact st_nil), ?_⟩); (skip); refine dw_do rfl rfl ?_ dw_stop; refine step_wanted rfl rfl ?_; fail; refine wpl_nil (qone ⟨(by refine st_past (by kernel_rfl) ?_; refine st_past (by kernel_rfl) ?_; exact st_nil), ?_⟩); ((apply dw_pure; (· exact rfl); (· exact rfl); (· (intro G; exact lookedG))); (apply dw_pure; (· exact rfl); (· exact rfl); (· (intro G; exact lookedG))); refine dw_nil ?_; skip))); refine autoLaw02d1 ?_)
  rename_i b11
  (refine wp_draw [2, 6, 12, 18, 24, 30, 32] (.look 0 (.look 1 (.act 2 (.look 3 (.look 4 (.look 5 (.look 7 (.act 6 (.look 8 (.look 9 (.look 10 (.look 11 (.look 13 (.act 12 (.look 14 (.look 15 (.look 16 (.look 17 (.look 19 (.act 18 (.look 20 (.look 21 (.look 22 (.look 23 (.look 25 (.act 24 (.look 26 (.look 27 (.look 28 (.look 29 (.look 31 (.act 30 (.act 32 (.look 33 (.look 34 .nil)) .stop) .stop)))))) .stop)))))) .stop)))))) .stop)))))) .stop))))) .stop))) (by kernel_rfl) ?_; (apply dw_pure; (· exact rfl); (· exact rfl); (· (intro G; exact lookedG))); (apply dw_look; (· exact rfl); (· exact rfl); (· (exact lookedG))); skip)
  refine dw_do rfl rfl ?_ dw_stop
  (first | (apply s_call; (· exact rfl); (· refine rPack ?_ ?_ <;> (first | assumption | omega | decide | (unfold U32; omega) | exact InH.ent | (apply Rd.ent; (· assumption); (· exact InH.ent)) | exact Rd.nil | (refine Rd.blk0 ?_ ?_; (· rfl); (· simp [maxLen])) | simp)); (· exact rfl); rintro _ _ ⟨e_, rfl⟩; obtain rfl := e_.symm))
  refine wpl_nil (qone ⟨(by refine st_past (by kernel_rfl) ?_; exact st_nil), ?_⟩)
  ((apply dw_pure; (· exact rfl); (· exact rfl); (· (intro G; refine s_neq rfl rfl (b := false) (by simp) rfl ?_; exact lookedG))); (apply dw_pure; (· exact rfl); (· exact rfl); (· (intro G; exact lookedG))); (apply dw_pure; (· exact rfl); (· exact rfl); (· (intro G; exact lookedG))); (apply dw_look; (· exact rfl); (· exact rfl); (· (exact lookedG))); skip)
  refine dw_do rfl rfl ?_ dw_stop
  refine step_wanted rfl rfl ?_
  (first | (apply s_call; (· exact rfl); (· refine rOfW ?_ ?_ <;> (first | assumption | omega | decide | (unfold U32; omega) | exact InH.ent | (apply Rd.ent; (· assumption); (· exact InH.ent)) | exact Rd.nil | (refine Rd.blk0 ?_ ?_; (· rfl); (· simp [maxLen])) | simp)); (· exact rfl); rintro _ _ ⟨e_, rfl⟩; obtain rfl := e_.symm) | (apply s_call; (· exact rfl); (· refine rOf ?_ <;> (first | assumption | omega | decide | (unfold U32; omega) | exact InH.ent | (apply Rd.ent; (· assumption); (· exact InH.ent)) | exact Rd.nil | (refine Rd.blk0 ?_ ?_; (· rfl); (· simp [maxLen])) | simp)); (· exact rfl); rintro _ _ ⟨e_, rfl⟩; obtain rfl := e_.symm))
  refine wpl_nil (qone ⟨(by (refine st_again ?_ ?_; (· exact lookedG)); refine st_past (by kernel_rfl) ?_; exact st_nil), ?_⟩)
  ((apply dw_pure; (· exact rfl); (· exact rfl); (· (intro G; refine step_wanted rfl rfl ?_; refine s_neqF [.int .u32 h, .int .u32 t] [.int .u32 h, .int .u32 t] rfl rfl rfl rfl (b := false) (by simp) rfl ?_; exact lookedG))); (apply dw_pure; (· exact rfl); (· exact rfl); (· (intro G; exact lookedG))); (apply dw_pure; (· exact rfl); (· exact rfl); (· (intro G; exact lookedG))); (apply dw_pure; (· exact rfl); (· exact rfl); (· (intro G; exact lookedG))); (apply dw_pure; (· exact rfl); (· exact rfl); (· (intro G; exact lookedG))); skip)
  refine dw_do rfl rfl ?_ dw_stop
  refine step_wanted rfl rfl ?_
  (first | (apply s_call; (· exact rfl); (· refine head_spec ?_ ?_ <;> (first | assumption | omega | decide | (unfold U32; omega) | exact InH.ent | (apply Rd.ent; (· assumption); (· exact InH.ent)) | exact Rd.nil | (refine Rd.blk0 ?_ ?_; (· rfl); (· simp [maxLen])) | simp)); (· exact rfl); rintro _ _ ⟨e_, rfl⟩; obtain rfl := e_.symm))
  refine wpl_nil (qone ⟨(by refine st_past (by kernel_rfl) ?_; refine st_past (by kernel_rfl) ?_; exact st_nil), ?_⟩)
  ((apply dw_pure; (· exact rfl); (· exact rfl); (· (intro G; refine step_wanted rfl rfl ?_; refine s_neq rfl rfl (b := false) (by simp) rfl ?_; exact lookedG))); (apply dw_pure; (· exact rfl); (· exact rfl); (· (intro G; exact lookedG))); (apply dw_pure; (· exact rfl); (· exact rfl); (· (intro G; exact lookedG))); (apply dw_pure; (· exact rfl); (· exact rfl); (· (intro G; exact lookedG))); (apply dw_pure; (· exact rfl); (· exact rfl); (· (intro G; exact lookedG))); skip)
  refine dw_do rfl rfl ?_ dw_stop
  refine step_wanted rfl rfl ?_
  (first | (apply s_call; (· exact rfl); (· refine tail_spec ?_ ?_ <;> (first | assumption | omega | decide | (unfold U32; omega) | exact InH.ent | (apply Rd.ent; (· assumption); (· exact InH.ent)) | exact Rd.nil | (refine Rd.blk0 ?_ ?_; (· rfl); (· simp [maxLen])) | simp)); (· exact rfl); rintro _ _ ⟨e_, rfl⟩; obtain rfl := e_.symm))
  refine wpl_nil (qone ⟨(by refine st_past (by kernel_rfl) ?_; refine st_past (by kernel_rfl) ?_; exact st_nil), ?_⟩)
  ((apply dw_pure; (· exact rfl); (· exact rfl); (· (intro G; refine step_wanted rfl rfl ?_; refine s_neq rfl rfl (b := false) (by simp) rfl ?_; exact lookedG))); (apply dw_pure; (· exact rfl); (· exact rfl); (· (intro G; exact lookedG))); (apply dw_pure; (· exact rfl); (· exact rfl); (· (intro G; exact lookedG))); (apply dw_pure; (· exact rfl); (· exact rfl); (· (intro G; exact lookedG))); (apply dw_pure; (· exact rfl); (· exact rfl); (· (intro G; exact lookedG))); skip)
  refine dw_do rfl rfl ?_ dw_stop
  refine step_wanted rfl rfl ?_
  (first | (apply s_call; (· exact rfl); (· refine len_spec ?_ ?_ <;> (first | assumption | omega | decide | (unfold U32; omega) | exact InH.ent | (apply Rd.ent; (· assumption); (· exact InH.ent)) | exact Rd.nil | (refine Rd.blk0 ?_ ?_; (· rfl); (· simp [maxLen])) | simp)); (· exact rfl); rintro _ _ ⟨e_, rfl⟩; obtain rfl := e_.symm))
  refine wpl_nil (qone ⟨(by refine st_past (by kernel_rfl) ?_; refine st_past (by kernel_rfl) ?_; exact st_nil), ?_⟩)
  ((apply dw_pure; (· exact rfl); (· exact rfl); (· (intro G; refine step_wanted rfl rfl ?_; refine s_neq rfl rfl (b := false) (by simp) rfl ?_; exact lookedG))); (apply dw_pure; (· exact rfl); (· exact rfl); (· (intro G; exact lookedG))); (apply dw_pure; (· exact rfl); (· exact rfl); (· (intro G; exact lookedG))); (apply dw_pure; (· exact rfl); (· exact rfl); (· (intro G; exact lookedG))); (apply dw_look; (· exact rfl); (· exact rfl); (· (exact lookedG))); skip)
  refine dw_do rfl rfl ?_ dw_stop
  refine step_wanted rfl rfl ?_
  refine s_call rfl (wText T h1 h2) rfl ?_
  rintro _ _ ⟨e_, rfl⟩
  obtain rfl := e_.symm
  refine wpl_nil (qone ⟨(by (refine st_again ?_ ?_; (· exact lookedG)); refine st_past (by kernel_rfl) ?_; refine st_past (by kernel_rfl) ?_; exact st_nil), ?_⟩)
  (skip)
  refine dw_do rfl rfl ?_ dw_stop
  refine step_wanted rfl rfl ?_
  refine s_call rfl (rText h1 h2) rfl ?_
  rintro _ _ ⟨e_, rfl⟩
  obtain rfl := e_.symm
  refine wpl_nil (qone ⟨(by refine st_past (by kernel_rfl) ?_; refine st_past (by kernel_rfl) ?_; refine st_past (by kernel_rfl) ?_; exact st_nil), ?_⟩)
  ((apply dw_pure; (· exact rfl); (· exact rfl); (· (intro G; refine step_wanted rfl rfl ?_; refine s_nestr rfl rfl (b := false) (by simp) rfl ?_; exact lookedG))); (apply dw_pure; (· exact rfl); (· exact rfl); (· (intro G; exact lookedG))); refine dw_nil ?_; skip)
  refine walkG ?_
  (refine wp_draw [1, 9, 11, 17, 20, 26, 29] (.look 0 (.look 2 (.look 3 (.look 4 (.look 5 (.act 1 (.look 6 (.look 7 (.look 8 (.look 10 (.act 9 (.act 11 (.look 12 (.look 13 (.look 14 (.look 15 (.look 16 (.look 18 (.look 19 (.act 17 (.act 20 (.look 21 (.look 22 (.look 23 (.look 24 (.look 25 (.look 27 (.look 28 (.act 26 (.act 29 (.look 30 (.look 31 .nil)) .stop) .stop)))))))) .stop) .stop)))))))) .stop) .stop))))) .stop)))))) (by kernel_rfl) ?_; (apply dw_pure; (· exact rfl); (· exact rfl); (· (intro G; exact lookedG))); (apply dw_pure; (· exact rfl); (· exact rfl); (· (intro G; exact lookedG))); (apply dw_pure; (· exact rfl); (· exact rfl); (· (intro G; exact lookedG))); (apply dw_pure; (· exact rfl); (· exact rfl); (· (intro G; exact lookedG))); (apply dw_pure; (· exact rfl); (· exact rfl); (· (intro G; exact lookedG))); skip)
  refine dw_do rfl rfl ?_ dw_stop
  (first | (apply s_call; (· exact rfl); (· refine older_spec ?_ <;> (first | assumption | omega | decide | (unfold U32; omega) | exact InH.ent | (apply Rd.ent; (· assumption); (· exact InH.ent)) | exact Rd.nil | (refine Rd.blk0 ?_ ?_; (· rfl); (· simp [maxLen])) | simp)); (· exact rfl); rintro _ _ ⟨e_, rfl⟩; obtain rfl := e_.symm))
  refine wpl_nil (qone ⟨(by exact st_nil), ?_⟩)
  ((apply dw_pure; (· exact rfl); (· exact rfl); (· (intro G; refine s_neq rfl rfl (b := false) (by simp) rfl ?_; exact lookedG))); (apply dw_pure; (· exact rfl); (· exact rfl); (· (intro G; exact lookedG))); (apply dw_pure; (· exact rfl); (· exact rfl); (· (intro G; exact lookedG))); (apply dw_pure; (· exact rfl); (· exact rfl); (· (intro G; exact lookedG))); skip)
  refine dw_do rfl rfl ?_ dw_stop
  refine step_wanted rfl rfl ?_
  (first | (apply s_call; (· exact rfl); (· exact roomOf_spec); (· exact rfl); rintro _ _ ⟨e_, rfl⟩; obtain rfl := e_.symm))
  refine wpl_nil (qone ⟨(by exact st_nil), ?_⟩)
  (skip)
  refine dw_do rfl rfl ?_ dw_stop
  refine step_wanted rfl rfl ?_
  (first | (apply s_call; (· exact rfl); (· exact rRoom2); (· exact rfl); rintro _ _ ⟨e_, rfl⟩; obtain rfl := e_.symm))
  refine wpl_nil (qone ⟨(by exact st_nil), ?_⟩)
  ((apply dw_pure; (· exact rfl); (· exact rfl); (· (intro G; refine step_wanted rfl rfl ?_; refine s_nebool rfl rfl (b := false) (by simp) rfl ?_; exact lookedG))); (apply dw_pure; (· exact rfl); (· exact rfl); (· (intro G; exact lookedG))); (apply dw_pure; (· exact rfl); (· exact rfl); (· (intro G; exact lookedG))); (apply dw_pure; (· exact rfl); (· exact rfl); (· (intro G; exact lookedG))); (apply dw_pure; (· exact rfl); (· exact rfl); (· (intro G; exact lookedG))); (apply dw_pure; (· exact rfl); (· exact rfl); (· (intro G; exact lookedG))); (apply dw_pure; (· exact rfl); (· exact rfl); (· (intro G; exact lookedG))); skip)
  refine dw_do rfl rfl ?_ dw_stop
  refine step_wanted rfl rfl ?_
  (first | (apply s_call; (· exact rfl); (· refine wSlot ?_ <;> (first | assumption | omega | decide | (unfold U32; omega) | exact InH.ent | (apply Rd.ent; (· assumption); (· exact InH.ent)) | exact Rd.nil | (refine Rd.blk0 ?_ ?_; (· rfl); (· simp [maxLen])) | simp)); (· exact rfl); rintro _ _ ⟨e_, rfl⟩; obtain rfl := e_.symm))
  refine wpl_nil (qone ⟨(by exact st_nil), ?_⟩)
  (skip)
  refine dw_do rfl rfl ?_ dw_stop
  refine step_wanted rfl rfl ?_
  (first | (apply s_call; (· exact rfl); (· refine rSlot ?_ <;> (first | assumption | omega | decide | (unfold U32; omega) | exact InH.ent | (apply Rd.ent; (· assumption); (· exact InH.ent)) | exact Rd.nil | (refine Rd.blk0 ?_ ?_; (· rfl); (· simp [maxLen])) | simp)); (· exact rfl); rintro _ _ ⟨e_, rfl⟩; obtain rfl := e_.symm))
  refine wpl_nil (qone ⟨(by exact st_nil), ?_⟩)
  ((apply dw_pure; (· exact rfl); (· exact rfl); (· (intro G; refine step_wanted rfl rfl ?_; refine s_neq rfl rfl (b := false) (by simp) rfl ?_; exact lookedG))); (apply dw_pure; (· exact rfl); (· exact rfl); (· (intro G; exact lookedG))); (apply dw_pure; (· exact rfl); (· exact rfl); (· (intro G; exact lookedG))); (apply dw_pure; (· exact rfl); (· exact rfl); (· (intro G; exact lookedG))); (apply dw_pure; (· exact rfl); (· exact rfl); (· (intro G; exact lookedG))); (apply dw_look; (· exact rfl); (· exact rfl); (· (exact lookedG))); (apply dw_pure; (· exact rfl); (· exact rfl); (· (intro G; exact lookedG))); skip)
  refine dw_do rfl rfl ?_ dw_stop
  refine step_wanted rfl rfl ?_
  (first | (apply s_call; (· exact rfl); (· refine wHas ?_ ?_ <;> (first | assumption | omega | decide | (unfold U32; omega) | exact InH.ent | (apply Rd.ent; (· assumption); (· exact InH.ent)) | exact Rd.nil | (refine Rd.blk0 ?_ ?_; (· rfl); (· simp [maxLen])) | simp)); (· exact rfl); rintro _ _ ⟨e_, rfl⟩; obtain rfl := e_.symm))
  refine wpl_nil (qone ⟨(by (refine st_again ?_ ?_; (· exact lookedG)); exact st_nil), ?_⟩)
  (skip)
  refine dw_do rfl rfl ?_ dw_stop
  refine step_wanted rfl rfl ?_
  (first | (apply s_call; (· exact rfl); (· exact rHas); (· exact rfl); rintro _ _ ⟨e_, rfl⟩; obtain rfl := e_.symm))
  refine wpl_nil (qone ⟨(by refine st_past (by kernel_rfl) ?_; exact st_nil), ?_⟩)
  ((apply dw_pure; (· exact rfl); (· exact rfl); (· (intro G; refine step_wanted rfl rfl ?_; refine s_nebool rfl rfl (b := false) (by simp) rfl ?_; exact lookedG))); (apply dw_pure; (· exact rfl); (· exact rfl); (· (intro G; exact lookedG))); refine dw_nil ?_; skip)
  refine autoLaw02d1 ?_
  repeat ((first | (show WPL _ _ _ _ _ (⟨_, .alloc _, _, _, _, none⟩ :: _) _ _ _; refine s_alloc rfl ?_; intro _) | (show WP _ _ _ _ (.region 16 _ true) _ _ _; (refine wp_draw [3, 7, 8, 12, 14, 15] (.look 0 (.look 1 (.look 2 (.look 4 (.look 5 (.look 6 (.act 3 (.act 7 (.act 8 (.look 9 (.look 10 (.look 11 (.look 13 (.act 12 (.act 14 (.act 15 (.look 16 (.look 17 .nil)) .stop) .stop) .stop))))) .stop) .stop) .stop))))))) (by kernel_rfl) ?_; (apply dw_pure; (· exact rfl); (· exact rfl); (· (intro G; exact lookedG))); (apply dw_pure; (· exact rfl); (· exact rfl); (· (intro G; exact lookedG))); (apply dw_pure; (· exact rfl); (· exact rfl); (· (intro G; exact lookedG))); (apply dw_look; (· exact rfl); (· exact rfl); (· (exact lookedG))); (apply dw_pure; (· exact rfl); (· exact rfl); (· (intro G; exact lookedG))); (apply dw_pure; (· exact rfl); (· exact rfl); (· (intro G; exact lookedG))); skip); refine dw_do rfl rfl ?_ dw_stop; fail; refine wpl_nil (qone ⟨(by (refine st_again ?_ ?_; (· exact lookedG)); exact st_nil), ?_⟩); (skip); refine dw_do rfl rfl ?_ dw_stop; fail; refine wpl_nil (qone ⟨(by refine st_past (by kernel_rfl) ?_; exact st_nil), ?_⟩); (skip); refine dw_do rfl rfl ?_ dw_stop; fail; refine wpl_nil (qone ⟨(by refine st_past (by kernel_rfl) ?_; exact st_nil), ?_⟩); ((apply dw_pure; (· exact rfl); (· exact rfl); (· (intro G; exact lookedG))); (apply dw_pure; (· exact rfl); (· exact rfl); (· (intro G; exact lookedG))); (apply dw_pure; (· exact rfl); (· exact rfl); (· (intro G; exact lookedG))); (apply dw_look; (· exact rfl); (· exact rfl); (· (exact lookedG))); skip); refine dw_do rfl rfl ?_ dw_stop; refine step_wanted rfl rfl ?_; fail; refine wpl_nil (qone ⟨(by (refine st_again ?_ ?_; (· exact lookedG)); refine st_past (by kernel_rfl) ?_; exact st_nil), ?_⟩); (skip); refine dw_do rfl rfl ?_ dw_stop; refine step_wanted rfl rfl ?_; fail; refine wpl_nil (qone ⟨(by refine st_past (by kernel_rfl) ?_; refine st_past (by kernel_rfl) ?_; exact st_nil), ?_⟩); (skip); refine dw_do rfl rfl ?_ dw_stop; refine step_wanted rfl rfl ?_; fail; refine wpl_nil (qone ⟨(by refine st_past (by kernel_rfl) ?_; refine st_past (by kernel_rfl) ?_; exact st_nil), ?_⟩); ((apply dw_pure; (· exact rfl); (· exact rfl); (· (intro G; exact lookedG))); (apply dw_pure; (· exact rfl); (· exact rfl); (· (intro G; exact lookedG))); refine dw_nil ?_; skip))); refine autoLaw02d1 ?_)
  (refine s_build (cs := [.int .u32 ((h + n) % 4294967296), .int .u32 t]) ?_ rfl ?_; (· kernel_rfl))
  refine autoLaw02d1 ?_
  repeat ((first | (show WPL _ _ _ _ _ (⟨_, .alloc _, _, _, _, none⟩ :: _) _ _ _; refine s_alloc rfl ?_; intro _) | (show WP _ _ _ _ (.region 16 _ true) _ _ _; (refine wp_draw [3, 7, 8, 12, 14, 15] (.look 0 (.look 1 (.look 2 (.look 4 (.look 5 (.look 6 (.act 3 (.act 7 (.act 8 (.look 9 (.look 10 (.look 11 (.look 13 (.act 12 (.act 14 (.act 15 (.look 16 (.look 17 .nil)) .stop) .stop) .stop))))) .stop) .stop) .stop))))))) (by kernel_rfl) ?_; (apply dw_pure; (· exact rfl); (· exact rfl); (· (intro G; exact lookedG))); (apply dw_pure; (· exact rfl); (· exact rfl); (· (intro G; exact lookedG))); (apply dw_pure; (· exact rfl); (· exact rfl); (· (intro G; exact lookedG))); (apply dw_look; (· exact rfl); (· exact rfl); (· (exact lookedG))); (apply dw_pure; (· exact rfl); (· exact rfl); (· (intro G; exact lookedG))); (apply dw_pure; (· exact rfl); (· exact rfl); (· (intro G; exact lookedG))); skip); refine dw_do rfl rfl ?_ dw_stop; fail; refine wpl_nil (qone ⟨(by (refine st_again ?_ ?_; (· exact lookedG)); exact st_nil), ?_⟩); (skip); refine dw_do rfl rfl ?_ dw_stop; fail; refine wpl_nil (qone ⟨(by refine st_past (by kernel_rfl) ?_; exact st_nil), ?_⟩); (skip); refine dw_do rfl rfl ?_ dw_stop; fail; refine wpl_nil (qone ⟨(by refine st_past (by kernel_rfl) ?_; exact st_nil), ?_⟩); ((apply dw_pure; (· exact rfl); (· exact rfl); (· (intro G; exact lookedG))); (apply dw_pure; (· exact rfl); (· exact rfl); (· (intro G; exact lookedG))); (apply dw_pure; (· exact rfl); (· exact rfl); (· (intro G; exact lookedG))); (apply dw_look; (· exact rfl); (· exact rfl); (· (exact lookedG))); skip); refine dw_do rfl rfl ?_ dw_stop; refine step_wanted rfl rfl ?_; fail; refine wpl_nil (qone ⟨(by (refine st_again ?_ ?_; (· exact lookedG)); refine st_past (by kernel_rfl) ?_; exact st_nil), ?_⟩); (skip); refine dw_do rfl rfl ?_ dw_stop; refine step_wanted rfl rfl ?_; fail; refine wpl_nil (qone ⟨(by refine st_past (by kernel_rfl) ?_; refine st_past (by kernel_rfl) ?_; exact st_nil), ?_⟩); (skip); refine dw_do rfl rfl ?_ dw_stop; refine step_wanted rfl rfl ?_; fail; refine wpl_nil (qone ⟨(by refine st_past (by kernel_rfl) ?_; refine st_past (by kernel_rfl) ?_; exact st_nil), ?_⟩); ((apply dw_pure; (· exact rfl); (· exact rfl); (· (intro G; exact lookedG))); (apply dw_pure; (· exact rfl); (· exact rfl); (· (intro G; exact lookedG))); refine dw_nil ?_; skip))); refine autoLaw02d1 ?_)
  (refine s_build (cs := [.int .u32 h, .int .u32 ((t + n) % 4294967296)]) ?_ rfl ?_; (· kernel_rfl))
  refine autoLaw02d1 ?_
  repeat ((first | (show WPL _ _ _ _ _ (⟨_, .alloc _, _, _, _, none⟩ :: _) _ _ _; refine s_alloc rfl ?_; intro _) | (show WP _ _ _ _ (.region 16 _ true) _ _ _; (refine wp_draw [3, 7, 8, 12, 14, 15] (.look 0 (.look 1 (.look 2 (.look 4 (.look 5 (.look 6 (.act 3 (.act 7 (.act 8 (.look 9 (.look 10 (.look 11 (.look 13 (.act 12 (.act 14 (.act 15 (.look 16 (.look 17 .nil)) .stop) .stop) .stop))))) .stop) .stop) .stop))))))) (by kernel_rfl) ?_; (apply dw_pure; (· exact rfl); (· exact rfl); (· (intro G; exact lookedG))); (apply dw_pure; (· exact rfl); (· exact rfl); (· (intro G; exact lookedG))); (apply dw_pure; (· exact rfl); (· exact rfl); (· (intro G; exact lookedG))); (apply dw_look; (· exact rfl); (· exact rfl); (· (exact lookedG))); (apply dw_pure; (· exact rfl); (· exact rfl); (· (intro G; exact lookedG))); (apply dw_pure; (· exact rfl); (· exact rfl); (· (intro G; exact lookedG))); skip); refine dw_do rfl rfl ?_ dw_stop; fail; refine wpl_nil (qone ⟨(by (refine st_again ?_ ?_; (· exact lookedG)); exact st_nil), ?_⟩); (skip); refine dw_do rfl rfl ?_ dw_stop; fail; refine wpl_nil (qone ⟨(by refine st_past (by kernel_rfl) ?_; exact st_nil), ?_⟩); (skip); refine dw_do rfl rfl ?_ dw_stop; fail; refine wpl_nil (qone ⟨(by refine st_past (by kernel_rfl) ?_; exact st_nil), ?_⟩); ((apply dw_pure; (· exact rfl); (· exact rfl); (· (intro G; exact lookedG))); (apply dw_pure; (· exact rfl); (· exact rfl); (· (intro G; exact lookedG))); (apply dw_pure; (· exact rfl); (· exact rfl); (· (intro G; exact lookedG))); (apply dw_look; (· exact rfl); (· exact rfl); (· (exact lookedG))); skip); refine dw_do rfl rfl ?_ dw_stop; refine step_wanted rfl rfl ?_; fail; refine wpl_nil (qone ⟨(by (refine st_again ?_ ?_; (· exact lookedG)); refine st_past (by kernel_rfl) ?_; exact st_nil), ?_⟩); (skip); refine dw_do rfl rfl ?_ dw_stop; refine step_wanted rfl rfl ?_; fail; refine wpl_nil (qone ⟨(by refine st_past (by kernel_rfl) ?_; refine st_past (by kernel_rfl) ?_; exact st_nil), ?_⟩); (skip); refine dw_do rfl rfl ?_ dw_stop; refine step_wanted rfl rfl ?_; fail; refine wpl_nil (qone ⟨(by refine st_past (by kernel_rfl) ?_; refine st_past (by kernel_rfl) ?_; exact st_nil), ?_⟩); ((apply dw_pure; (· exact rfl); (· exact rfl); (· (intro G; exact lookedG))); (apply dw_pure; (· exact rfl); (· exact rfl); (· (intro G; exact lookedG))); refine dw_nil ?_; skip))); refine autoLaw02d1 ?_)
  (refine s_build (cs := [.int .u32 h, .int .u32 ((t - n) % 4294967296)]) ?_ rfl ?_; (· kernel_rfl))
  refine autoLaw02d1 ?_
  repeat ((first | (show WPL _ _ _ _ _ (⟨_, .alloc _, _, _, _, none⟩ :: _) _ _ _; refine s_alloc rfl ?_; intro _) | (show WP _ _ _ _ (.region 16 _ true) _ _ _; (refine wp_draw [3, 7, 8, 12, 14, 15] (.look 0 (.look 1 (.look 2 (.look 4 (.look 5 (.look 6 (.act 3 (.act 7 (.act 8 (.look 9 (.look 10 (.look 11 (.look 13 (.act 12 (.act 14 (.act 15 (.look 16 (.look 17 .nil)) .stop) .stop) .stop))))) .stop) .stop) .stop))))))) (by kernel_rfl) ?_; (apply dw_pure; (· exact rfl); (· exact rfl); (· (intro G; exact lookedG))); (apply dw_pure; (· exact rfl); (· exact rfl); (· (intro G; exact lookedG))); (apply dw_pure; (· exact rfl); (· exact rfl); (· (intro G; exact lookedG))); (apply dw_look; (· exact rfl); (· exact rfl); (· (exact lookedG))); (apply dw_pure; (· exact rfl); (· exact rfl); (· (intro G; exact lookedG))); (apply dw_pure; (· exact rfl); (· exact rfl); (· (intro G; exact lookedG))); skip); refine dw_do rfl rfl ?_ dw_stop; fail; refine wpl_nil (qone ⟨(by (refine st_again ?_ ?_; (· exact lookedG)); exact st_nil), ?_⟩); (skip); refine dw_do rfl rfl ?_ dw_stop; fail; refine wpl_nil (qone ⟨(by refine st_past (by kernel_rfl) ?_; exact st_nil), ?_⟩); (skip); refine dw_do rfl rfl ?_ dw_stop; fail; refine wpl_nil (qone ⟨(by refine st_past (by kernel_rfl) ?_; exact st_nil), ?_⟩); ((apply dw_pure; (· exact rfl); (· exact rfl); (· (intro G; exact lookedG))); (apply dw_pure; (· exact rfl); (· exact rfl); (· (intro G; exact lookedG))); (apply dw_pure; (· exact rfl); (· exact rfl); (· (intro G; exact lookedG))); (apply dw_look; (· exact rfl); (· exact rfl); (· (exact lookedG))); skip); refine dw_do rfl rfl ?_ dw_stop; refine step_wanted rfl rfl ?_; fail; refine wpl_nil (qone ⟨(by (refine st_again ?_ ?_; (· exact lookedG)); refine st_past (by kernel_rfl) ?_; exact st_nil), ?_⟩); (skip); refine dw_do rfl rfl ?_ dw_stop; refine step_wanted rfl rfl ?_; fail; refine wpl_nil (qone ⟨(by refine st_past (by kernel_rfl) ?_; refine st_past (by kernel_rfl) ?_; exact st_nil), ?_⟩); (skip); refine dw_do rfl rfl ?_ dw_stop; refine step_wanted rfl rfl ?_; fail; refine wpl_nil (qone ⟨(by refine st_past (by kernel_rfl) ?_; refine st_past (by kernel_rfl) ?_; exact st_nil), ?_⟩); ((apply dw_pure; (· exact rfl); (· exact rfl); (· (intro G; exact lookedG))); (apply dw_pure; (· exact rfl); (· exact rfl); (· (intro G; exact lookedG))); refine dw_nil ?_; skip))); refine autoLaw02d1 ?_)
  refine s_buildRows [[.int .u32 ((h + n) % 4294967296), .int .u32 t], [.int .u32 h, .int .u32 ((t + n) % 4294967296)], [.int .u32 h, .int .u32 ((t - n) % 4294967296)]] rfl rfl rfl rfl rfl rfl ?_
  intro b14
  have hca : Cells B (blk b14 [.int .u32 ((h + n) % 4294967296), .int .u32 t, .int .u32 h, .int .u32 ((t + n) % 4294967296), .int .u32 h, .int .u32 ((t - n) % 4294967296)] 27) b14 0 [.int .u32 ((h + n) % 4294967296), .int .u32 t, .int .u32 h, .int .u32 ((t + n) % 4294967296), .int .u32 h, .int .u32 ((t - n) % 4294967296)] := Cells.blk0
  have hc0 : Cells B (blk b14 [.int .u32 ((h + n) % 4294967296), .int .u32 t, .int .u32 h, .int .u32 ((t + n) % 4294967296), .int .u32 h, .int .u32 ((t - n) % 4294967296)] 27) b14 0 [.int .u32 ((h + n) % 4294967296), .int .u32 t] := hca.take 2
  have hc1 : Cells B (blk b14 [.int .u32 ((h + n) % 4294967296), .int .u32 t, .int .u32 h, .int .u32 ((t + n) % 4294967296), .int .u32 h, .int .u32 ((t - n) % 4294967296)] 27) b14 2 [.int .u32 h, .int .u32 ((t + n) % 4294967296)] := (hca.drop 2).take 2
  have hc2 : Cells B (blk b14 [.int .u32 ((h + n) % 4294967296), .int .u32 t, .int .u32 h, .int .u32 ((t + n) % 4294967296), .int .u32 h, .int .u32 ((t - n) % 4294967296)] 27) b14 4 [.int .u32 h, .int .u32 ((t - n) % 4294967296)] := hca.drop 4
  clear hca
  simp only [List.flatten_cons, List.flatten_nil, List.append_nil, List.cons_append, List.nil_append]
  refine walkG ?_
  (refine wp_draw [2, 3, 11, 12, 21, 22] (.look 0 (.look 1 (.look 4 (.look 5 (.look 6 (.act 2 (.act 3 (.look 7 (.look 8 (.look 9 (.look 10 (.look 13 (.look 14 (.look 15 (.act 11 (.act 12 (.look 16 (.look 17 (.look 18 (.look 19 (.look 20 (.look 23 (.look 24 (.look 25 (.act 21 (.act 22 (.look 26 (.look 27 .nil)) .stop) .stop))))))))) .stop) .stop)))))))) .stop) .stop)))))) (by kernel_rfl) ?_; (apply dw_pure; (· exact rfl); (· exact rfl); (· (intro G; exact lookedG))); (apply dw_pure; (· exact rfl); (· exact rfl); (· (intro G; exact lookedG))); (apply dw_pure; (· exact rfl); (· exact rfl); (· (intro G; exact lookedG))); (apply dw_pure; (· exact rfl); (· exact rfl); (· (intro G; (apply s_indexAddr (j := 0) (o' := 0); (· exact rfl); (· exact rfl); (· omega); (· omega); (· omega); (· exact rfl)); exact lookedG))); (apply dw_look; (· exact rfl); (· exact rfl); (· (refine s_loadA rfl (hc0.ent InH.ent) rfl rfl ?_; exact lookedG))); skip)
  refine dw_do rfl rfl ?_ dw_stop
  (first | (apply s_call; (· exact rfl); (· refine gain_spec ?_ ?_ ?_ <;> (first | assumption | omega | decide | (unfold U32; omega) | exact InH.ent | (apply Rd.ent; (· assumption); (· exact InH.ent)) | exact Rd.nil | (refine Rd.blk0 ?_ ?_; (· rfl); (· simp [maxLen])) | simp)); (· exact rfl); rintro _ _ ⟨e_, rfl⟩; obtain rfl := e_.symm))
  refine wpl_nil (qone ⟨(by (refine st_again ?_ ?_; (· exact lookedG)); exact st_nil), ?_⟩)
  (skip)
  refine dw_do rfl rfl ?_ dw_stop
  (first | (apply s_call; (· exact rfl); (· refine rOfW ?_ ?_ <;> (first | assumption | omega | decide | (unfold U32; omega) | exact InH.ent | (apply Rd.ent; (· assumption); (· exact InH.ent)) | exact Rd.nil | (refine Rd.blk0 ?_ ?_; (· rfl); (· simp [maxLen])) | simp)); (· exact rfl); rintro _ _ ⟨e_, rfl⟩; obtain rfl := e_.symm) | (apply s_call; (· exact rfl); (· refine rOf ?_ <;> (first | assumption | omega | decide | (unfold U32; omega) | exact InH.ent | (apply Rd.ent; (· assumption); (· exact InH.ent)) | exact Rd.nil | (refine Rd.blk0 ?_ ?_; (· rfl); (· simp [maxLen])) | simp)); (· exact rfl); rintro _ _ ⟨e_, rfl⟩; obtain rfl := e_.symm))
  refine wpl_nil (qone ⟨(by (refine st_again ?_ ?_; (· exact lookedG)); exact st_nil), ?_⟩)
  ((apply dw_pure; (· exact rfl); (· exact rfl); (· (intro G; refine s_neqF [.int .u32 ((h + n) % 4294967296), .int .u32 t] [.int .u32 ((h + n) % 4294967296), .int .u32 t] rfl rfl rfl rfl (b := false) (by simp) rfl ?_; exact lookedG))); (apply dw_pure; (· exact rfl); (· exact rfl); (· (intro G; exact lookedG))); (apply dw_pure; (· exact rfl); (· exact rfl); (· (intro G; exact lookedG))); (apply dw_pure; (· exact rfl); (· exact rfl); (· (intro G; exact lookedG))); (apply dw_pure; (· exact rfl); (· exact rfl); (· (intro G; exact lookedG))); (apply dw_pure; (· exact rfl); (· exact rfl); (· (intro G; refine step_wanted rfl rfl ?_; (apply s_indexAddr (j := 1) (o' := 2); (· exact rfl); (· exact rfl); (· omega); (· omega); (· omega); (· exact rfl)); exact lookedG))); (apply dw_look; (· exact rfl); (· exact rfl); (· (refine step_wanted rfl rfl ?_; refine s_loadA rfl (hc1.ent InH.ent) rfl rfl ?_; exact lookedG))); skip)
  refine dw_do rfl rfl ?_ dw_stop
  refine step_wanted rfl rfl ?_
  (first | (apply s_call; (· exact rfl); (· refine grow_spec ?_ ?_ ?_ <;> (first | assumption | omega | decide | (unfold U32; omega) | exact InH.ent | (apply Rd.ent; (· assumption); (· exact InH.ent)) | exact Rd.nil | (refine Rd.blk0 ?_ ?_; (· rfl); (· simp [maxLen])) | simp)); (· exact rfl); rintro _ _ ⟨e_, rfl⟩; obtain rfl := e_.symm))
  refine wpl_nil (qone ⟨(by (refine st_again ?_ ?_; (· exact lookedG)); refine st_past (by kernel_rfl) ?_; exact st_nil), ?_⟩)
  (skip)
  refine dw_do rfl rfl ?_ dw_stop
  refine step_wanted rfl rfl ?_
  (first | (apply s_call; (· exact rfl); (· refine rOfW ?_ ?_ <;> (first | assumption | omega | decide | (unfold U32; omega) | exact InH.ent | (apply Rd.ent; (· assumption); (· exact InH.ent)) | exact Rd.nil | (refine Rd.blk0 ?_ ?_; (· rfl); (· simp [maxLen])) | simp)); (· exact rfl); rintro _ _ ⟨e_, rfl⟩; obtain rfl := e_.symm) | (apply s_call; (· exact rfl); (· refine rOf ?_ <;> (first | assumption | omega | decide | (unfold U32; omega) | exact InH.ent | (apply Rd.ent; (· assumption); (· exact InH.ent)) | exact Rd.nil | (refine Rd.blk0 ?_ ?_; (· rfl); (· simp [maxLen])) | simp)); (· exact rfl); rintro _ _ ⟨e_, rfl⟩; obtain rfl := e_.symm))
  refine wpl_nil (qone ⟨(by (refine st_again ?_ ?_; (· exact lookedG)); refine st_past (by kernel_rfl) ?_; exact st_nil), ?_⟩)
  ((apply dw_pure; (· exact rfl); (· exact rfl); (· (intro G; refine step_wanted rfl rfl ?_; refine s_neqF [.int .u32 h, .int .u32 ((t + n) % 4294967296)] [.int .u32 h, .int .u32 ((t + n) % 4294967296)] rfl rfl rfl rfl (b := false) (by simp) rfl ?_; exact lookedG))); (apply dw_pure; (· exact rfl); (· exact rfl); (· (intro G; exact lookedG))); (apply dw_pure; (· exact rfl); (· exact rfl); (· (intro G; exact lookedG))); (apply dw_pure; (· exact rfl); (· exact rfl); (· (intro G; exact lookedG))); (apply dw_pure; (· exact rfl); (· exact rfl); (· (intro G; exact lookedG))); (apply dw_pure; (· exact rfl); (· exact rfl); (· (intro G; exact lookedG))); (apply dw_pure; (· exact rfl); (· exact rfl); (· (intro G; refine step_wanted rfl rfl ?_; (apply s_indexAddr (j := 2) (o' := 4); (· exact rfl); (· exact rfl); (· omega); (· omega); (· omega); (· exact rfl)); exact lookedG))); (apply dw_look; (· exact rfl); (· exact rfl); (· (refine step_wanted rfl rfl ?_; refine s_loadA rfl (hc2.ent InH.ent) rfl rfl ?_; exact lookedG))); skip)
  refine dw_do rfl rfl ?_ dw_stop
  refine step_wanted rfl rfl ?_
  (first | (apply s_call; (· exact rfl); (· refine drop_spec ?_ ?_ ?_ <;> (first | assumption | omega | decide | (unfold U32; omega) | exact InH.ent | (apply Rd.ent; (· assumption); (· exact InH.ent)) | exact Rd.nil | (refine Rd.blk0 ?_ ?_; (· rfl); (· simp [maxLen])) | simp)); (· exact rfl); rintro _ _ ⟨e_, rfl⟩; obtain rfl := e_.symm))
  refine wpl_nil (qone ⟨(by (refine st_again ?_ ?_; (· exact lookedG)); refine st_past (by kernel_rfl) ?_; refine st_past (by kernel_rfl) ?_; exact st_nil), ?_⟩)
  (skip)
  refine dw_do rfl rfl ?_ dw_stop
  refine step_wanted rfl rfl ?_
  (first | (apply s_call; (· exact rfl); (· refine rOfW ?_ ?_ <;> (first | assumption | omega | decide | (unfold U32; omega) | exact InH.ent | (apply Rd.ent; (· assumption); (· exact InH.ent)) | exact Rd.nil | (refine Rd.blk0 ?_ ?_; (· rfl); (· simp [maxLen])) | simp)); (· exact rfl); rintro _ _ ⟨e_, rfl⟩; obtain rfl := e_.symm) | (apply s_call; (· exact rfl); (· refine rOf ?_ <;> (first | assumption | omega | decide | (unfold U32; omega) | exact InH.ent | (apply Rd.ent; (· assumption); (· exact InH.ent)) | exact Rd.nil | (refine Rd.blk0 ?_ ?_; (· rfl); (· simp [maxLen])) | simp)); (· exact rfl); rintro _ _ ⟨e_, rfl⟩; obtain rfl := e_.symm))
  refine wpl_nil (qone ⟨(by (refine st_again ?_ ?_; (· exact lookedG)); refine st_past (by kernel_rfl) ?_; refine st_past (by kernel_rfl) ?_; exact st_nil), ?_⟩)
  ((apply dw_pure; (· exact rfl); (· exact rfl); (· (intro G; refine step_wanted rfl rfl ?_; refine s_neqF [.int .u32 h, .int .u32 ((t - n) % 4294967296)] [.int .u32 h, .int .u32 ((t - n) % 4294967296)] rfl rfl rfl rfl (b := false) (by simp) rfl ?_; exact lookedG))); (apply dw_pure; (· exact rfl); (· exact rfl); (· (intro G; exact lookedG))); refine dw_nil ?_; skip)
  refine autoLaw02d1 ?_
  repeat ((first | (show WPL _ _ _ _ _ (⟨_, .alloc _, _, _, _, none⟩ :: _) _ _ _; refine s_alloc rfl ?_; intro _) | (show WP _ _ _ _ (.region 16 _ true) _ _ _; (refine wp_draw [3, 7, 8, 12, 14, 15] (.look 0 (.look 1 (.look 2 (.look 4 (.look 5 (.look 6 (.act 3 (.act 7 (.act 8 (.look 9 (.look 10 (.look 11 (.look 13 (.act 12 (.act 14 (.act 15 (.look 16 (.look 17 .nil)) .stop) .stop) .stop))))) .stop) .stop) .stop))))))) (by kernel_rfl) ?_; (apply dw_pure; (· exact rfl); (· exact rfl); (· (intro G; exact lookedG))); (apply dw_pure; (· exact rfl); (· exact rfl); (· (intro G; exact lookedG))); (apply dw_pure; (· exact rfl); (· exact rfl); (· (intro G; exact lookedG))); (apply dw_look; (· exact rfl); (· exact rfl); (· (exact lookedG))); (apply dw_pure; (· exact rfl); (· exact rfl); (· (intro G; exact lookedG))); (apply dw_pure; (· exact rfl); (· exact rfl); (· (intro G; exact lookedG))); skip); refine dw_do rfl rfl ?_ dw_stop; fail; refine wpl_nil (qone ⟨(by (refine st_again ?_ ?_; (· exact lookedG)); exact st_nil), ?_⟩); (skip); refine dw_do rfl rfl ?_ dw_stop; fail; refine wpl_nil (qone ⟨(by refine st_past (by kernel_rfl) ?_; exact st_nil), ?_⟩); (skip); refine dw_do rfl rfl ?_ dw_stop; fail; refine wpl_nil (qone ⟨(by refine st_past (by kernel_rfl) ?_; exact st_nil), ?_⟩); ((apply dw_pure; (· exact rfl); (· exact rfl); (· (intro G; exact lookedG))); (apply dw_pure; (· exact rfl); (· exact rfl); (· (intro G; exact lookedG))); (apply dw_pure; (· exact rfl); (· exact rfl); (· (intro G; exact lookedG))); (apply dw_look; (· exact rfl); (· exact rfl); (· (exact lookedG))); skip); refine dw_do rfl rfl ?_ dw_stop; refine step_wanted rfl rfl ?_; fail; refine wpl_nil (qone ⟨(by (refine st_again ?_ ?_; (· exact lookedG)); refine st_past (by kernel_rfl) ?_; exact st_nil), ?_⟩); (skip); refine dw_do rfl rfl ?_ dw_stop; refine step_wanted rfl rfl ?_; fail; refine wpl_nil (qone ⟨(by refine st_past (by kernel_rfl) ?_; refine st_past (by kernel_rfl) ?_; exact st_nil), ?_⟩); (skip); refine dw_do rfl rfl ?_ dw_stop; refine step_wanted rfl rfl ?_; fail; refine wpl_nil (qone ⟨(by refine st_past (by kernel_rfl) ?_; refine st_past (by kernel_rfl) ?_; exact st_nil), ?_⟩); ((apply dw_pure; (· exact rfl); (· exact rfl); (· (intro G; exact lookedG))); (apply dw_pure; (· exact rfl); (· exact rfl); (· (intro G; exact lookedG))); refine dw_nil ?_; skip))); refine autoLaw02d1 ?_)
  by_cases hs : 3000 < (t - h) % 4294967296 ∧ (t - h) % 4294967296 ≤ 65536
  · obtain ⟨hs1, hs2⟩ := hs
    rw [decide_eq_true hs1]
    refine walkG ?_
    refine s_call rfl (works_spec T) rfl ?_
    rintro _ _ ⟨e_, rfl⟩
    obtain rfl := e_.symm
    refine walk ?_
    (first | (apply retRD1 (G := H) (.inr rfl) rfl; (· first | (refine rv_tmp (v := .bool _) rfl) | exact rv_tmp rfl); (· exact Ent.auto)) | (apply retRD1 (G := H) (.inl rfl) rfl; (· first | (refine rv_tmp (v := .bool _) rfl) | exact rv_tmp rfl); (· exact Ent.auto)))
    exact ⟨rfl, rfl⟩
  · skip
    by_cases hs1 : 3000 < (t - h) % 4294967296
    · have hs2 : ¬ ((t - h) % 4294967296 ≤ 65536) := fun x => hs ⟨hs1, x⟩
      clear hs
      rw [decide_eq_true hs1]
      refine walkG ?_
      refine wp_loopR (α := Nat) [10, 15, 142, 143, 144, 145, 146, 147, 148, 149, 150, 151, 152, 153, 154, 155, 156, 157, 158, 159, 160, 161, 162, 163] (fun j => [(15, .int .i64 j)]) (fun j => j ≤ 2) (fun j => 2 - j) 0 agreed (by omega) ?_
      rintro j g hj
      simp only [putAll]
      by_cases hj2 : j < 2
      · refine walkG ?_
        (refine wp_draw [3, 7, 8, 12, 14, 15] (.look 0 (.look 1 (.look 2 (.look 4 (.look 5 (.look 6 (.act 3 (.act 7 (.act 8 (.look 9 (.look 10 (.look 11 (.look 13 (.act 12 (.act 14 (.act 15 (.look 16 (.look 17 .nil)) .stop) .stop) .stop))))) .stop) .stop) .stop))))))) (by kernel_rfl) ?_; (apply dw_pure; (· exact rfl); (· exact rfl); (· (intro G; exact lookedG))); (apply dw_pure; (· exact rfl); (· exact rfl); (· (intro G; exact lookedG))); (apply dw_pure; (· exact rfl); (· exact rfl); (· (intro G; exact lookedG))); (apply dw_look; (· exact rfl); (· exact rfl); (· (exact lookedG))); (apply dw_pure; (· exact rfl); (· exact rfl); (· (intro G; exact lookedG))); (apply dw_pure; (· exact rfl); (· exact rfl); (· (intro G; exact lookedG))); skip)
        refine dw_do rfl rfl ?_ dw_stop
        refine s_call rfl (wPlaces h1 h2 h3 h4) rfl ?_
        rintro v1 _ rfl
        refine wpl_nil (qone ⟨(by (refine st_again ?_ ?_; (· exact lookedG)); exact st_nil), ?_⟩)
        (skip)
        refine dw_do rfl rfl ?_ dw_stop
        refine s_call rfl (rPlaces h1 h2 h3 h4) rfl ?_
        rintro v2 _ rfl
        refine wpl_nil (qone ⟨(by refine st_past (by kernel_rfl) ?_; exact st_nil), ?_⟩)
        (skip)
        refine dw_do rfl rfl ?_ dw_stop
        refine WPL.rd fun hr2 => ?_
        refine s_call rfl (same_spec (s := v1) (xs := pl h n (plk h t n p)) (ys := pl h n (plk h t n p)) (hr2.ent InH.ent)) rfl ?_
        rintro _ _ ⟨e_, rfl⟩
        obtain rfl := e_.symm
        rw [decide_eq_true rfl]
        refine wpl_nil (qone ⟨(by refine st_past (by kernel_rfl) ?_; exact st_nil), ?_⟩)
        ((apply dw_pure; (· exact rfl); (· exact rfl); (· (intro G; exact lookedG))); (apply dw_pure; (· exact rfl); (· exact rfl); (· (intro G; exact lookedG))); (apply dw_pure; (· exact rfl); (· exact rfl); (· (intro G; exact lookedG))); (apply dw_look; (· exact rfl); (· exact rfl); (· (exact lookedG))); skip)
        refine dw_do rfl rfl ?_ dw_stop
        refine step_wanted rfl rfl ?_
        refine s_call rfl (wPlaces (a := 0) (n := 70000) h1 h2 (by decide) (by decide)) rfl ?_
        rintro v3 _ rfl
        refine wpl_nil (qone ⟨(by (refine st_again ?_ ?_; (· exact lookedG)); refine st_past (by kernel_rfl) ?_; exact st_nil), ?_⟩)
        (skip)
        refine dw_do rfl rfl ?_ dw_stop
        refine step_wanted rfl rfl ?_
        refine s_call rfl (rPlaces (a := 0) (n := 70000) h1 h2 (by decide) (by decide)) rfl ?_
        rintro v4 _ rfl
        refine wpl_nil (qone ⟨(by refine st_past (by kernel_rfl) ?_; refine st_past (by kernel_rfl) ?_; exact st_nil), ?_⟩)
        (skip)
        refine dw_do rfl rfl ?_ dw_stop
        refine step_wanted rfl rfl ?_
        refine WPL.rd fun hr4 => ?_
        refine s_call rfl (same_spec (s := v3) (xs := pl h 0 (plk h t 0 70000)) (ys := pl h 0 (plk h t 0 70000)) (hr4.ent InH.ent)) rfl ?_
        rintro _ _ ⟨e_, rfl⟩
        obtain rfl := e_.symm
        rw [decide_eq_true rfl]
        refine wpl_nil (qone ⟨(by refine st_past (by kernel_rfl) ?_; refine st_past (by kernel_rfl) ?_; exact st_nil), ?_⟩)
        ((apply dw_pure; (· exact rfl); (· exact rfl); (· (intro G; exact lookedG))); (apply dw_pure; (· exact rfl); (· exact rfl); (· (intro G; exact lookedG))); refine dw_nil ?_; skip)
        refine walkG ?_
        exact ⟨j + 1, asided, agreed, Ent.auto, by omega, by omega⟩
      · refine walkG ?_
        refine s_call rfl (works_spec T) rfl ?_
        rintro _ _ ⟨e_, rfl⟩
        obtain rfl := e_.symm
        refine walk ?_
        (first | (apply retRD1 (G := H) (.inr rfl) rfl; (· first | (refine rv_tmp (v := .bool _) rfl) | exact rv_tmp rfl); (· exact Ent.auto)) | (apply retRD1 (G := H) (.inl rfl) rfl; (· first | (refine rv_tmp (v := .bool _) rfl) | exact rv_tmp rfl); (· exact Ent.auto)))
        exact ⟨rfl, rfl⟩
    · clear hs
      rw [decide_eq_false hs1]
      refine walkG ?_
      refine wp_loopR (α := Nat) [10, 15, 142, 143, 144, 145, 146, 147, 148, 149, 150, 151, 152, 153, 154, 155, 156, 157, 158, 159, 160, 161, 162, 163] (fun j => [(15, .int .i64 j)]) (fun j => j ≤ 2) (fun j => 2 - j) 0 agreed (by omega) ?_
      rintro j g hj
      simp only [putAll]
      by_cases hj2 : j < 2
      · refine walkG ?_
        (refine wp_draw [3, 7, 8, 12, 14, 15] (.look 0 (.look 1 (.look 2 (.look 4 (.look 5 (.look 6 (.act 3 (.act 7 (.act 8 (.look 9 (.look 10 (.look 11 (.look 13 (.act 12 (.act 14 (.act 15 (.look 16 (.look 17 .nil)) .stop) .stop) .stop))))) .stop) .stop) .stop))))))) (by kernel_rfl) ?_; (apply dw_pure; (· exact rfl); (· exact rfl); (· (intro G; exact lookedG))); (apply dw_pure; (· exact rfl); (· exact rfl); (· (intro G; exact lookedG))); (apply dw_pure; (· exact rfl); (· exact rfl); (· (intro G; exact lookedG))); (apply dw_look; (· exact rfl); (· exact rfl); (· (exact lookedG))); (apply dw_pure; (· exact rfl); (· exact rfl); (· (intro G; exact lookedG))); (apply dw_pure; (· exact rfl); (· exact rfl); (· (intro G; exact lookedG))); skip)
        refine dw_do rfl rfl ?_ dw_stop
        refine s_call rfl (wPlaces h1 h2 h3 h4) rfl ?_
        rintro v1 _ rfl
        refine wpl_nil (qone ⟨(by (refine st_again ?_ ?_; (· exact lookedG)); exact st_nil), ?_⟩)
        (skip)
        refine dw_do rfl rfl ?_ dw_stop
        refine s_call rfl (rPlaces h1 h2 h3 h4) rfl ?_
        rintro v2 _ rfl
        refine wpl_nil (qone ⟨(by refine st_past (by kernel_rfl) ?_; exact st_nil), ?_⟩)
        (skip)
        refine dw_do rfl rfl ?_ dw_stop
        refine WPL.rd fun hr2 => ?_
        refine s_call rfl (same_spec (s := v1) (xs := pl h n (plk h t n p)) (ys := pl h n (plk h t n p)) (hr2.ent InH.ent)) rfl ?_
        rintro _ _ ⟨e_, rfl⟩
        obtain rfl := e_.symm
        rw [decide_eq_true rfl]
        refine wpl_nil (qone ⟨(by refine st_past (by kernel_rfl) ?_; exact st_nil), ?_⟩)
        ((apply dw_pure; (· exact rfl); (· exact rfl); (· (intro G; exact lookedG))); (apply dw_pure; (· exact rfl); (· exact rfl); (· (intro G; exact lookedG))); (apply dw_pure; (· exact rfl); (· exact rfl); (· (intro G; exact lookedG))); (apply dw_look; (· exact rfl); (· exact rfl); (· (exact lookedG))); skip)
        refine dw_do rfl rfl ?_ dw_stop
        refine step_wanted rfl rfl ?_
        refine s_call rfl (wPlaces (a := 0) (n := 70000) h1 h2 (by decide) (by decide)) rfl ?_
        rintro v3 _ rfl
        refine wpl_nil (qone ⟨(by (refine st_again ?_ ?_; (· exact lookedG)); refine st_past (by kernel_rfl) ?_; exact st_nil), ?_⟩)
        (skip)
        refine dw_do rfl rfl ?_ dw_stop
        refine step_wanted rfl rfl ?_
        refine s_call rfl (rPlaces (a := 0) (n := 70000) h1 h2 (by decide) (by decide)) rfl ?_
        rintro v4 _ rfl
        refine wpl_nil (qone ⟨(by refine st_past (by kernel_rfl) ?_; refine st_past (by kernel_rfl) ?_; exact st_nil), ?_⟩)
        (skip)
        refine dw_do rfl rfl ?_ dw_stop
        refine step_wanted rfl rfl ?_
        refine WPL.rd fun hr4 => ?_
        refine s_call rfl (same_spec (s := v3) (xs := pl h 0 (plk h t 0 70000)) (ys := pl h 0 (plk h t 0 70000)) (hr4.ent InH.ent)) rfl ?_
        rintro _ _ ⟨e_, rfl⟩
        obtain rfl := e_.symm
        rw [decide_eq_true rfl]
        refine wpl_nil (qone ⟨(by refine st_past (by kernel_rfl) ?_; refine st_past (by kernel_rfl) ?_; exact st_nil), ?_⟩)
        ((apply dw_pure; (· exact rfl); (· exact rfl); (· (intro G; exact lookedG))); (apply dw_pure; (· exact rfl); (· exact rfl); (· (intro G; exact lookedG))); refine dw_nil ?_; skip)
        refine walkG ?_
        exact ⟨j + 1, asided, agreed, Ent.auto, by omega, by omega⟩
      · refine walkG ?_
        refine s_call rfl (works_spec T) rfl ?_
        rintro _ _ ⟨e_, rfl⟩
        obtain rfl := e_.symm
        refine walk ?_
        (first | (apply retRD1 (G := H) (.inr rfl) rfl; (· first | (refine rv_tmp (v := .bool _) rfl) | exact rv_tmp rfl); (· exact Ent.auto)) | (apply retRD1 (G := H) (.inl rfl) rfl; (· first | (refine rv_tmp (v := .bool _) rfl) | exact rv_tmp rfl); (· exact Ent.auto)))
        exact ⟨rfl, rfl⟩
end
end Go.Proofs.YtdmfojjpanndoaaDoor
