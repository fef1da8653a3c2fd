/- What the laws on words share. No condition. -/
import Derived.Test.YtdmfojjpanndoaaDoorWdWordDo
import Derived.Test.YtdmfojjpanndoaaDoorWdWordText
import Derived.Test.YtdmfojjpanndoaaDoorWdPlaces
namespace Go.Proofs.YtdmfojjpanndoaaDoor
open Go Go.SL
set_option linter.unusedSimpArgs false
set_option linter.unusedVariables false
set_option maxRecDepth 10000
set_option maxHeartbeats 2000000
theorem tx1 : wtext 4294967295 2 = [52, 50, 57, 52, 57, 54, 55, 50, 57, 53, 46, 46, 50] := by simp [wtext, Lib.decDigits]
theorem tx2 : wtext 0 4 = [48, 46, 46, 52] := by simp [wtext, Lib.decDigits]
theorem tx3 : wtext 0 2 = [48, 46, 46, 50] := by simp [wtext, Lib.decDigits]
theorem tx4 : wtext 2 4 = [50, 46, 46, 52] := by simp [wtext, Lib.decDigits]
theorem dr1 : doR 4 (0, 4) [3] = (0, 4) := by decide
theorem dr2 : doR 4 (0, 4) [4] = (0, 2) := by decide
theorem dr3 : doR 4 (0, 4) [2] = (2, 4) := by decide
theorem dr4 : doR 4 (0, 4) [1, 1] = (2, 4) := by decide
theorem pl1 : pl 4294967295 1 (plk 4294967295 2 1 9) = [0, 1] := by decide
attribute [local irreducible] WP WPL QSeq QBlk QRet Does Cell Cells Rd Mine Ent Aside RV
section
variable {B : World} {H F : HProp} {h t n p q k w a : Int}
theorem wT1 (T : Tab B) : Does Tryd.prog B 18 [wd 4294967295 2] H fun r H' => H' = H ∧ r = str [52, 50, 57, 52, 57, 54, 55, 50, 57, 53, 46, 46, 50] := by
  have := wText (H := H) T (h := 4294967295) (t := 2) (by decide) (by decide)
  rw [tx1] at this; exact this
theorem wT2 (T : Tab B) : Does Tryd.prog B 18 [wd 0 4] H fun r H' => H' = H ∧ r = str [48, 46, 46, 52] := by
  have := wText (H := H) T (h := 0) (t := 4) (by decide) (by decide)
  rw [tx2] at this; exact this
theorem wT3 (T : Tab B) : Does Tryd.prog B 18 [wd 0 2] H fun r H' => H' = H ∧ r = str [48, 46, 46, 50] := by
  have := wText (H := H) T (h := 0) (t := 2) (by decide) (by decide)
  rw [tx3] at this; exact this
theorem wT4 (T : Tab B) : Does Tryd.prog B 18 [wd 2 4] H fun r H' => H' = H ∧ r = str [50, 46, 46, 52] := by
  have := wText (H := H) T (h := 2) (t := 4) (by decide) (by decide)
  rw [tx4] at this; exact this
theorem wDoE {s : Value} {l : List Int} {h' t' : Int} (e : doR q (h, t) l = (h', t')) (h1 : U32 h) (h2 : U32 t) (hs : Rd B H 1 s l.length (zs l)) : Does Tryd.prog B 10 [wd h t, .int .i64 q, s] H fun r H' => H' = H ∧ r = wd h' t' := by
  have := wDo (q := q) h1 h2 hs
  rw [e] at this; exact this
theorem autoLaw0215 {p q : Prop} (k : q) (h : Owed q → p := by
  intro k_
  refine walkG ?_
  repeat ((first | (show WPL _ _ _ _ _ (⟨_, .call ⟨.value (.func 11), _, _⟩, _, _, _, none⟩ :: _) _ _ _; (apply s_call; (· exact rfl); (· refine pack_spec ?_ ?_ <;> (first | assumption | omega | decide | (unfold U32; omega) | exact InH.ent | (apply Rd.ent; (· assumption); (· exact InH.ent)) | exact Rd.nil | (refine Rd.blk0 ?_ ?_; (· rfl); (· simp [maxLen])) | simp)); (· exact rfl); rintro _ _ ⟨e_, rfl⟩; obtain rfl := e_.symm)) | (show WPL _ _ _ _ _ (⟨_, .call ⟨.value (.func 13), _, _⟩, _, _, _, none⟩ :: _) _ _ _; (apply s_call; (· exact rfl); (· refine len_spec ?_ ?_ <;> (first | assumption | omega | decide | (unfold U32; omega) | exact InH.ent | (apply Rd.ent; (· assumption); (· exact InH.ent)) | exact Rd.nil | (refine Rd.blk0 ?_ ?_; (· rfl); (· simp [maxLen])) | simp)); (· exact rfl); rintro _ _ ⟨e_, rfl⟩; obtain rfl := e_.symm)) | (show WPL _ _ _ _ _ (⟨_, .call ⟨.value (.func 10), _, _⟩, _, _, _, none⟩ :: _) _ _ _; (apply s_call; (· exact rfl); (· refine wDo ?_ ?_ ?_ <;> (first | assumption | omega | decide | (unfold U32; omega) | exact InH.ent | (apply Rd.ent; (· assumption); (· exact InH.ent)) | exact Rd.nil | (refine Rd.blk0 ?_ ?_; (· rfl); (· simp [maxLen])) | simp)); (· exact rfl); rintro _ _ ⟨e_, rfl⟩; obtain rfl := e_.symm)) | (show WPL _ _ _ _ _ (⟨_, .call ⟨.value (.func 12), _, _⟩, _, _, _, none⟩ :: _) _ _ _; (apply s_call; (· exact rfl); (· refine older_spec ?_ <;> (first | assumption | omega | decide | (unfold U32; omega) | exact InH.ent | (apply Rd.ent; (· assumption); (· exact InH.ent)) | exact Rd.nil | (refine Rd.blk0 ?_ ?_; (· rfl); (· simp [maxLen])) | simp)); (· exact rfl); rintro _ _ ⟨e_, rfl⟩; obtain rfl := e_.symm)) | (show WPL _ _ _ _ _ (⟨_, .call ⟨.value (.func 22), _, _⟩, _, _, _, none⟩ :: _) _ _ _; (apply s_call; (· exact rfl); (· refine wSlot ?_ <;> (first | assumption | omega | decide | (unfold U32; omega) | exact InH.ent | (apply Rd.ent; (· assumption); (· exact InH.ent)) | exact Rd.nil | (refine Rd.blk0 ?_ ?_; (· rfl); (· simp [maxLen])) | simp)); (· exact rfl); rintro _ _ ⟨e_, rfl⟩; obtain rfl := e_.symm))); refine walkG ?_)
  exact k_.get) : p := h ⟨k⟩
theorem works_spec (T : Tab B) : Does Tryd.prog B 7 [] H fun r H' => H' = H ∧ r = .bool true := by
  refine fn_intro 67 Tryd.func7 rfl rfl rfl ?_
  refine autoLaw0215 ?_
  refine s_call rfl (wT1 T) rfl ?_
  rintro _ _ ⟨e_, rfl⟩
  obtain rfl := e_.symm
  refine walk ?_
  refine autoLaw0215 ?_
  refine s_call rfl (wPlaces (by decide) (by decide) (by decide) (by decide)) rfl ?_
  rintro v1 _ rfl
  rw [pl1]
  refine autoLaw0215 ?_
  refine s_buildInts (cs := us [0, 1]) rfl rfl rfl rfl rfl ?_
  intro b1
  refine autoLaw0215 ?_
  refine s_call rfl (same_spec (s := v1) (xs := [0, 1]) (ys := [0, 1]) (Rd.blk0 rfl (by simp [maxLen]))) rfl ?_
  rintro _ _ ⟨e_, rfl⟩
  obtain rfl := e_.symm
  refine walk ?_
  refine autoLaw0215 ?_
  refine s_buildInts (cs := zs [3]) rfl rfl rfl rfl rfl ?_
  intro b2
  refine autoLaw0215 ?_
  refine s_call rfl (wDoE (l := [3]) dr1 (by decide) (by decide) (Rd.blk0 rfl (by simp [maxLen]))) rfl ?_
  rintro _ _ ⟨e_, rfl⟩
  obtain rfl := e_.symm
  refine walk ?_
  refine s_call rfl (wT2 T) rfl ?_
  rintro _ _ ⟨e_, rfl⟩
  obtain rfl := e_.symm
  refine walk ?_
  refine autoLaw0215 ?_
  refine s_buildInts (cs := zs [4]) rfl rfl rfl rfl rfl ?_
  intro b2
  refine autoLaw0215 ?_
  refine s_call rfl (wDoE (l := [4]) dr2 (by decide) (by decide) (Rd.blk0 rfl (by simp [maxLen]))) rfl ?_
  rintro _ _ ⟨e_, rfl⟩
  obtain rfl := e_.symm
  refine walk ?_
  refine s_call rfl (wT3 T) rfl ?_
  rintro _ _ ⟨e_, rfl⟩
  obtain rfl := e_.symm
  refine walk ?_
  refine autoLaw0215 ?_
  refine s_buildInts (cs := zs [2]) rfl rfl rfl rfl rfl ?_
  intro b2
  refine autoLaw0215 ?_
  refine s_call rfl (wDoE (l := [2]) dr3 (by decide) (by decide) (Rd.blk0 rfl (by simp [maxLen]))) rfl ?_
  rintro _ _ ⟨e_, rfl⟩
  obtain rfl := e_.symm
  refine walk ?_
  refine s_call rfl (wT4 T) rfl ?_
  rintro _ _ ⟨e_, rfl⟩
  obtain rfl := e_.symm
  refine walk ?_
  refine autoLaw0215 ?_
  refine s_buildInts (cs := zs [1, 1]) rfl rfl rfl rfl rfl ?_
  intro b2
  refine autoLaw0215 ?_
  refine s_call rfl (wDoE (l := [1, 1]) dr4 (by decide) (by decide) (Rd.blk0 rfl (by simp [maxLen]))) rfl ?_
  rintro _ _ ⟨e_, rfl⟩
  obtain rfl := e_.symm
  refine walk ?_
  refine s_call rfl (wT4 T) rfl ?_
  rintro _ _ ⟨e_, rfl⟩
  obtain rfl := e_.symm
  refine walk ?_
  refine autoLaw0215 ?_
  (first | (apply retRD1 (G := H) (.inr rfl) rfl; (· first | (refine rv_tmp (v := .bool _) rfl) | exact rv_tmp rfl); (· exact Ent.auto)) | (apply retRD1 (G := H) (.inl rfl) rfl; (· first | (refine rv_tmp (v := .bool _) rfl) | exact rv_tmp rfl); (· exact Ent.auto)))
  exact ⟨rfl, congrArg Value.bool (by decide)⟩
end
end Go.Proofs.YtdmfojjpanndoaaDoor
