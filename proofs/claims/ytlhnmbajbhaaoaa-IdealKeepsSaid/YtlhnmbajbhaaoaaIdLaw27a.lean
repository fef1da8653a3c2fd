/- Systems: the chapter's example; one that is not there. No condition. -/
import Derived.Test.YtlhnmbajbhaaoaaIdId11
namespace Go.Proofs.Ytlhnmbajbhaaoaa
open Go Go.SL
set_option linter.unusedSimpArgs false
set_option linter.unusedVariables false
set_option maxRecDepth 10000
set_option maxHeartbeats 4000000
def c0 : Cfg := ⟨1, 2, 2, 2, 2, 0⟩
def l0 : List Nt := [⟨2, 0, 0, 0, 0⟩, ⟨1, 1, -1, 0, 0⟩, ⟨6, 0, 0, 0, 2⟩, ⟨2, 1, 0, 0, 1⟩, ⟨8, 0, -1, 0, 2⟩, ⟨9, 1, 0, 0, -1⟩, ⟨2, 1, 0, 0, 0⟩]
def n6 : Nt := ⟨2, 1, 0, 0, 0⟩
def I6 : Ide := (takeI (newI c0) (l0.take 6)).2
theorem f1 : (takeI (newI c0) (l0.take 6)).1 = 6 := by kernel_rfl
theorem f2 : mayB I6 n6 = false := by kernel_rfl
theorem f3 : I6.many = 6 := by kernel_rfl
theorem f4 : I6.stat 0 = 1 := by kernel_rfl
theorem f5 : decide (0 ≤ (0 : Int) ∧ (0 : Int) < I6.tab.all.length) = true := by kernel_rfl
theorem f6 : stC I6 0 = [.int .i64 1, .int .i64 0, .int .i64 (-1)] := by kernel_rfl
theorem f7 : decide (0 ≤ (0 : Int) ∧ (0 : Int) < I6.ms.length) = true := by kernel_rfl
theorem f8 : (if 0 ≤ (0 : Int) ∧ (0 : Int) < I6.ps.length then I6.pAt 0 else -3) = 0 := by kernel_rfl
theorem f9 : takeI I6 [n6] = (0, I6) := by
  rw [takeI_cons, f2]; rfl
theorem r0 : RightP c0 := by decide
theorem ok6 : I6.ok 19 := by
  have := takeI_ok (l0.take 6) (new_ok r0)
  exact this
attribute [local irreducible] WP WPL QSeq QBlk QRet Does Cell Cells Rd Mine Ent Aside RV Yield TabAt SemAt IdeAt newI I6
section
variable {B : World} {H F G : HProp} {x : Nat} {n : Nt} {k : Int}
theorem notes_spec : Does Try.prog B 21 [] H fun r H' => ∃ b, r = .slice (some ⟨b, 0, none⟩) 7 7 ∧ H' = blk b (nvs l0) 33 + H := by
  refine fn_intro 9 Try.func21 rfl rfl rfl ?_
  refine walk ?_
  (refine s_build (cs := nv ⟨2, 0, 0, 0, 0⟩) ?_ rfl ?_; (· kernel_rfl))
  refine walk ?_
  (refine s_build (cs := nv ⟨1, 1, -1, 0, 0⟩) ?_ rfl ?_; (· kernel_rfl))
  refine walk ?_
  (refine s_build (cs := nv ⟨6, 0, 0, 0, 2⟩) ?_ rfl ?_; (· kernel_rfl))
  refine walk ?_
  (refine s_build (cs := nv ⟨2, 1, 0, 0, 1⟩) ?_ rfl ?_; (· kernel_rfl))
  refine walk ?_
  (refine s_build (cs := nv ⟨8, 0, -1, 0, 2⟩) ?_ rfl ?_; (· kernel_rfl))
  refine walk ?_
  (refine s_build (cs := nv ⟨9, 1, 0, 0, -1⟩) ?_ rfl ?_; (· kernel_rfl))
  refine walk ?_
  (refine s_build (cs := nv ⟨2, 1, 0, 0, 0⟩) ?_ rfl ?_; (· kernel_rfl))
  refine walk ?_
  refine s_buildSlice (cs := nvs l0) rfl ?_ rfl ?_
  · kernel_rfl
  intro b
  refine walk ?_
  (first | refine ret1 (v := .slice _ _ _) (.inr rfl) rfl rfl ?_ | refine ret1  (.inr rfl) rfl rfl ?_ | refine ret1 (v := .slice _ _ _) (.inl rfl) rfl rfl ?_ | refine ret1  (.inl rfl) rfl rfl ?_)
  exact ⟨b, rfl, rfl⟩
theorem works_spec : Does Try.prog B 6 [] H fun r H' => H' = H ∧ r = .bool true := by
  refine Does.frame0 ?_
  refine fn_intro 79 Try.func6 rfl rfl rfl ?_
  refine walk ?_
  (refine s_build (cs := cv c0) ?_ rfl ?_; (· kernel_rfl))
  refine walk ?_
  refine s_call rfl (iNew (c := c0) r0) rfl ?_
  rintro _ _ ⟨x, L, hL, rfl, rfl⟩
  refine walk ?_
  refine s_call rfl notes_spec rfl ?_
  rintro _ _ ⟨bl, rfl, rfl⟩
  have rd7 : Rd B (blk bl (nvs l0) 33) 5 (.slice (some ⟨bl, 0, none⟩) 7 7) 7 (nvs l0) := Rd.blk0 (e := 33) rfl (by simp [maxLen])
  have rd6 : Rd B (blk bl (nvs l0) 33) 5 (.slice (some ⟨bl, 0, none⟩) 6 7) (l0.take 6).length (nvs (l0.take 6)) := by
    have := Rd.sliceH (B := B) (H := blk bl (nvs l0) 33) (sz := 5) (n := 7) (cap := 7) (ao := some ⟨bl, 0, none⟩) (cs := nvs l0) 6 rd7 (by omega)
    rw [nvs_take l0 6 (by decide)] at this
    exact this
  have hc6 : Cells B (blk bl (nvs l0) 33) bl 30 (nv n6) := by
    have h : Cells B (blk bl (nvs l0) 33) bl 0 (nvs l0) := by
      rw [← HProp.add_emp (blk bl (nvs l0) 33)]
      exact Cells.blk0
    have := nvs_cells h (k := 6) (by decide)
    exact this
  have okN : L.I.ok 1 := by rw [hL]; exact new_ok r0
  have e6 : (takeI L.I (l0.take 6)).2 = I6 := by rw [hL]; unfold I6; rfl
  have e6n : (takeI L.I (l0.take 6)).1 = 6 := by rw [hL]; exact f1
  have ok6' : (L.put I6).I.ok 19 := ok6
  refine walk ?_
  (apply s_sliceH (h := 6); (· exact rfl); (· exact rfl); (· omega); (· omega); (· exact rfl))
  refine walk ?_
  refine s_call rfl (iTake (x := x) (L := L) (l := l0.take 6) (rd6.ent InH.ent) okN (by decide)) rfl ?_
  rintro _ _ ⟨rfl, rfl⟩
  rw [e6, e6n, show (if 6 = (l0.take 6).length then (0 : Int) else 260) = 0 from rfl, show ((6 : Nat) : Int) = 6 from rfl]
  refine walk ?_
  (apply s_indexAddr (j := 6) (o' := 30); (· exact rfl); (· exact rfl); (· omega); (· omega); (· omega); (· exact rfl))
  refine walk ?_
  refine s_buildSlice (cs := nv n6) rfl ?_ rfl ?_
  · kernel_rfl
  intro bn
  refine walk ?_
  refine s_call rfl (iTake (x := x) (L := L.put I6) (l := [n6]) (s := .slice (some ⟨bn, 0, none⟩) 1 1) (Rd.ent (G := blk bn (nv n6) 33) (Rd.blk0 (e := 33) rfl (by simp [maxLen])) InH.ent) ok6' (by decide)) rfl ?_
  rintro _ _ ⟨rfl, rfl⟩
  rw [show takeI (L.put I6).I [n6] = (0, I6) from f9, show (L.put I6).put (0, I6).2 = L.put I6 from rfl, show (if (0, I6).1 = [n6].length then (0 : Int) else 260) = 260 from rfl, show (((0, I6).1 : Nat) : Int) = 0 from rfl]
  refine walk ?_
  refine s_call rfl (iStatus (x := x) (L := L.put I6) (g := 0)) rfl ?_
  rintro _ _ ⟨e_, rfl⟩
  obtain rfl := e_.symm
  rw [show (L.put I6).I.stat 0 = 1 from f4, show decide (0 ≤ (0 : Int) ∧ (0 : Int) < (L.put I6).I.tab.all.length) = true from f5]
  refine walk ?_
  refine s_call rfl (iM (x := x) (L := L.put I6) (m := 0)) rfl ?_
  rintro _ _ ⟨e_, rfl⟩
  obtain rfl := e_.symm
  rw [show stC (L.put I6).I 0 = _ from f6, show decide (0 ≤ (0 : Int) ∧ (0 : Int) < (L.put I6).I.ms.length) = true from f7]
  refine walk ?_
  refine s_alloc rfl ?_
  intro b9
  refine walk ?_
  refine s_storeV (vs := [.int .i64 1, .int .i64 0, .int .i64 (-1)]) rfl rfl rfl rfl rfl ?_
  refine walk ?_
  refine s_call rfl (iLen (x := x) (L := L.put I6)) rfl ?_
  rintro _ _ ⟨e_, rfl⟩
  obtain rfl := e_.symm
  rw [show (L.put I6).I.many = 6 from f3]
  refine walk ?_
  (refine s_build (cs := [.int .i64 1, .int .i64 0, .int .i64 (-1)]) ?_ rfl ?_; (· kernel_rfl))
  refine walk ?_
  refine s_eqlF (stS 1 0 (-1)) (stS 1 0 (-1)) (b := true) rfl rfl rfl rfl (by simp) rfl ?_
  refine walk ?_
  refine s_call rfl (iP (x := x) (L := L.put I6) (p := 0)) rfl ?_
  rintro _ _ ⟨e_, rfl⟩
  obtain rfl := e_.symm
  rw [show (if 0 ≤ (0 : Int) ∧ (0 : Int) < (L.put I6).I.ps.length then (L.put I6).I.pAt 0 else -3) = 0 from f8]
  refine walk ?_
  (first | (apply retRD1 (G := H) (.inr rfl) rfl; (· first | (refine rv_tmp (v := .bool _) rfl) | exact rv_tmp rfl); (· exact Ent.auto)) | (apply retRD1 (G := H) (.inl rfl) rfl; (· first | (refine rv_tmp (v := .bool _) rfl) | exact rv_tmp rfl); (· exact Ent.auto)))
  exact ⟨Ent.refl _, rfl⟩
theorem none_law : Does Try.prog B 4 [noteV n, .int .i64 k] H fun r H' => H' = H ∧ r = .bool true := by
  refine Does.frame0 ?_
  refine fn_intro 97 Try.func4 rfl rfl rfl ?_
  refine walk ?_
  refine s_box (cs := nv n) rfl rfl rfl ?_
  intro b
  refine walk ?_
  refine s_buildSlice (cs := nv n) rfl ?_ rfl ?_
  · kernel_rfl
  intro bn
  refine walk ?_
  refine s_call rfl (zTake) rfl ?_
  rintro _ _ ⟨e_, rfl⟩
  obtain rfl := e_.symm
  refine walk ?_
  refine s_call rfl (zStatus (g := k)) rfl ?_
  rintro _ _ ⟨e_, rfl⟩
  obtain rfl := e_.symm
  refine walk ?_
  refine s_call rfl (zM (m := k)) rfl ?_
  rintro _ _ ⟨e_, rfl⟩
  obtain rfl := e_.symm
  refine walk ?_
  refine s_alloc rfl ?_
  intro b10
  refine walk ?_
  refine s_storeV (vs := [.int .i64 0, .int .i64 0, .int .i64 0]) rfl rfl rfl rfl rfl ?_
  refine walk ?_
  refine s_call rfl (zMay (n := n)) rfl ?_
  rintro _ _ ⟨e_, rfl⟩
  obtain rfl := e_.symm
  refine walk ?_
  refine s_call rfl (zCount (s := k)) rfl ?_
  rintro _ _ ⟨e_, rfl⟩
  obtain rfl := e_.symm
  refine walk ?_
  refine s_call rfl (zWaits (s := k)) rfl ?_
  rintro _ _ ⟨e_, rfl⟩
  obtain rfl := e_.symm
  refine walk ?_
  (refine s_build (cs := [.int .i64 0, .int .i64 0, .int .i64 0]) ?_ rfl ?_; (· kernel_rfl))
  refine walk ?_
  refine s_eqlF (stS 0 0 0) (stS 0 0 0) (b := true) rfl rfl rfl rfl (by simp) rfl ?_
  refine walk ?_
  refine s_call rfl (zP (p := k)) rfl ?_
  rintro _ _ ⟨e_, rfl⟩
  obtain rfl := e_.symm
  refine walk ?_
  refine s_call rfl (zCallers) rfl ?_
  rintro _ _ ⟨e_, rfl⟩
  obtain rfl := e_.symm
  refine walk ?_
  refine s_call rfl (zLen) rfl ?_
  rintro _ _ ⟨e_, rfl⟩
  obtain rfl := e_.symm
  refine walk ?_
  refine s_call rfl (zCopy) rfl ?_
  rintro _ _ ⟨e_, rfl⟩
  obtain rfl := e_.symm
  refine walk ?_
  refine s_call rfl (works_spec) rfl ?_
  rintro _ _ ⟨e_, rfl⟩
  obtain rfl := e_.symm
  refine walk ?_
  (first | (apply retRD1 (G := H) (.inr rfl) rfl; (· first | (refine rv_tmp (v := .bool _) rfl) | exact rv_tmp rfl); (· exact Ent.auto)) | (apply retRD1 (G := H) (.inl rfl) rfl; (· first | (refine rv_tmp (v := .bool _) rfl) | exact rv_tmp rfl); (· exact Ent.auto)))
  exact ⟨Ent.refl _, rfl⟩
end
end Go.Proofs.Ytlhnmbajbhaaoaa
