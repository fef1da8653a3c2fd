/- The chapter's examples of a clock; a clock that is not there. No condition. -/
import Derived.Test.YtipbcccjhaommaaDoorCkClk1
import Derived.Test.YtipbcccjhaommaaDoorSL4
namespace Go.Proofs.YtipbcccjhaommaaDoor
open Go Go.SL Go.SL.Flo
set_option linter.unusedSimpArgs false
set_option linter.unusedVariables false
set_option maxRecDepth 10000
set_option maxHeartbeats 2000000
theorem n15 : nanosR (4609434218613702656 % 2 ^ 63) = 1500000 := by kernel_rfl
theorem n20 : nanosR (4611686018427387904 % 2 ^ 63) = 2000000 := by kernel_rfl
theorem n10 : nanosR (4607182418800017408 % 2 ^ 63) = 1000000 := by kernel_rfl
theorem nm0 : nanosR (9223372036854775808 % 2 ^ 63) = 0 := by kernel_rfl
theorem milA : milGo ⟨0, []⟩ 0 [4609434218613702656, 9223372036854775808, 4611686018427387904] = (⟨3500000, []⟩, 3, 0) := by
  rw [milGo, if_pos (by decide), n15, milGo, if_pos (by decide), nm0, milGo, if_pos (by decide), n20, milGo]
  rfl
theorem milB {r : Nat} (h : ¬ FGood r) : milGo ⟨0, []⟩ 0 [4607182418800017408, r, 4611686018427387904] = (⟨1000000, []⟩, 1, 10) := by
  rw [milGo, if_pos (by decide), n10, milGo, if_neg h]
  rfl
theorem texA : textS 3500000 = [51, 46, 53, 48, 48, 48, 48, 48] := by
  unfold textS
  rw [if_pos (by omega), show ((3500000 : Int) / 1000000).toNat = 3 by decide, show ((3500000 : Int) % 1000000).toNat = 500000 by decide]
  simp [pad6, dg, Lib.decDigits]
attribute [local irreducible] WP WPL QSeq QBlk QRet Does Cell Cells Rd Mine Ent Aside RV e0 Slid QScp ClkAt
section
variable {B : World} {F H : HProp} {b : Nat} {n t d now : Int} {c : Clk} {s : Value} {w : Nat}
theorem zero2_spec : Does Tryd.prog B 22 [] H fun r H' => H' = H ∧ r = flt 0 := by
  refine fn_intro 3 Tryd.func22 rfl rfl rfl ?_
  refine walk ?_
  (first | refine ret1 (v := .float _ _) (.inr rfl) rfl rfl ?_ | refine ret1  (.inr rfl) rfl rfl ?_ | refine ret1 (v := .float _ _) (.inl rfl) rfl rfl ?_ | refine ret1  (.inl rfl) rfl rfl ?_)
  exact ⟨rfl, rfl⟩
theorem cMillisE {fs : List Nat} {x : Clk} {k : Nat} {e : Int} (h : milGo c 0 fs = (x, k, e)) [i : HasAt ClkAt H b c F] (hs : Rd B F 1 s fs.length (fs.map flt)) (hf : ∀ f ∈ fs, f < 2 ^ 64) (hl : fs.length ≤ 1000000) :
    Does Tryd.prog B 19 [.pointer (some ⟨b, 0, none⟩), s] H fun r H' => H' = ClkAt b x + F ∧ r = .tuple #[.int .i64 (k : Nat), .int .i64 e] := by
  have := cMillis (s := s) hs hf hl (i := i)
  rw [h] at this
  exact this
theorem cAddE {x : Clk} {e : Int} (h : (if n < 0 then c else addC c n) = x) (he : (if n < 0 then (2 : Int) else 0) = e) [i : HasAt ClkAt H b c F] : Does Tryd.prog B 9 [.pointer (some ⟨b, 0, none⟩), .int .i64 n] H fun r H' => H' = ClkAt b x + F ∧ r = .int .i64 e := by
  subst h he
  exact cAdd
theorem cNowE {x : Int} (h : c.now = x) [i : HasAt ClkAt H b c F] : Does Tryd.prog B 8 [.pointer (some ⟨b, 0, none⟩)] H fun r H' => H' = H ∧ r = .int .i64 x := by
  subst h; exact cNow
theorem cTextE (T : Tab B) {x : List UInt8} (h : textS c.now = x) [i : HasAt ClkAt H b c F] : Does Tryd.prog B 21 [.pointer (some ⟨b, 0, none⟩)] H fun r H' => H' = H ∧ r = str x := by
  subst h; exact cText T
theorem cFullE {x : Bool} (h : decide (c.now = 4611686018427387904) = x) [i : HasAt ClkAt H b c F] : Does Tryd.prog B 12 [.pointer (some ⟨b, 0, none⟩)] H fun r H' => H' = H ∧ r = .bool x := by
  subst h; exact cFull
theorem works_spec (T : Tab B) : Does Tryd.prog B 7 [] H fun r H' => H' = H ∧ r = .bool true := by
  refine Does.frame0 ?_
  refine fn_intro 72 Tryd.func7 rfl rfl rfl ?_
  refine walk ?_
  refine s_alloc rfl ?_
  intro b1
  refine s_alloc rfl ?_
  intro b2
  refine s_alloc rfl ?_
  intro b3
  refine WPL.ent (clk_new.trans ((clk_new.trans (clk_new.frame_left _)).frame_left _)) ?_
  refine walk ?_
  refine s_call rfl (zero2_spec) rfl ?_
  rintro _ _ ⟨e_, rfl⟩
  obtain rfl := e_.symm
  refine walk ?_
  refine s_fneg rfl rfl ?_
  refine s_buildInts (cs := [flt 4609434218613702656, flt 9223372036854775808, flt 4611686018427387904]) rfl rfl rfl rfl rfl ?_
  intro bs
  refine s_call rfl (cMillisE (b := b1) (c := ⟨0, []⟩) milA (Rd.blk0 (e := 51) rfl (by simp [maxLen])) (by decide) (by decide)) rfl ?_
  rintro _ _ ⟨rfl, rfl⟩
  refine walk ?_
  refine s_fquoN rfl rfl (by decide) rfl ?_
  intro r hr1 hr2
  refine s_buildInts (cs := [flt 4607182418800017408, flt r, flt 4611686018427387904]) rfl rfl rfl rfl rfl ?_
  intro bs2
  refine s_call rfl (cMillisE (b := b2) (c := ⟨0, []⟩) (milB hr2) (Rd.blk0 (e := 51) rfl (by simp [maxLen])) (by intro f hf; simp only [List.mem_cons, List.not_mem_nil, or_false] at hf; omega) (by simp)) rfl ?_
  rintro _ _ ⟨rfl, rfl⟩
  refine walk ?_
  refine s_call rfl (cNowE (b := b1) (c := ⟨3500000, []⟩) (x := 3500000) rfl) rfl ?_
  rintro _ _ ⟨e_, rfl⟩
  obtain rfl := e_.symm
  refine walk ?_
  refine s_call rfl (cTextE T (b := b1) (c := ⟨3500000, []⟩) texA) rfl ?_
  rintro _ _ ⟨e_, rfl⟩
  obtain rfl := e_.symm
  refine walk ?_
  refine s_eqstr rfl rfl (b := true) (decide_eq_true rfl) rfl ?_
  refine walk ?_
  refine s_call rfl (cNowE (b := b2) (c := ⟨1000000, []⟩) (x := 1000000) rfl) rfl ?_
  rintro _ _ ⟨e_, rfl⟩
  obtain rfl := e_.symm
  refine walk ?_
  refine s_call rfl (cAddE (b := b3) (c := ⟨0, []⟩) (n := -1) (x := ⟨0, []⟩) (e := 2) rfl rfl) rfl ?_
  rintro _ _ ⟨rfl, rfl⟩
  refine walk ?_
  refine s_call rfl (cAddE (b := b3) (c := ⟨0, []⟩) (n := 4611686018427387904) (x := ⟨4611686018427387904, []⟩) (e := 0) rfl rfl) rfl ?_
  rintro _ _ ⟨rfl, rfl⟩
  refine walk ?_
  refine s_call rfl (cAddE (b := b3) (c := ⟨4611686018427387904, []⟩) (n := 9) (x := ⟨4611686018427387904, []⟩) (e := 0) rfl rfl) rfl ?_
  rintro _ _ ⟨rfl, rfl⟩
  refine walk ?_
  refine s_call rfl (cNowE (b := b3) (c := ⟨4611686018427387904, []⟩) (x := 4611686018427387904) rfl) rfl ?_
  rintro _ _ ⟨e_, rfl⟩
  obtain rfl := e_.symm
  refine walk ?_
  refine s_call rfl (cFullE (b := b3) (c := ⟨4611686018427387904, []⟩) (x := true) (by decide)) rfl ?_
  rintro _ _ ⟨e_, rfl⟩
  obtain rfl := e_.symm
  refine walk ?_
  (first | (apply retRD1 (G := H) (.inr rfl) rfl; (· first | (refine rv_tmp (v := .bool _) rfl) | exact rv_tmp rfl); (· exact Ent.auto)) | (apply retRD1 (G := H) (.inl rfl) rfl; (· first | (refine rv_tmp (v := .bool _) rfl) | exact rv_tmp rfl); (· exact Ent.auto)))
  exact ⟨Ent.refl _, rfl⟩
theorem none_law (T : Tab B) : Does Tryd.prog B 5 [.int .i64 n, .int .i64 t, .int .i64 d, flt w] H fun r H' => H' = H ∧ r = .bool true := by
  refine Does.frame0 ?_
  refine fn_intro 78 Tryd.func5 rfl rfl rfl ?_
  refine walk ?_
  refine s_buildInts (cs := [flt w]) rfl rfl rfl rfl rfl ?_
  intro bs
  refine walk ?_
  refine s_call rfl (nilMillis) rfl ?_
  rintro _ _ ⟨e_, rfl⟩
  obtain rfl := e_.symm
  refine walk ?_
  refine s_call rfl (nilNow) rfl ?_
  rintro _ _ ⟨e_, rfl⟩
  obtain rfl := e_.symm
  refine walk ?_
  refine s_call rfl (nilAdd) rfl ?_
  rintro _ _ ⟨e_, rfl⟩
  obtain rfl := e_.symm
  refine walk ?_
  refine s_call rfl (nilSince) rfl ?_
  rintro _ _ ⟨e_, rfl⟩
  obtain rfl := e_.symm
  refine walk ?_
  refine s_call rfl (nilDue) rfl ?_
  rintro _ _ ⟨e_, rfl⟩
  obtain rfl := e_.symm
  refine walk ?_
  refine s_call rfl (nilFull) rfl ?_
  rintro _ _ ⟨e_, rfl⟩
  obtain rfl := e_.symm
  refine walk ?_
  refine s_call rfl (nilMark) rfl ?_
  rintro _ _ ⟨e_, rfl⟩
  obtain rfl := e_.symm
  refine walk ?_
  refine s_call rfl (nilLaps) rfl ?_
  rintro _ _ ⟨e_, rfl⟩
  obtain rfl := e_.symm
  refine walk ?_
  refine s_call rfl (nilText) rfl ?_
  rintro _ _ ⟨e_, rfl⟩
  obtain rfl := e_.symm
  refine walk ?_
  refine s_eqstr rfl rfl (b := true) (decide_eq_true rfl) rfl ?_
  refine walk ?_
  refine s_call rfl (nilCopy) rfl ?_
  rintro _ _ ⟨e_, rfl⟩
  obtain rfl := e_.symm
  refine walk ?_
  refine s_call rfl (works_spec T) rfl ?_
  rintro _ _ ⟨e_, rfl⟩
  obtain rfl := e_.symm
  refine walk ?_
  (first | (apply retRD1 (G := H) (.inr rfl) rfl; (· first | (refine rv_tmp (v := .bool _) rfl) | exact rv_tmp rfl); (· exact Ent.auto)) | (apply retRD1 (G := H) (.inl rfl) rfl; (· first | (refine rv_tmp (v := .bool _) rfl) | exact rv_tmp rfl); (· exact Ent.auto)))
  exact ⟨Ent.refl _, rfl⟩
end
end Go.Proofs.YtipbcccjhaommaaDoor
