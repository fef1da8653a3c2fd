/- A book that is not there. No condition. -/
import Derived.Test.YtofgpppnknpblaaGreatDoorNzLaw26a
namespace Go.Proofs.YtofgpppnknpblaaGreatDoor
open Go Go.SL
set_option linter.unusedSimpArgs false
set_option linter.unusedVariables false
set_option maxRecDepth 10000
set_option maxHeartbeats 2000000
attribute [local irreducible] WP WPL QSeq QBlk QRet Does Cell Cells Rd Mine Ent Aside RV Yield IterAt
section
variable {B : World} {F H G : HProp} {n : Nt} {k v i : Int} {s fv : Value}
theorem bAdd_nil : Does Tryz.prog B 26 [.pointer none, s] H fun r H' => H' = H ∧ r = .int .i64 1 := by
  refine fn_intro 20 Tryz.func26 rfl rfl rfl ?_
  refine walk ?_
  (first | refine ret1 (v := .int _ _) (.inr rfl) rfl rfl ?_ | refine ret1  (.inr rfl) rfl rfl ?_ | refine ret1 (v := .int _ _) (.inl rfl) rfl rfl ?_ | refine ret1  (.inl rfl) rfl rfl ?_)
  exact ⟨rfl, rfl⟩
theorem bLen_nil : Does Tryz.prog B 34 [.pointer none] H fun r H' => H' = H ∧ r = .int .i64 0 := by
  refine fn_intro 10 Tryz.func34 rfl rfl rfl ?_
  refine walk ?_
  (first | refine ret1 (v := .int _ _) (.inr rfl) rfl rfl ?_ | refine ret1  (.inr rfl) rfl rfl ?_ | refine ret1 (v := .int _ _) (.inl rfl) rfl rfl ?_ | refine ret1  (.inl rfl) rfl rfl ?_)
  exact ⟨rfl, rfl⟩
theorem bSince_nil : Does Tryz.prog B 29 [.pointer none, .int .i64 i] H fun r H' => H' = H ∧ r = .slice none 0 0 := by
  refine fn_intro 21 Tryz.func29 rfl rfl rfl ?_
  refine walk ?_
  (first | refine ret1 (v := .slice _ _ _) (.inr rfl) rfl rfl ?_ | refine ret1  (.inr rfl) rfl rfl ?_ | refine ret1 (v := .slice _ _ _) (.inl rfl) rfl rfl ?_ | refine ret1  (.inl rfl) rfl rfl ?_)
  exact ⟨rfl, rfl⟩
theorem bAll_nil : Does Tryz.prog B 28 [.pointer none] H fun r H' => H' = H ∧ r = .slice none 0 0 := by
  refine fn_intro 5 Tryz.func28 rfl rfl rfl ?_
  refine walk ?_
  refine s_call rfl (bSince_nil) rfl ?_
  rintro _ _ ⟨e_, rfl⟩
  obtain rfl := e_.symm
  refine walk ?_
  (first | refine ret1 (v := .slice _ _ _) (.inr rfl) rfl rfl ?_ | refine ret1  (.inr rfl) rfl rfl ?_ | refine ret1 (v := .slice _ _ _) (.inl rfl) rfl rfl ?_ | refine ret1  (.inl rfl) rfl rfl ?_)
  exact ⟨rfl, rfl⟩
theorem bCopy_nil : Does Tryz.prog B 24 [.pointer none] H fun r H' => H' = H ∧ r = .pointer none := by
  refine fn_intro 9 Tryz.func24 rfl rfl rfl ?_
  refine walk ?_
  (first | refine ret1 (v := .pointer _) (.inr rfl) rfl rfl ?_ | refine ret1  (.inr rfl) rfl rfl ?_ | refine ret1 (v := .pointer _) (.inl rfl) rfl rfl ?_ | refine ret1  (.inl rfl) rfl rfl ?_)
  exact ⟨rfl, rfl⟩
theorem indexF_nil : Does Tryz.prog B 61 [.slice none 0 0, fv] H fun r H' => H' = H ∧ r = .int .i64 (-1) := by
  refine fn_intro 19 Tryz.func61 rfl rfl rfl ?_
  refine walk ?_
  refine wp_loopR (α := Unit) [4, 5, 8, 9, 10, 11, 12, 13, 14, 15, 16, 17, 18] (fun _ => [(8, .int .i64 0)]) (fun _ => True) (fun _ => 0) () agreed trivial ?_
  rintro _ f _
  simp only [putAll]
  refine walk ?_
  (first | refine ret1 (v := .int _ _) (.inr rfl) rfl rfl ?_ | refine ret1  (.inr rfl) rfl rfl ?_ | refine ret1 (v := .int _ _) (.inl rfl) rfl rfl ?_ | refine ret1  (.inl rfl) rfl rfl ?_)
  exact ⟨rfl, rfl⟩
theorem deleteF_nil : Does Tryz.prog B 62 [.slice none 0 0, fv] H fun r H' => H' = H ∧ r = .slice none 0 0 := by
  refine fn_intro 42 Tryz.func62 rfl rfl rfl ?_
  refine walk ?_
  refine s_call rfl (indexF_nil) rfl ?_
  rintro _ _ ⟨e_, rfl⟩
  obtain rfl := e_.symm
  refine walk ?_
  (first | refine ret1 (v := .slice _ _ _) (.inr rfl) rfl rfl ?_ | refine ret1  (.inr rfl) rfl rfl ?_ | refine ret1 (v := .slice _ _ _) (.inl rfl) rfl rfl ?_ | refine ret1  (.inl rfl) rfl rfl ?_)
  exact ⟨rfl, rfl⟩
theorem some_nil {f : FuncId} {fa fb : Array Value} : Does Tryz.prog B 48 [.pointer none, .func (.func f) fa fb] H fun r H' => H' = H ∧ r = .slice none 0 0 := by
  refine Does.frame0 ?_
  refine fn_intro 9 Tryz.func48 rfl rfl rfl ?_
  refine walk ?_
  refine s_box (v := .func (.func f) fa fb) rfl rfl rfl ?_
  intro b
  refine walk ?_
  refine s_call rfl (bAll_nil) rfl ?_
  rintro _ _ ⟨e_, rfl⟩
  obtain rfl := e_.symm
  refine walk ?_
  refine s_makeFunc (first := []) (cap := [.tmp 3]) (vs := []) (us := [.pointer (some ⟨b, 0, none⟩)]) rfl rfl rfl ?_
  refine walk ?_
  refine s_call rfl (deleteF_nil) rfl ?_
  rintro _ _ ⟨e_, rfl⟩
  obtain rfl := e_.symm
  refine walk ?_
  (first | (apply retRD1 (G := H) (.inr rfl) rfl; (· first | (refine rv_tmp (v := .slice _ _ _) rfl) | exact rv_tmp rfl); (· exact Ent.auto)) | (apply retRD1 (G := H) (.inl rfl) rfl; (· first | (refine rv_tmp (v := .slice _ _ _) rfl) | exact rv_tmp rfl); (· exact Ent.auto)))
  exact ⟨Ent.refl _, rfl⟩
theorem of_nil {ao : Option Addr} {l c : Nat} : Does Tryz.prog B 30 [.pointer none, .slice ao l c] H fun r H' => H' = H ∧ r = .slice none 0 0 := by
  refine Does.frame0 ?_
  refine fn_intro 8 Tryz.func30 rfl rfl rfl ?_
  refine walk ?_
  refine s_box (v := .slice ao l c) rfl rfl rfl ?_
  intro b
  refine walk ?_
  refine s_makeFunc (first := []) (cap := [.tmp 3]) (vs := []) (us := [.pointer (some ⟨b, 0, none⟩)]) rfl rfl rfl ?_
  refine walk ?_
  refine s_call rfl (some_nil) rfl ?_
  rintro _ _ ⟨e_, rfl⟩
  obtain rfl := e_.symm
  refine walk ?_
  (first | (apply retRD1 (G := H) (.inr rfl) rfl; (· first | (refine rv_tmp (v := .slice _ _ _) rfl) | exact rv_tmp rfl); (· exact Ent.auto)) | (apply retRD1 (G := H) (.inl rfl) rfl; (· first | (refine rv_tmp (v := .slice _ _ _) rfl) | exact rv_tmp rfl); (· exact Ent.auto)))
  exact ⟨Ent.refl _, rfl⟩
theorem about_nil : Does Tryz.prog B 32 [.pointer none, .int .i64 i] H fun r H' => H' = H ∧ r = .slice none 0 0 := by
  refine Does.frame0 ?_
  refine fn_intro 8 Tryz.func32 rfl rfl rfl ?_
  refine walk ?_
  refine s_box (v := .int .i64 i) rfl rfl rfl ?_
  intro b
  refine walk ?_
  refine s_makeFunc (first := []) (cap := [.tmp 3]) (vs := []) (us := [.pointer (some ⟨b, 0, none⟩)]) rfl rfl rfl ?_
  refine walk ?_
  refine s_call rfl (some_nil) rfl ?_
  rintro _ _ ⟨e_, rfl⟩
  obtain rfl := e_.symm
  refine walk ?_
  (first | (apply retRD1 (G := H) (.inr rfl) rfl; (· first | (refine rv_tmp (v := .slice _ _ _) rfl) | exact rv_tmp rfl); (· exact Ent.auto)) | (apply retRD1 (G := H) (.inl rfl) rfl; (· first | (refine rv_tmp (v := .slice _ _ _) rfl) | exact rv_tmp rfl); (· exact Ent.auto)))
  exact ⟨Ent.refl _, rfl⟩
theorem none_law (T : Tab B) : Does Tryz.prog B 12 [noteV n, .int .i64 i] H fun r H' => H' = H ∧ r = .bool true := by
  refine Does.frame0 ?_
  refine fn_intro 44 Tryz.func12 rfl rfl rfl ?_
  refine walk ?_
  refine s_box (cs := nv n) rfl rfl rfl ?_
  intro b
  refine walk ?_
  refine s_buildRows [nv n] rfl rfl rfl rfl rfl rfl ?_
  intro b8
  refine walk ?_
  refine s_call rfl (bAdd_nil) rfl ?_
  rintro _ _ ⟨e_, rfl⟩
  obtain rfl := e_.symm
  refine walk ?_
  refine s_call rfl (bLen_nil) rfl ?_
  rintro _ _ ⟨e_, rfl⟩
  obtain rfl := e_.symm
  refine walk ?_
  refine s_call rfl (bAll_nil) rfl ?_
  rintro _ _ ⟨e_, rfl⟩
  obtain rfl := e_.symm
  refine walk ?_
  refine s_call rfl (bSince_nil) rfl ?_
  rintro _ _ ⟨e_, rfl⟩
  obtain rfl := e_.symm
  refine walk ?_
  refine s_buildInts (cs := [.int .i64 i]) rfl rfl rfl rfl rfl ?_
  intro b25
  refine walk ?_
  refine s_call rfl (of_nil) rfl ?_
  rintro _ _ ⟨e_, rfl⟩
  obtain rfl := e_.symm
  refine walk ?_
  refine s_call rfl (about_nil) rfl ?_
  rintro _ _ ⟨e_, rfl⟩
  obtain rfl := e_.symm
  refine walk ?_
  refine s_call rfl (bCopy_nil) rfl ?_
  rintro _ _ ⟨e_, rfl⟩
  obtain rfl := e_.symm
  refine walk ?_
  refine s_call rfl (works_spec T) rfl ?_
  rintro _ _ ⟨e_, rfl⟩
  obtain rfl := e_.symm
  refine walk ?_
  (first | (apply retRD1 (G := H) (.inr rfl) rfl; (· first | (refine rv_tmp (v := .bool _) rfl) | exact rv_tmp rfl); (· exact Ent.auto)) | (apply retRD1 (G := H) (.inl rfl) rfl; (· first | (refine rv_tmp (v := .bool _) rfl) | exact rv_tmp rfl); (· exact Ent.auto)))
  exact ⟨Ent.refl _, rfl⟩
end
end Go.Proofs.YtofgpppnknpblaaGreatDoor
