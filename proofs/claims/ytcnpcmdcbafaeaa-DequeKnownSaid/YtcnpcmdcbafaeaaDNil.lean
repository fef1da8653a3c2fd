/- A deque that is not there; the laws of any input, as contracts. No condition. -/
import Derived.Test.YtcnpcmdcbafaeaaDLaw3
import Derived.Test.YtcnpcmdcbafaeaaDLaw4
import Derived.Test.YtcnpcmdcbafaeaaDLaw5
namespace Go.Proofs.Ytcnpcmdcbafaeaa
open Go Go.SL
set_option linter.unusedSimpArgs false
set_option linter.unusedVariables false
set_option maxRecDepth 10000
set_option maxHeartbeats 1000000
theorem nobody_sp {B : World} {F : HProp} {s : Value} {n : Int} {l : List Int} (hn : 0 ≤ n ∧ n ≤ 255) (hs : Rd B F 1 s l.length (zs l)) : Does Try.prog B 3 [.int .u8 n, s] F fun r H' => Ent H' F ∧ r = .bool true := by
  by_cases h : l.length ≤ 150
  · exact nobody_main hn hs h
  · exact nobody_early hs (by omega)
theorem ahead_sp {B : World} {F : HProp} {s : Value} {n : Int} {l : List Int} (hn : 0 ≤ n ∧ n ≤ 255) (hs : Rd B F 1 s l.length (zs l)) : Does Try.prog B 4 [.int .u8 n, s] F fun r H' => Ent H' F ∧ r = .bool true := by
  by_cases h : l.length ≤ 150
  · exact ahead_main hn hs h
  · exact ahead_early hs (by omega)
attribute [local irreducible] WP WPL QSeq QBlk QRet Does Cell Cells Rd Mine Ent Aside RV DqX DqAt Yield
section
variable {B : World} {F H G : HProp} {g : Int}
theorem iter_nil {bn bd : Nat} : Gives B 51 [ptr bn, ptr bd] (blk bn [.int .i64 0] 3 + blk bd [.pointer none] 24) [] := by
  intro l J Jx hy
  refine fn_intro 36 Try.func51 rfl rfl rfl ?_
  refine walk ?_
  refine wp_loopR (α := Unit) [4, 6, 7, 8, 9, 10, 11, 12, 13, 14, 15, 16, 17, 18, 19, 20, 21, 22, 23, 24, 25, 26, 27, 28, 29, 30, 31, 32, 33, 34, 35] (fun _ => [(4, .int .i64 0)]) (fun _ => True) (fun _ => 0) () agreed trivial ?_
  rintro _ g _
  simp only [putAll]
  refine walk ?_
  refine s_call rfl (dLen_nil) rfl ?_
  rintro _ _ ⟨e_, rfl⟩
  obtain rfl := e_.symm
  refine walk ?_
  exact ret0 (.inl rfl) rfl (.inl rfl)
theorem from_nil {n : Int} : Does Try.prog B 31 [.pointer none, .int .i64 n] H fun r H' => ∃ bn bd, r = .func (.func 51) #[] #[ptr bn, ptr bd] ∧ H' = blk bn [.int .i64 n] 3 + (blk bd [.pointer none] 24 + H) := by
  refine fn_intro 6 Try.func31 rfl rfl rfl ?_
  refine walk ?_
  refine s_box (cs := [.pointer none]) rfl rfl rfl ?_
  intro bd
  refine s_box (cs := [.int .i64 n]) rfl rfl rfl ?_
  intro bn
  refine walk ?_
  refine s_makeFunc (first := []) (cap := [.tmp 3, .tmp 2]) (vs := []) (us := [ptr bn, ptr bd]) rfl rfl rfl ?_
  refine walk ?_
  exact ret1 (v := .func _ _ _) (.inr rfl) rfl rfl ⟨bn, bd, rfl, rfl⟩
theorem dAll_nil : Does Try.prog B 14 [.pointer none] H fun r H' => H' = Mine 3 1 r 0 (zs []) + H := by
  refine fn_intro 6 Try.func14 rfl rfl rfl ?_
  refine walk ?_
  refine s_call rfl (from_nil) rfl ?_
  rintro _ _ ⟨bn, bd, rfl, rfl⟩
  refine walk ?_
  have e := collect_spec (F := H) (by simp) (iter_nil (B := B) (bn := bn) (bd := bd))
  simp only [HProp.add_assoc] at e
  refine s_call rfl e rfl ?_
  rintro v _ rfl
  refine walk ?_
  exact QRet.ent (show Ent _ (Mine 3 1 v 0 (zs []) + H) from Ent.auto) (ret1 (.inr rfl) rfl rfl rfl)
theorem dAhead_nil : Does Try.prog B 17 [.pointer none, .int .i64 g] H fun r H' => H' = H ∧ r = .int .i64 (-1) := by
  refine fn_intro 16 Try.func17 rfl rfl rfl ?_
  refine walk ?_
  refine s_box (cs := [.int .i64 g]) rfl rfl rfl ?_
  intro b3
  refine s_alloc rfl ?_
  intro b4
  refine walk ?_
  refine s_alloc rfl ?_
  intro b5
  refine walk ?_
  refine s_store (v := .int _ _) (cs' := [.int .i64 0]) rfl rfl rfl (by simp) rfl ?_
  refine walk ?_
  refine s_call rfl (from_nil) rfl ?_
  rintro _ _ ⟨bn, bd, rfl, rfl⟩
  refine walk ?_
  refine wp_rangeL (first := []) (cap := [ptr bn, ptr bd]) rfl rfl ?_
  intro l D LR round
  have hg := iter_nil (B := B) (bn := bn) (bd := bd)
  have key := hg l (fun _ => blk b5 [.int .i64 0] 3 + (blk b3 [.int .i64 g] 3 + (blk b4 [.int .i64 0] 3 + (LR .ready none + (obj D (.deferred (some [])) + H))))) (fun _ => emp) ?_
  · refine Does.ent ?_ (key.mono ?_)
    · exact Ent.auto
    · intro _ H' hh
      refine .inl ⟨blk b4 [.int .i64 0] 3 + (obj D (.deferred (some [])) + H), ?_, ?_⟩
      · rcases hh with rfl | ⟨pre, y, post, hL, rfl⟩
        · exact Ent.auto
        · simp at hL
      · refine walk ?_
        refine s_store (v := .int _ _) (cs' := [.int .i64 (-1)]) rfl rfl rfl (by simp) rfl ?_
        refine walk ?_
        exact retMR1 (G := blk b4 [.int .i64 (-1)] 3 + H) (.inr rfl) rfl rfl Ent.auto (rv_cell (v := .int .i64 (-1)) rfl (Cell.blk rfl)) Ent.auto ⟨rfl, rfl⟩
  · intro pre y post hxs
    simp at hxs
end
end Go.Proofs.Ytcnpcmdcbafaeaa
