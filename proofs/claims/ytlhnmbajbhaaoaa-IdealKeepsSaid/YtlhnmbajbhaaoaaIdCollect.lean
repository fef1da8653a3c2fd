/- What a loop over a function gives, collected. No condition. -/
import Derived.Test.YtlhnmbajbhaaoaaIdInst
import Derived.Test.YtlhnmbajbhaaoaaSL3
namespace Go.Proofs.Ytlhnmbajbhaaoaa
open Go Go.SL
set_option linter.unusedSimpArgs false
set_option linter.unusedVariables false
set_option maxRecDepth 10000
set_option maxHeartbeats 1000000
attribute [local irreducible] WP WPL QSeq QBlk QRet Does Cell Cells Rd Mine Ent Aside RV Yield
section
variable {B : World} {F H G : HProp}
/-- What a function to loop over gives, in whatever memory beside its own. -/
def Gives (B : World) (gf : FuncId) (cap : List Value) (St : HProp) (xs : List Int) : Prop :=
  ∀ (l : Nat) (J Jx : List Int → HProp), (∀ pre y post, xs = pre ++ y :: post → Yield Try.prog B l [.int .i64 y] (St + J pre) fun r H' => ∃ bo : Bool, r = .bool bo ∧ Ent H' (St + (if bo then J (pre ++ [y]) else Jx (pre ++ [y])))) →
    Does Try.prog B gf ([.func (.yield l) #[] #[]] ++ cap) (St + J []) fun _ H' => H' = St + J xs ∨ ∃ pre y post, xs = pre ++ y :: post ∧ H' = St + Jx (pre ++ [y])
theorem appendSeq_spec {gf : FuncId} {cap : List Value} [Callable Try.prog gf] {St : HProp} {xs : List Int} (hx : xs.length ≤ 1000000) (hg : Gives B gf cap St xs) :
    Does Try.prog B 95 [.slice none 0 0, .func (.func gf) #[] cap.toArray] (St + F) fun r H' => H' = Mine 3 1 r xs.length (zs xs) + (St + F) := by
  refine fn_intro 13 Try.func95 rfl rfl rfl ?_
  refine walk ?_
  refine s_box (cs := [.slice none 0 0]) rfl rfl rfl ?_
  intro b2
  refine walk ?_
  refine wp_rangeL (first := []) (cap := cap) rfl rfl ?_
  intro l D LR round
  have key := hg l (fun pre => ex fun v => blk b2 [v] 28 + (Mine 3 1 v pre.length (zs pre) + (LR .ready none + (obj D (.deferred (some [])) + F)))) (fun _ => fact False emp) ?_
  · refine Does.ent ?_ (key.mono ?_)
    · refine Ent.exr (.slice none 0 0) ?_
      show Ent _ (St + (blk b2 [.slice none 0 0] 28 + (Mine 3 1 (.slice none 0 0) 0 [] + (LR .ready none + (obj D (.deferred (some [])) + F)))))
      rw [Mine.nil]
      exact Ent.auto
    · intro _ H' hh
      refine .inl ⟨(ex fun v => blk b2 [v] 28 + Mine 3 1 v xs.length (zs xs)) + (obj D (.deferred (some [])) + (St + F)), ?_, ?_⟩
      · rcases hh with rfl | ⟨pre, y, post, _, rfl⟩
        · refine Ent.exl' fun v => ?_
          refine Ent.trans (Ent.ac (show _ = (blk b2 [v] 28 + Mine 3 1 v xs.length (zs xs)) + (LR .ready none + (obj D (.deferred (some [])) + (St + F))) by ac_rfl)) ?_
          exact ((Ent.ex_in (G := fun v => blk b2 [v] 28 + Mine 3 1 v xs.length (zs xs)) v).frame_right _).trans (Ent.ac (by ac_rfl))
        · exact Ent.absurd
      · refine walk ?_
        refine WPL.ex fun v => ?_
        refine s_load (v := v) rfl (Cell.blk rfl) rfl ?_
        refine walk ?_
        exact retM1 (G := Mine 3 1 v xs.length (zs xs) + (St + F)) (.inr rfl) rfl rfl rfl Ent.auto rfl
  · intro pre y post hxs
    have hpl : pre.length ≤ 1000000 := by rw [hxs] at hx; simp at hx; omega
    refine Yield.exr fun v => ?_
    refine Yield.ent (Ent.ac (show _ = LR .ready none + (blk b2 [v] 28 + (Mine 3 1 v pre.length (zs pre) + (obj D (.deferred (some [])) + (St + F)))) by ac_rfl)) ?_
    refine round _ _ _ ?_
    refine walk ?_
    refine ⟨_, Ent.refl _, ?_⟩
    refine walk ?_
    refine s_load (v := v) rfl (Cell.blk rfl) rfl ?_
    refine walk ?_
    refine s_buildInts (cs := [.int .i64 y]) rfl rfl rfl rfl rfl ?_
    intro bb
    refine s_append (v := v) rfl rfl (Rd.blk0 (m := 1) (e := 3) rfl (by simp [maxLen])) rfl rfl ?_ rfl ?_
    · simp only [maxLen]; omega
    intro v'
    refine WPL.shape ?_
    rintro ao cap rfl _ _ _
    refine s_store (v := .slice _ _ _) (cs' := [.slice ao (pre.length + 1) cap]) rfl rfl rfl (by simp) rfl ?_
    refine walk ?_
    refine ⟨blk b2 [.slice ao (pre.length + 1) cap] 28 + (Mine 3 1 (.slice ao (pre.length + 1) cap) (pre.length + 1) (zs pre ++ [.int .i64 y]) + (obj D (.deferred (some [])) + (St + F))), Ent.auto, true, rfl, ?_⟩
    rw [if_pos rfl]
    refine Ent.exr (.slice ao (pre.length + 1) cap) ?_
    simp only [zs_push, len_push]
    exact Ent.auto
theorem collect_spec {gf : FuncId} {cap : List Value} [Callable Try.prog gf] {St : HProp} {xs : List Int} (hx : xs.length ≤ 1000000) (hg : Gives B gf cap St xs) :
    Does Try.prog B 87 [.func (.func gf) #[] cap.toArray] (St + F) fun r H' => H' = Mine 3 1 r xs.length (zs xs) + (St + F) := by
  refine fn_intro 5 Try.func87 rfl rfl rfl ?_
  refine walk ?_
  refine s_call rfl (appendSeq_spec hx hg) rfl ?_
  rintro _ _ rfl
  refine walk ?_
  exact ret1 (.inr rfl) rfl rfl rfl
end
end Go.Proofs.Ytlhnmbajbhaaoaa
