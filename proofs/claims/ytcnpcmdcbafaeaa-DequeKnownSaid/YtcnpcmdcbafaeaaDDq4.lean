/- How many are ahead of a number in a deque. No condition. -/
import Derived.Test.YtcnpcmdcbafaeaaDDq3
namespace Go.Proofs.Ytcnpcmdcbafaeaa
open Go Go.SL
set_option linter.unusedSimpArgs false
set_option linter.unusedVariables false
set_option maxRecDepth 10000
set_option maxHeartbeats 1000000
attribute [local irreducible] WP WPL QSeq QBlk QRet Does Cell Cells Rd Mine Ent Aside RV DqX DqAt Yield

/-- The first place of a number, counted from k on; -1: none. -/
def aheadFrom (g : Int) : List Int → Int → Int
  | [], _ => -1
  | y :: ys, k => if y = g then k else aheadFrom g ys (k + 1)
def ahead (g : Int) (l : List Int) : Int := aheadFrom g l 0
theorem aheadFrom_none {g : Int} : ∀ (l : List Int) (k : Int), g ∉ l → aheadFrom g l k = -1
  | [], _, _ => rfl
  | y :: ys, k, h => by
    simp only [List.mem_cons, not_or] at h
    unfold aheadFrom
    rw [if_neg (fun e => h.1 e.symm)]
    exact aheadFrom_none ys _ h.2
theorem aheadFrom_at {g : Int} : ∀ (pre post : List Int) (k : Int), g ∉ pre → aheadFrom g (pre ++ g :: post) k = k + pre.length
  | [], post, k, _ => by simp [aheadFrom]
  | y :: ys, post, k, h => by
    simp only [List.mem_cons, not_or] at h
    show (if y = g then k else aheadFrom g (ys ++ g :: post) (k + 1)) = _
    rw [if_neg (fun e => h.1 e.symm), aheadFrom_at ys post _ h.2]
    simp only [List.length_cons]; omega
section
variable {B : World} {F H G : HProp} {p q : Nat} {b : Bk} {L S : List Int} {h t g : Int} {x : DqS}
theorem aheadX (hf : DqF q L h t S) : Does Try.prog B 17 [ptr p, .int .i64 g] (DqX p q h t b S + F) fun r H' => H' = DqX p q h t b S + F ∧ r = .int .i64 (ahead g L) := by
  have hq := hf.q2
  have hfit := hf.fits
  refine fn_intro 16 Try.func17 rfl rfl rfl ?_
  refine walk ?_
  refine s_box (cs := [.int .i64 g]) rfl rfl rfl ?_
  intro b3
  refine s_alloc rfl ?_
  intro b4
  refine walk ?_
  refine s_alloc rfl ?_
  intro b5
  refine walk ?_
  refine s_store (v := .int _ _) (cs' := [.int .i64 0]) rfl rfl rfl (by simp) rfl ?_
  refine walk ?_
  refine s_call rfl (from_spec) rfl ?_
  rintro _ _ ⟨bn, bd, rfl, rfl⟩
  refine walk ?_
  refine wp_rangeL (first := []) (cap := [ptr bn, ptr bd]) rfl rfl ?_
  intro l D LR round
  have hg := iter_gives (B := B) (p := p) (b := b) (bn := bn) (bd := bd) hf (Nat.zero_le _)
  rw [List.drop_zero] at hg
  have key := hg l (fun pre => fact (g ∉ pre) (blk b5 [.int .i64 pre.length] 3 + (blk b3 [.int .i64 g] 3 + (blk b4 [.int .i64 0] 3 + (LR .ready none + (obj D (.deferred (some [])) + F))))))
    (fun pre => fact (∃ pre', pre = pre' ++ [g] ∧ g ∉ pre') (blk b4 [.int .i64 ((pre.length : Int) - 1)] 3 + (LR .done (some .ret) + (obj D (.deferred (some [])) + F)))) ?_
  · refine Does.ent ?_ (key.mono ?_)
    · refine Ent.factr (by simp) ?_
      exact Ent.auto
    · intro _ H' hh
      by_cases hin : g ∈ L
      · refine .inr (.inl ⟨blk b4 [.int .i64 (ahead g L)] 3 + (obj D (.deferred (some [])) + (DqX p q h t b S + F)), ?_, ?_⟩)
        · rcases hh with rfl | ⟨pre, y, post, hL, rfl⟩
          · exact Ent.factl fun h => absurd hin h
          · refine Ent.factl fun ⟨pre', e, hn⟩ => ?_
            obtain ⟨rfl, e2⟩ := List.append_inj' e rfl
            have e2 : y = g := (List.cons.inj e2).1
            subst e2
            have ea : ahead y L = pre.length := by unfold ahead; rw [hL, aheadFrom_at pre post 0 hn]; omega
            rw [ea, len_push, show (((pre.length + 1 : Nat) : Int) - 1) = (pre.length : Int) by omega]
            exact Ent.auto
        · refine walk ?_
          exact retMR1 (G := blk b4 [.int .i64 (ahead g L)] 3 + (DqX p q h t b S + F)) (.inr rfl) rfl rfl Ent.auto (rv_cell (v := .int .i64 (ahead g L)) rfl (Cell.blk rfl)) Ent.auto ⟨rfl, rfl⟩
      · refine .inl ⟨blk b4 [.int .i64 0] 3 + (obj D (.deferred (some [])) + (DqX p q h t b S + F)), ?_, ?_⟩
        · rcases hh with rfl | ⟨pre, y, post, hL, rfl⟩
          · exact Ent.factl fun _ => Ent.auto
          · refine Ent.factl fun ⟨pre', e, hn⟩ => ?_
            obtain ⟨rfl, e2⟩ := List.append_inj' e rfl
            have e2 : y = g := (List.cons.inj e2).1
            subst e2
            exact absurd (by rw [hL]; simp) hin
        · refine walk ?_
          refine s_store (v := .int _ _) (cs' := [.int .i64 (-1)]) rfl rfl rfl (by simp) rfl ?_
          refine walk ?_
          refine retMR1 (G := blk b4 [.int .i64 (-1)] 3 + (DqX p q h t b S + F)) (.inr rfl) rfl rfl Ent.auto (rv_cell (v := .int .i64 (-1)) rfl (Cell.blk rfl)) Ent.auto ⟨rfl, ?_⟩
          unfold ahead
          rw [aheadFrom_none L 0 hin]
  · intro pre y post hxs
    have hpl : pre.length < L.length := by rw [hxs]; simp
    refine Yield.factr fun hng => ?_
    refine Yield.ent (Ent.ac (show _ = LR .ready none + (blk b5 [.int .i64 pre.length] 3 + (blk b3 [.int .i64 g] 3 + (blk b4 [.int .i64 0] 3 + (obj D (.deferred (some [])) + (blk bn [.int .i64 (0 : Nat)] 3 + (blk bd [ptr p] 24 + DqX p q h t b S) + F))))) by ac_rfl)) ?_
    refine round _ _ _ ?_
    refine walk ?_
    refine ⟨_, Ent.refl _, ?_⟩
    by_cases hy : y = g
    · refine walk ?_
      refine s_store (v := .int _ _) (cs' := [.int .i64 pre.length]) rfl rfl rfl (by simp) rfl ?_
      refine walk ?_
      refine ⟨blk b4 [.int .i64 pre.length] 3 + (obj D (.deferred (some [])) + (blk bn [.int .i64 (0 : Nat)] 3 + (blk bd [ptr p] 24 + DqX p q h t b S) + F)), Ent.auto, false, rfl, ?_⟩
      rw [if_neg (by simp)]
      refine Ent.factr ⟨pre, by rw [hy], hng⟩ ?_
      rw [len_push, show (((pre.length + 1 : Nat) : Int) - 1) = (pre.length : Int) by omega]
      exact Ent.auto
    · refine walk ?_
      refine s_store (v := .int _ _) (cs' := [.int .i64 ((pre.length : Int) + 1)]) rfl rfl rfl (by simp) rfl ?_
      refine walk ?_
      refine ⟨blk b5 [.int .i64 ((pre.length : Int) + 1)] 3 + (blk b3 [.int .i64 g] 3 + (blk b4 [.int .i64 0] 3 + (obj D (.deferred (some [])) + (blk bn [.int .i64 (0 : Nat)] 3 + (blk bd [ptr p] 24 + DqX p q h t b S) + F)))), Ent.auto, true, rfl, ?_⟩
      rw [if_pos rfl]
      refine Ent.factr (by simp [hng]; exact fun e => hy e.symm) ?_
      rw [len_push, show (((pre.length + 1 : Nat) : Int)) = (pre.length : Int) + 1 by omega]
      exact Ent.auto
theorem dAhead [i : HasAt DqAt H p x F] : Does Try.prog B 17 [ptr p, .int .i64 g] H fun r H' => H' = H ∧ r = .int .i64 (ahead g x.l) := Does.dqRead fun _ _ _ _ hf => aheadX hf
end
end Go.Proofs.Ytcnpcmdcbafaeaa
