/- The reference's table: a new one; who has a status. No condition. -/
import Derived.Test.YtnfipmbmknlmpaaTRef3
namespace Go.Proofs.Ytnfipmbmknlmpaa
open Go Go.SL
set_option linter.unusedSimpArgs false
set_option linter.unusedVariables false
set_option maxRecDepth 10000
attribute [local irreducible] WP WPL QSeq QBlk QRet Does Cell Cells Rd Own Ent Aside RV TabX TabAt

section
variable {B : World} {F H : HProp} {p : Nat} {T : Tab}
def upTo (k : Nat) : List Int := (List.range k).map fun (i : Nat) => (i : Int)
theorem upTo_succ (k : Nat) : zs (upTo (k + 1)) = zs (upTo k) ++ [.int .i64 k] := by simp [upTo, zs, List.range_succ]
def zeroes (k : Nat) : List Int := List.replicate k 0
theorem zeroes_succ (k : Nat) : zs (zeroes (k + 1)) = zs (zeroes k) ++ [.int .i64 0] := by simp [zeroes, zs, List.replicate_succ']
theorem refNew_spec {n : Int} {m : Nat} (hm : max 0 (min n 256) = (m : Int)) : Does Try.prog B 10 [.int .i64 n] H fun v H' => ∃ X, Ent H' (X + H) ∧ RefV B X v (Tab.new m) := by
  have hm2 : m ≤ 256 := by omega
  refine fn_intro 31 Try.func10 rfl rfl rfl ?_
  refine walk ?_
  refine s_alloc rfl ?_
  intro b2
  refine walk ?_
  refine s_alloc rfl ?_
  intro b3
  refine walk ?_
  refine wp_loopF (α := Nat × (Option Addr × Nat) × (Option Addr × Nat) × (Option Addr × Nat)) [4, 5, 6, 7, 8, 9, 10, 11, 12, 13, 14, 15, 16, 17, 18, 19, 20, 21, 22, 23, 24, 25, 26, 27, 28, 29] (fun x => [(4, .int .i64 x.1)])
    (fun x => blk b3 [.slice x.2.1.1 x.1 x.2.1.2, .slice x.2.2.1.1 x.1 x.2.2.1.2, .slice x.2.2.2.1 x.1 x.2.2.2.2] 28 + (Own 3 1 (.slice x.2.1.1 x.1 x.2.1.2) x.1 (zs (zeroes x.1)) + (Own 3 1 (.slice x.2.2.1.1 x.1 x.2.2.1.2) x.1 (zs (zeroes x.1)) + (Own 3 1 (.slice x.2.2.2.1 x.1 x.2.2.2.2) x.1 (zs (upTo x.1)) + (blk b2 [.slice none 0 0, .slice none 0 0, .slice none 0 0] 28 + H)))))
    (fun x => x.1 ≤ m) (fun x => m - x.1) (0, (none, 0), (none, 0), (none, 0)) agreed ?_ (Nat.zero_le _) ?_
  · show Ent _ (blk b3 [.slice none 0 0, .slice none 0 0, .slice none 0 0] 28 + (Own 3 1 (.slice none 0 0) 0 [] + (Own 3 1 (.slice none 0 0) 0 [] + (Own 3 1 (.slice none 0 0) 0 [] + _))))
    rw [Own.nil, HProp.emp_add, HProp.emp_add, HProp.emp_add]; exact Ent.refl _
  rintro ⟨k, ⟨v1, k1⟩, ⟨v2, k2⟩, ⟨v3, k3⟩⟩ g hk
  simp only at hk
  simp only [putAll]
  by_cases hlt : k < m
  · have hn1 : (k : Int) < n := by omega
    refine walk ?_
    refine s_buildInts (cs := [.int _ _]) rfl rfl rfl rfl rfl ?_
    intro n1
    refine s_append (v := .slice _ _ _) rfl rfl (Rd.blk0 (m := 1) (e := 3) rfl (by simp [maxLen])) rfl rfl ?_ rfl ?_
    · simp only [maxLen]; omega
    intro v'
    refine WPL.shape ?_
    rintro w1 j1 rfl _ _ _
    refine walk ?_
    refine s_store (v := .slice _ _ _) (cs' := [_, _, _]) rfl rfl rfl (by simp) rfl ?_
    refine walk ?_
    refine s_buildInts (cs := [.int _ _]) rfl rfl rfl rfl rfl ?_
    intro n2
    refine s_append (v := .slice v2 _ _) rfl rfl (Rd.blk0 (m := 1) (e := 3) rfl (by simp [maxLen])) rfl rfl ?_ rfl ?_
    · simp only [maxLen]; omega
    intro v'
    refine WPL.shape ?_
    rintro w2 j2 rfl _ _ _
    refine walk ?_
    refine s_store (v := .slice _ _ _) (cs' := [_, _, _]) rfl rfl rfl (by simp) rfl ?_
    refine walk ?_
    refine s_buildInts (cs := [.int _ _]) rfl rfl rfl rfl rfl ?_
    intro n3
    refine s_append (v := .slice v3 _ _) rfl rfl (Rd.blk0 (m := 1) (e := 3) rfl (by simp [maxLen])) rfl rfl ?_ rfl ?_
    · simp only [maxLen]; omega
    intro v'
    refine WPL.shape ?_
    rintro w3 j3 rfl _ _ _
    refine walk ?_
    refine s_store (v := .slice _ _ _) (cs' := [_, _, _]) rfl rfl rfl (by simp) rfl ?_
    refine walk ?_
    refine ⟨(k + 1, (w1, j1), (w2, j2), (w3, j3)), asided, agreed, ?_, hlt, by simp only; omega⟩
    simp only [zeroes_succ, upTo_succ]
    refine Ent.step (A := blk b3 [.slice w1 (k + 1) j1, .slice w2 (k + 1) j2, .slice w3 (k + 1) j3] 28) (Ent.refl _) ?_
    refine Ent.step (A := Own 3 1 (.slice w1 (k + 1) j1) (k + 1) (zs (zeroes k) ++ [.int .i64 0])) (Ent.refl _) ?_
    refine Ent.step (A := Own 3 1 (.slice w2 (k + 1) j2) (k + 1) (zs (zeroes k) ++ [.int .i64 0])) (Ent.refl _) ?_
    refine Ent.step (A := Own 3 1 (.slice w3 (k + 1) j3) (k + 1) (zs (upTo k) ++ [.int .i64 k])) (Ent.refl _) ?_
    exact InH.ent
  · have : m = k := by omega
    subst this
    have q1 : (Tab.new m).all.length = m := by simp [Tab.new]
    have q2 : (Tab.new m).st = zeroes m := by simp [Tab.new, Tab.st, zeroes]
    have q3 : (Tab.new m).bn = zeroes m := by simp [Tab.new, Tab.bn, zeroes]
    have q4 : (Tab.new m).row.length = m := by simp [Tab.new]
    refine WP.split (Own 3 1 (.slice v1 m k1) m (zs (zeroes m))) (WP.rd fun rd1 => ?_)
    refine WP.split (Own 3 1 (.slice v2 m k2) m (zs (zeroes m))) (WP.rd fun rd2 => ?_)
    refine WP.split (Own 3 1 (.slice v3 m k3) m (zs (upTo m))) (WP.rd fun rd3 => ?_)
    by_cases hn1 : (m : Int) < n
    · refine walk ?_
      refine s_storeA (vs := [.slice _ _ _, .slice _ _ _, .slice _ _ _]) rfl rfl rfl rfl (Nat.le_refl _) rfl ?_
      refine walk ?_
      refine retR1 (.inr rfl) rfl (rv_cellA rfl Cells.blk0 rfl) ⟨Own 3 1 (.slice v1 m k1) m (zs (zeroes m)) + (Own 3 1 (.slice v2 m k2) m (zs (zeroes m)) + Own 3 1 (.slice v3 m k3) m (zs (upTo m))), ?_, ?_⟩
      · refine Ent.trans ?_ (Ent.ac (show Own 3 1 (.slice v1 m k1) m (zs (zeroes m)) + (Own 3 1 (.slice v2 m k2) m (zs (zeroes m)) + (Own 3 1 (.slice v3 m k3) m (zs (upTo m)) + H)) = _ by ac_rfl))
        refine Ent.step (A := Own 3 1 (.slice v1 m k1) m (zs (zeroes m))) (Ent.refl _) ?_
        refine Ent.step (A := Own 3 1 (.slice v2 m k2) m (zs (zeroes m))) (Ent.refl _) ?_
        refine Ent.step (A := Own 3 1 (.slice v3 m k3) m (zs (upTo m))) (Ent.refl _) ?_
        exact InH.ent
      · refine ⟨.slice v1 m k1, .slice v2 m k2, .slice v3 m k3, rfl, ?_, ?_, ?_⟩
        · rw [q1, q2]; exact rd1.ent InH.ent
        · rw [q1, q3]; exact rd2.ent InH.ent
        · rw [q4]; exact rd3.ent InH.ent
    · refine walk ?_
      refine s_storeA (vs := [.slice _ _ _, .slice _ _ _, .slice _ _ _]) rfl rfl rfl rfl (Nat.le_refl _) rfl ?_
      refine walk ?_
      refine retR1 (.inr rfl) rfl (rv_cellA rfl Cells.blk0 rfl) ⟨Own 3 1 (.slice v1 m k1) m (zs (zeroes m)) + (Own 3 1 (.slice v2 m k2) m (zs (zeroes m)) + Own 3 1 (.slice v3 m k3) m (zs (upTo m))), ?_, ?_⟩
      · refine Ent.trans ?_ (Ent.ac (show Own 3 1 (.slice v1 m k1) m (zs (zeroes m)) + (Own 3 1 (.slice v2 m k2) m (zs (zeroes m)) + (Own 3 1 (.slice v3 m k3) m (zs (upTo m)) + H)) = _ by ac_rfl))
        refine Ent.step (A := Own 3 1 (.slice v1 m k1) m (zs (zeroes m))) (Ent.refl _) ?_
        refine Ent.step (A := Own 3 1 (.slice v2 m k2) m (zs (zeroes m))) (Ent.refl _) ?_
        refine Ent.step (A := Own 3 1 (.slice v3 m k3) m (zs (upTo m))) (Ent.refl _) ?_
        exact InH.ent
      · refine ⟨.slice v1 m k1, .slice v2 m k2, .slice v3 m k3, rfl, ?_, ?_, ?_⟩
        · rw [q1, q2]; exact rd1.ent InH.ent
        · rw [q1, q3]; exact rd2.ent InH.ent
        · rw [q4]; exact rd3.ent InH.ent
end
end Go.Proofs.Ytnfipmbmknlmpaa
