/- The reference's table: a value of three rows. No condition. -/
import Derived.Test.YtnfipmbmknlmpaaTTab8
namespace Go.Proofs.Ytnfipmbmknlmpaa
open Go Go.SL
set_option linter.unusedSimpArgs false
set_option linter.unusedVariables false
set_option maxRecDepth 10000
attribute [local irreducible] WP WPL QSeq QBlk QRet Does Cell Cells Rd Own Ent Aside RV TabX TabAt

def Tab.st (T : Tab) : List Int := T.all.map (·.1)
def Tab.bn (T : Tab) : List Int := T.all.map (·.2)
theorem Own.nil_add (H : HProp) : H = Own 3 1 (.slice none 0 0) 0 [] + H := by rw [Own.nil, HProp.emp_add]
/-- A value that reads as a table. -/
def RefV (B : World) (H : HProp) (r : Value) (T : Tab) : Prop :=
  ∃ s1 s2 s3, r = .agg [s1, s2, s3].toArray ∧ Rd B H 1 s1 T.all.length (zs T.st) ∧ Rd B H 1 s2 T.all.length (zs T.bn) ∧ Rd B H 1 s3 T.row.length (zs T.row)
theorem RefV.ent {B : World} {H G : HProp} {r : Value} {T : Tab} (h : RefV B G r T) (e : Ent H G) : RefV B H r T :=
  let ⟨s1, s2, s3, h0, h1, h2, h3⟩ := h
  ⟨s1, s2, s3, h0, h1.ent e, h2.ent e, h3.ent e⟩
section
variable {B : World} {F H : HProp} {p : Nat} {T : Tab}

theorem copied_spec {r : Value} (hr : RefV B H r T) (h1 : T.all.length ≤ 1000000) (h2 : T.row.length ≤ 1000000) : Does Try.prog B 27 [r] H fun r' H' => ∃ a1 c1 a2 c2 a3 c3,
    r' = .agg [.slice a1 T.all.length c1, .slice a2 T.all.length c2, .slice a3 T.row.length c3].toArray ∧
    Ent H' (Own 3 1 (.slice a1 T.all.length c1) T.all.length (zs T.st) + (Own 3 1 (.slice a2 T.all.length c2) T.all.length (zs T.bn) + (Own 3 1 (.slice a3 T.row.length c3) T.row.length (zs T.row) + H))) := by
  obtain ⟨s1, s2, s3, rfl, r1, r2, r3⟩ := hr
  have r1' := r1
  have r2' := r2
  have r3' := r3
  unfold Rd at r1' r2' r3'
  obtain ⟨o1, k1, rfl, _⟩ := r1'
  obtain ⟨o2, k2, rfl, _⟩ := r2'
  obtain ⟨o3, k3, rfl, _⟩ := r3'
  refine fn_intro 23 Try.func27 rfl rfl rfl ?_
  refine walk ?_
  refine s_box rfl rfl rfl ?_
  intro b1
  refine s_alloc rfl ?_
  intro b2
  refine walk ?_
  refine s_alloc rfl ?_
  intro b3
  refine walk ?_
  refine WPL.ent (Ent.ac (Own.nil_add _)) ?_
  refine s_append (v := .slice _ _ _) rfl rfl r1.sub (zs_one _) rfl ?_ rfl ?_
  · simp only [maxLen]; omega
  intro v'
  simp only [Nat.zero_add, List.nil_append]
  refine WPL.shape ?_
  rintro a1 c1 rfl _ _ _
  refine walk ?_
  refine s_store (v := .slice _ _ _) (cs' := [_, _, _]) rfl rfl rfl (by simp) rfl ?_
  refine walk ?_
  refine WPL.ent (Ent.ac (Own.nil_add _)) ?_
  refine s_append (v := .slice _ _ _) rfl rfl r2.sub (zs_one _) rfl ?_ rfl ?_
  · simp only [maxLen]; omega
  intro v'
  simp only [Nat.zero_add, List.nil_append]
  refine WPL.shape ?_
  rintro a2 c2 rfl _ _ _
  refine walk ?_
  refine s_store (v := .slice _ _ _) (cs' := [_, _, _]) rfl rfl rfl (by simp) rfl ?_
  refine walk ?_
  refine WPL.ent (Ent.ac (Own.nil_add _)) ?_
  refine s_append (v := .slice _ _ _) rfl rfl r3.sub (zs_one _) rfl ?_ rfl ?_
  · simp only [maxLen]; omega
  intro v'
  simp only [Nat.zero_add, List.nil_append]
  refine WPL.shape ?_
  rintro a3 c3 rfl _ _ _
  refine walk ?_
  refine s_store (v := .slice _ _ _) (cs' := [_, _, _]) rfl rfl rfl (by simp) rfl ?_
  refine walk ?_
  refine s_storeA (vs := [.slice a1 _ c1, .slice a2 _ c2, .slice a3 _ c3]) rfl rfl rfl rfl (Nat.le_refl _) rfl ?_
  refine walk ?_
  refine retR1 (.inr rfl) rfl (rv_cellA rfl Cells.blk0 rfl) ⟨a1, c1, a2, c2, a3, c3, rfl, ?_⟩
  refine Ent.step (A := Own 3 1 (.slice a1 T.all.length c1) T.all.length (zs T.st)) (Ent.refl _) ?_
  refine Ent.step (A := Own 3 1 (.slice a2 T.all.length c2) T.all.length (zs T.bn)) (Ent.refl _) ?_
  refine Ent.step (A := Own 3 1 (.slice a3 T.row.length c3) T.row.length (zs T.row)) (Ent.refl _) ?_
  exact InH.ent

theorem refMay_spec {a x : Int} : Does Try.prog B 28 [.int .i64 a, .int .i64 x] H fun r H' => H = H' ∧ r = .bool (may a x) := by
  refine fn_intro 38 Try.func28 rfl rfl rfl ?_
  by_cases h1 : a = 1
  · subst h1
    by_cases h : x = 2
    · refine walk ?_
      exact ret1 (v := .bool _) (.inr rfl) rfl rfl ⟨rfl, by simp [may, mayRows, h]⟩
    · refine walk ?_
      exact ret1 (v := .bool _) (.inr rfl) rfl rfl ⟨rfl, by simp [may, mayRows, h]⟩
  by_cases h2 : a = 2
  · subst h2
    by_cases x0 : x = 0
    · refine walk ?_
      exact ret1 (v := .bool _) (.inr rfl) rfl rfl ⟨rfl, by simp [may, mayRows, x0]⟩
    by_cases x1 : x = 1
    · refine walk ?_
      exact ret1 (v := .bool _) (.inr rfl) rfl rfl ⟨rfl, by simp [may, mayRows, x1]⟩
    by_cases x3 : x = 3
    · refine walk ?_
      exact ret1 (v := .bool _) (.inr rfl) rfl rfl ⟨rfl, by simp [may, mayRows, x3]⟩
    by_cases x4 : x = 4
    · refine walk ?_
      exact ret1 (v := .bool _) (.inr rfl) rfl rfl ⟨rfl, by simp [may, mayRows, x4]⟩
    · refine walk ?_
      exact ret1 (v := .bool _) (.inr rfl) rfl rfl ⟨rfl, by simp [may, mayRows, x0, x1, x3, x4]⟩
  by_cases h3 : a = 3
  · subst h3
    by_cases h : x = 1
    · refine walk ?_
      exact ret1 (v := .bool _) (.inr rfl) rfl rfl ⟨rfl, by simp [may, mayRows, h]⟩
    · refine walk ?_
      exact ret1 (v := .bool _) (.inr rfl) rfl rfl ⟨rfl, by simp [may, mayRows, h]⟩
  by_cases h4 : a = 4
  · subst h4
    by_cases x1 : x = 1
    · refine walk ?_
      exact ret1 (v := .bool _) (.inr rfl) rfl rfl ⟨rfl, by simp [may, mayRows, x1]⟩
    by_cases x2 : x = 2
    · refine walk ?_
      exact ret1 (v := .bool _) (.inr rfl) rfl rfl ⟨rfl, by simp [may, mayRows, x2]⟩
    · refine walk ?_
      exact ret1 (v := .bool _) (.inr rfl) rfl rfl ⟨rfl, by simp [may, mayRows, x1, x2]⟩
  · refine walk ?_
    exact ret1 (v := .bool _) (.inr rfl) rfl rfl ⟨rfl, by simp [may, mayRows, h1, h2, h3, h4]⟩
end
end Go.Proofs.Ytnfipmbmknlmpaa
