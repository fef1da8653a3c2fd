/- The reference's table: setting. No condition. -/
import Derived.Test.YtnfipmbmknlmpaaTRef2
namespace Go.Proofs.Ytnfipmbmknlmpaa
open Go Go.SL
set_option linter.unusedSimpArgs false
set_option linter.unusedVariables false
set_option maxRecDepth 10000
attribute [local irreducible] WP WPL QSeq QBlk QRet Does Cell Cells Rd Own Ent Aside RV TabX TabAt

section
variable {B : World} {F H : HProp} {p : Nat} {T : Tab}
theorem bn_same {g : Nat} (hg : g < T.all.length) : T.bn.set g T.all[g].2 = T.bn := by
  have t2 : T.bn.length = T.all.length := by simp [Tab.bn]
  have : T.all[g].2 = T.bn[g]'(by omega) := by simp [Tab.bn]
  rw [this]; exact set_same _ _ _
theorem refSet_out {r : Value} {g x : Int} (hr : RefV B H r T) (hg : ¬ (0 ≤ g ∧ g < T.all.length)) : Does Try.prog B 13 [r, .int .i64 g, .int .i64 x] H fun v H' => Ent H' H ∧ v = .tuple #[r, .int .i64 5] := by
  obtain ⟨s1, s2, s3, rfl, r1, r2, r3⟩ := hr
  unfold Rd at r1 r2 r3
  obtain ⟨o1, k1, rfl, _⟩ := r1
  obtain ⟨o2, k2, rfl, _⟩ := r2
  obtain ⟨o3, k3, rfl, _⟩ := r3
  refine fn_intro 46 Try.func13 rfl rfl rfl ?_
  refine walk ?_
  refine s_box rfl rfl rfl ?_
  intro b1
  refine s_alloc rfl ?_
  intro b2
  by_cases h0 : g < 0
  · refine walk ?_
    refine s_storeA (vs := [.slice _ _ _, .slice _ _ _, .slice _ _ _]) rfl rfl rfl rfl (Nat.le_refl _) rfl ?_
    refine walk ?_
    refine retR2 (.inr rfl) rfl (rv_cellA rfl Cells.blk0 rfl) (rv_tmp rfl) ⟨?_, rfl⟩
    exact InH.ent
  · refine walk ?_
    refine s_storeA (vs := [.slice _ _ _, .slice _ _ _, .slice _ _ _]) rfl rfl rfl rfl (Nat.le_refl _) rfl ?_
    refine walk ?_
    refine retR2 (.inr rfl) rfl (rv_cellA rfl Cells.blk0 rfl) (rv_tmp rfl) ⟨?_, rfl⟩
    exact InH.ent
theorem refSet_in {r : Value} {g : Nat} {x : Int} (hr : RefV B H r T) (hg : g < T.all.length) (h1 : T.all.length ≤ 1000000) (h2 : T.row.length ≤ 1000000) :
    Does Try.prog B 13 [r, .int .i64 g, .int .i64 x] H fun v H' => ∃ X r', Ent H' (X + H) ∧ (∀ G, RefV B G r T → RefV B (X + G) r' (T.set g x).2) ∧ v = .tuple #[r', .int .i64 (T.set g x).1] := by
  have hset : T.set g x = if may T.all[g].1 x then (0, ⟨T.all.set g (x, T.all[g].2), if x = 0 then (g : Int) :: T.row else T.row⟩) else (4, T) := by
    unfold Tab.set
    rw [if_pos (by omega)]
    simp [hg]
  have hr0 := hr
  obtain ⟨s1, s2, s3, rfl, r1, r2, r3⟩ := hr
  unfold Rd at r1 r2 r3
  obtain ⟨o1, k1, rfl, l1, _, a1⟩ := r1
  obtain ⟨o2, k2, rfl, _⟩ := r2
  obtain ⟨o3, k3, rfl, _⟩ := r3
  obtain ⟨ba, oa, rfl, hcs⟩ := Rd.addr l1 a1 hg
  have t1 : T.st.length = T.all.length := by simp [Tab.st]
  have hcell := hcs.cell (show (zs T.st)[g]? = some (.int .i64 T.all[g].1) by simp [zs, Tab.st, hg])
  refine fn_intro 46 Try.func13 rfl rfl rfl ?_
  refine walk ?_
  refine s_box rfl rfl rfl ?_
  intro b1
  refine s_alloc rfl ?_
  intro b2
  refine walk ?_
  refine s_call rfl refMay_spec rfl ?_
  rintro _ _ ⟨rfl, rfl⟩
  cases hm : may T.all[g].1 x with
  | false =>
    rw [hm] at hset
    refine walk ?_
    refine s_storeA (vs := [.slice _ _ _, .slice _ _ _, .slice _ _ _]) rfl rfl rfl rfl (Nat.le_refl _) rfl ?_
    refine walk ?_
    refine retR2 (.inr rfl) rfl (rv_cellA rfl Cells.blk0 rfl) (rv_tmp rfl) ⟨emp, .agg [.slice (some ⟨ba, oa, none⟩) T.all.length k1, .slice o2 T.all.length k2, .slice o3 T.row.length k3].toArray, ?_, ?_, ?_⟩
    · rw [HProp.emp_add]; exact InH.ent
    · intro G hG
      rw [HProp.emp_add, hset]; exact hG
    · rw [hset]; rfl
  | true =>
    rw [hm, if_pos rfl] at hset
    refine walk ?_
    refine s_call rfl (copied_spec (H := blk b2 _ 28 + (blk b1 _ 28 + H)) (hr0.ent ((Ent.drop_left _ _).trans (Ent.drop_left _ _))) h1 h2) rfl ?_
    rintro _ H' ⟨a1, c1, a2, c2, a3, c3, rfl, he⟩
    refine WPL.ent he ?_
    refine WPL.shape fun _ _ hv _ l1 m1 => ?_
    cases hv
    refine WPL.open (by omega) ?_
    rintro g1 sp1 rfl hsp1
    refine WPL.split (Own 3 1 (.slice a2 T.all.length c2) T.all.length (zs T.bn)) ?_
    refine WPL.rd fun rd2 => ?_
    refine WPL.split (Own 3 1 (.slice a3 T.row.length c3) T.row.length (zs T.row)) ?_
    refine WPL.rd fun rd3 => ?_
    refine s_alloc rfl ?_
    intro b5
    refine walk ?_
    refine s_storeA (vs := [.slice _ _ _, .slice _ _ _, .slice _ _ _]) rfl rfl rfl rfl (Nat.le_refl _) rfl ?_
    refine walk ?_
    refine s_store (v := .int _ _) (cs' := zs (T.st.set g x) ++ sp1) rfl rfl rfl (by simp [zs_length, t1]; omega) ?_ ?_
    · rw [List.set_append_left _ _ (by rw [zs_length]; omega), zs_set]
    by_cases hx : x = 0
    · subst hx
      refine walk ?_
      refine s_buildInts (cs := [.int _ _]) rfl rfl rfl rfl rfl ?_
      intro nb
      refine walk ?_
      refine WPL.ent ((Own.of_blk (sz := 1) (n := 1) (cap := 1) (cs := [.int .i64 g]) (spare := []) rfl rfl (Nat.le_refl _) (by simp [maxLen]) rfl).frame_right _) ?_
      refine s_append (v := .slice _ _ _) rfl rfl rd3.sub (zs_one _) rfl ?_ rfl ?_
      · simp only [maxLen]; omega
      intro v'
      refine WPL.rd fun rd4 => ?_
      refine WPL.shape ?_
      rintro a4 c4 rfl _ _ _
      refine walk ?_
      refine s_store (v := .slice _ _ _) (cs' := [_, _, _]) rfl rfl rfl (by simp) rfl ?_
      refine walk ?_
      refine s_storeA (vs := [.slice _ _ _, .slice _ _ _, .slice _ _ _]) rfl rfl rfl rfl (Nat.le_refl _) rfl ?_
      refine walk ?_
      refine retR2 (.inr rfl) rfl (rv_cellA rfl Cells.blk0 rfl) (rv_tmp rfl) ⟨blk g1 (zs (T.st.set g 0) ++ sp1) 3 + (Own 3 1 (.slice a2 T.all.length c2) T.all.length (zs T.bn) + Own 3 1 (.slice a4 (1 + T.row.length) c4) (1 + T.row.length) ([.int .i64 g] ++ zs T.row)), .agg [.slice (some ⟨g1, 0, none⟩) T.all.length c1, .slice a2 T.all.length c2, .slice a4 (1 + T.row.length) c4].toArray, ?_, ?_, by rw [hset]; rfl⟩
      · refine Ent.trans ?_ (Ent.ac (show blk g1 (zs (T.st.set g 0) ++ sp1) 3 + (Own 3 1 (.slice a2 T.all.length c2) T.all.length (zs T.bn) + (Own 3 1 (.slice a4 (1 + T.row.length) c4) (1 + T.row.length) ([.int .i64 g] ++ zs T.row) + H)) = _ by ac_rfl))
        refine Ent.step (A := blk g1 (zs (T.st.set g 0) ++ sp1) 3) (Ent.refl _) ?_
        refine Ent.step (A := Own 3 1 (.slice a2 T.all.length c2) T.all.length (zs T.bn)) (Ent.refl _) ?_
        refine Ent.step (A := Own 3 1 (.slice a4 (1 + T.row.length) c4) (1 + T.row.length) ([.int .i64 g] ++ zs T.row)) (Ent.refl _) ?_
        exact InH.ent
      · intro G _
        rw [hset]
        refine ⟨_, _, _, rfl, ?_, ?_, ?_⟩
        · rw [st_set, List.length_set]
          exact (Rd.blkPre (H := blk g1 (zs (T.st.set g 0) ++ sp1) 3 + emp) (by rw [zs_length, List.length_set, t1, Nat.mul_one]) (by simp only [maxLen]; omega)).ent (by rw [HProp.add_emp]; exact InH.ent)
        · rw [bn_set, List.length_set, bn_same hg]
          exact rd2.ent InH.ent
        · simp only [if_pos, List.length_cons]
          rw [Nat.add_comm T.row.length 1]
          exact rd4.ent InH.ent
    · refine walk ?_
      refine s_storeA (vs := [.slice _ _ _, .slice _ _ _, .slice _ _ _]) rfl rfl rfl rfl (Nat.le_refl _) rfl ?_
      refine walk ?_
      refine retR2 (.inr rfl) rfl (rv_cellA rfl Cells.blk0 rfl) (rv_tmp rfl) ⟨blk g1 (zs (T.st.set g x) ++ sp1) 3 + (Own 3 1 (.slice a2 T.all.length c2) T.all.length (zs T.bn) + Own 3 1 (.slice a3 T.row.length c3) T.row.length (zs T.row)), .agg [.slice (some ⟨g1, 0, none⟩) T.all.length c1, .slice a2 T.all.length c2, .slice a3 T.row.length c3].toArray, ?_, ?_, by rw [hset]; rfl⟩
      · refine Ent.trans ?_ (Ent.ac (show blk g1 (zs (T.st.set g x) ++ sp1) 3 + (Own 3 1 (.slice a2 T.all.length c2) T.all.length (zs T.bn) + (Own 3 1 (.slice a3 T.row.length c3) T.row.length (zs T.row) + H)) = _ by ac_rfl))
        refine Ent.step (A := blk g1 (zs (T.st.set g x) ++ sp1) 3) (Ent.refl _) ?_
        refine Ent.step (A := Own 3 1 (.slice a2 T.all.length c2) T.all.length (zs T.bn)) (Ent.refl _) ?_
        refine Ent.step (A := Own 3 1 (.slice a3 T.row.length c3) T.row.length (zs T.row)) (Ent.refl _) ?_
        exact InH.ent
      · intro G _
        rw [hset]
        refine ⟨_, _, _, rfl, ?_, ?_, ?_⟩
        · rw [st_set, List.length_set]
          exact (Rd.blkPre (H := blk g1 (zs (T.st.set g x) ++ sp1) 3 + emp) (by rw [zs_length, List.length_set, t1, Nat.mul_one]) (by simp only [maxLen]; omega)).ent (by rw [HProp.add_emp]; exact InH.ent)
        · rw [bn_set, List.length_set, bn_same hg]
          exact rd2.ent InH.ent
        · simp only [if_neg hx]
          exact rd3.ent InH.ent
end
end Go.Proofs.Ytnfipmbmknlmpaa
