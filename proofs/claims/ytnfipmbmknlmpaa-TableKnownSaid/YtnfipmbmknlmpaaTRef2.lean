/- The reference's table: making, setting. No condition. -/
import Derived.Test.YtnfipmbmknlmpaaTRef1
namespace Go.Proofs.Ytnfipmbmknlmpaa
open Go Go.SL
set_option linter.unusedSimpArgs false
set_option linter.unusedVariables false
set_option maxRecDepth 10000
attribute [local irreducible] WP WPL QSeq QBlk QRet Does Cell Cells Rd Own Ent Aside RV TabX TabAt

section
variable {B : World} {F H : HProp} {p : Nat} {T : Tab}

theorem st_set (T : Tab) (k : Nat) (x y : Int) (row : List Int) : (Tab.mk (T.all.set k (x, y)) row).st = T.st.set k x := by simp [Tab.st, List.map_set]
theorem bn_set (T : Tab) (k : Nat) (x y : Int) (row : List Int) : (Tab.mk (T.all.set k (x, y)) row).bn = T.bn.set k y := by simp [Tab.bn, List.map_set]
theorem set_same {α : Type} (l : List α) (k : Nat) (h : k < l.length) : l.set k l[k] = l := by simp
theorem refMake_none {r : Value} (hr : RefV B H r T) (h0 : T.row = []) : Does Try.prog B 11 [r] H fun v H' => Ent H' H ∧ v = .tuple #[r, .int .i64 (-1), .int .i64 130] := by
  obtain ⟨s1, s2, s3, rfl, r1, r2, r3⟩ := hr
  have r3' := r3
  unfold Rd at r3'
  obtain ⟨o3, k3, rfl, _⟩ := r3'
  have e0 : T.row.length = 0 := by simp [h0]
  refine fn_intro 35 Try.func11 rfl rfl rfl ?_
  refine walk ?_
  refine s_box rfl rfl rfl ?_
  intro b1
  refine s_alloc rfl ?_
  intro b2
  refine walk ?_
  refine s_storeA (vs := [s1, s2, .slice o3 T.row.length k3]) rfl rfl ?_ rfl (Nat.le_refl _) rfl ?_
  · unfold Rd at r1 r2
    obtain ⟨_, _, rfl, _⟩ := r1
    obtain ⟨_, _, rfl, _⟩ := r2
    rfl
  refine walk ?_
  refine retR3 (.inr rfl) rfl (rv_cellA rfl Cells.blk0 rfl) (rv_tmp rfl) (rv_tmp rfl) ⟨?_, rfl⟩
  exact InH.ent
theorem refMake_some {r : Value} {g : Nat} {rest : List Int} (hr : RefV B H r T) (h0 : T.row = (g : Int) :: rest) (hg : g < T.all.length) (h1 : T.all.length ≤ 1000000) (h2 : T.row.length ≤ 1000000)
    (hb : 0 ≤ T.all[g].2 ∧ T.all[g].2 < 4611686018427387904) : Does Try.prog B 11 [r] H fun v H' => ∃ X r', Ent H' (X + H) ∧ (∀ G, RefV B G r T → RefV B (X + G) r' ⟨T.all.set g (1, T.all[g].2 + 1), rest⟩) ∧ v = .tuple #[r', .int .i64 g, .int .i64 0] := by
  have hr0 := hr
  obtain ⟨s1, s2, s3, rfl, r1, r2, r3⟩ := hr
  have r3' := r3
  unfold Rd at r3'
  obtain ⟨o3, k3, rfl, _⟩ := r3'
  have e0 : T.row.length = rest.length + 1 := by simp [h0]
  have e1 : zs T.row = .int .i64 g :: zs rest := by simp [h0, zs]
  refine fn_intro 35 Try.func11 rfl rfl rfl ?_
  refine walk ?_
  refine s_box rfl rfl rfl ?_
  intro b1
  refine s_alloc rfl ?_
  intro b2
  refine walk ?_
  refine s_call rfl (copied_spec (H := blk b2 _ 28 + (blk b1 _ 28 + H)) (hr0.ent ((Ent.drop_left _ _).trans (Ent.drop_left _ _))) h1 h2) rfl ?_
  rintro _ H' ⟨a1, c1, a2, c2, a3, c3, rfl, he⟩
  refine WPL.ent he ?_
  refine WPL.shape fun _ _ hv _ l1 m1 => ?_
  cases hv
  refine WPL.open (by omega) ?_
  rintro g1 sp1 rfl hsp1
  refine WPL.split (Own 3 1 (.slice a2 T.all.length c2) T.all.length (zs T.bn)) ?_
  refine WPL.shape fun _ _ hv _ l2 m2 => ?_
  cases hv
  refine WPL.open (by omega) ?_
  rintro g2 sp2 rfl hsp2
  refine WPL.split (Own 3 1 (.slice a3 T.row.length c3) T.row.length (zs T.row)) ?_
  refine WPL.shape fun _ _ hv _ l3 m3 => ?_
  cases hv
  refine WPL.open (by omega) ?_
  rintro g3 sp3 rfl hsp3
  rw [e1] at hsp3 ⊢
  have t1 : T.st.length = T.all.length := by simp [Tab.st]
  have t2 : T.bn.length = T.all.length := by simp [Tab.bn]
  have hbg : (zs T.bn)[g]? = some (.int .i64 T.all[g].2) := by simp [zs, Tab.bn, hg]
  refine s_alloc rfl ?_
  intro b5
  refine walk ?_
  refine s_storeA (vs := [.slice _ _ _, .slice _ _ _, .slice _ _ _]) rfl rfl rfl rfl (Nat.le_refl _) rfl ?_
  refine walk ?_
  refine s_indexAddr (j := 0) rfl rfl rfl (by omega) (o' := 0) rfl rfl ?_
  refine walk ?_
  refine s_sliceL (l := 1) rfl rfl rfl (by omega) rfl ?_
  refine walk ?_
  refine s_store (v := .slice _ _ _) (cs' := [_, _, _]) rfl rfl rfl (by simp) rfl ?_
  refine walk ?_
  refine s_store (v := .int _ _) (cs' := zs (T.st.set g 1) ++ sp1) rfl rfl rfl (by simp [zs_length, t1]; omega) ?_ ?_
  · rw [List.set_append_left _ _ (by rw [zs_length]; omega), zs_set]
  have hbn : T.bn[g]'(by omega) = T.all[g].2 := by simp [Tab.bn]
  refine walk ?_
  refine s_store (v := .int _ _) (cs' := zs (T.bn.set g (T.all[g].2 + 1)) ++ sp2) rfl rfl rfl (by simp [zs_length, t2]; omega) ?_ ?_
  · rw [List.set_append_left _ _ (by rw [zs_length]; omega), ← hbn]; exact congrArg (· ++ sp2) (zs_set _ _ _)
  refine walk ?_
  refine s_storeA (vs := [.slice _ _ _, .slice _ _ _, .slice _ _ _]) rfl rfl rfl rfl (Nat.le_refl _) rfl ?_
  refine walk ?_
  refine retR3 (.inr rfl) rfl (rv_cellA rfl Cells.blk0 rfl) (rv_tmp rfl) (rv_tmp rfl) ⟨blk g1 (zs (T.st.set g 1) ++ sp1) 3 + (blk g2 (zs (T.bn.set g (T.all[g].2 + 1)) ++ sp2) 3 + blk g3 (.int .i64 g :: zs rest ++ sp3) 3), _, ?_, ?_, rfl⟩
  · refine Ent.trans ?_ (Ent.ac (show blk g1 (zs (T.st.set g 1) ++ sp1) 3 + (blk g2 (zs (T.bn.set g (T.all[g].2 + 1)) ++ sp2) 3 + (blk g3 (.int .i64 g :: zs rest ++ sp3) 3 + H)) = _ by ac_rfl))
    refine Ent.step (A := blk g1 (zs (T.st.set g 1) ++ sp1) 3) (Ent.refl _) ?_
    refine Ent.step (A := blk g2 (zs (T.bn.set g (T.all[g].2 + 1)) ++ sp2) 3) (Ent.refl _) ?_
    refine Ent.step (A := blk g3 (.int .i64 g :: zs rest ++ sp3) 3) (Ent.refl _) ?_
    exact InH.ent
  · intro G _
    refine ⟨_, _, _, rfl, ?_, ?_, ?_⟩
    · rw [st_set, List.length_set]
      exact (Rd.blkPre (H := blk g1 (zs (T.st.set g 1) ++ sp1) 3 + ((blk g2 (zs (T.bn.set g (T.all[g].2 + 1)) ++ sp2) 3 + blk g3 (.int .i64 g :: zs rest ++ sp3) 3) + G)) (by rw [zs_length, List.length_set, t1, Nat.mul_one]) (by simp only [maxLen]; omega)).ent (Ent.ac (by ac_rfl))
    · rw [bn_set, List.length_set]
      exact (Rd.blkPre (H := blk g2 (zs (T.bn.set g (T.all[g].2 + 1)) ++ sp2) 3 + (blk g1 (zs (T.st.set g 1) ++ sp1) 3 + blk g3 (.int .i64 g :: zs rest ++ sp3) 3 + G)) (by rw [zs_length, List.length_set, t2, Nat.mul_one]) (by simp only [maxLen]; omega)).ent (Ent.ac (by ac_rfl))
    · have e2 : T.row.length - 1 = rest.length := by omega
      show Rd B _ 1 (.slice (partAddr (some ⟨g3, 0, none⟩) c3 1 1) (T.row.length - 1) (c3 - 1)) rest.length (zs rest)
      rw [e2]
      by_cases hc : rest.length = 0
      · have : rest = [] := by simpa using hc
        subst this
        unfold Rd
        exact ⟨_, _, rfl, rfl, Nat.zero_le _, .inl rfl⟩
      · have hpa : partAddr (some ⟨g3, 0, none⟩) c3 1 1 = some ⟨g3, 1, none⟩ := by
          unfold partAddr
          rw [if_neg (by omega)]; rfl
        rw [hpa]
        refine (Rd.blk (o := 1) (H := blk g3 (.int .i64 g :: zs rest ++ sp3) 3 + (blk g1 (zs (T.st.set g 1) ++ sp1) 3 + blk g2 (zs (T.bn.set g (T.all[g].2 + 1)) ++ sp2) 3 + G)) (by rw [zs_length, Nat.mul_one]) (by simp only [maxLen]; omega) ?_).ent (Ent.ac (by ac_rfl))
        intro j v hj
        rw [show 1 + j = j + 1 by omega, List.cons_append, List.getElem?_cons_succ, List.getElem?_append_left (by have := (List.getElem?_eq_some_iff.1 hj).1; omega)]
        exact hj
end
end Go.Proofs.Ytnfipmbmknlmpaa
