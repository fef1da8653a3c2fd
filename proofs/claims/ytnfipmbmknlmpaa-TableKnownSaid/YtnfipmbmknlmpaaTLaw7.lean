/- The closed law: acts by numbers. No condition. -/
import Derived.Test.YtnfipmbmknlmpaaTLaw3
import Derived.Test.YtnfipmbmknlmpaaTLaw4
namespace Go.Proofs.Ytnfipmbmknlmpaa
open Go Go.SL
set_option linter.unusedSimpArgs false
set_option linter.unusedVariables false
set_option maxRecDepth 10000
set_option maxHeartbeats 2000000
attribute [local irreducible] WP WPL QSeq QBlk QRet Does Cell Cells Rd Own Ent Aside RV TabX TabAt

section
variable {B : World} {F H : HProp}
theorem kPlays {s : Value} {n : Int} {l : List TAct} (hs : Rd B H 3 s l.length (actCells l)) : Does Try.prog B 5 [.int .i64 n, s] H fun r H' => H' = H ∧ r = .bool true := by
  refine Does.frame0 ?_
  by_cases h2 : l.length ≤ 80
  · by_cases h : n ≤ 40
    · exact plays_main hs h h2
    · by_cases h3 : n ≤ 256
      · exact plays_early hs (.inl ⟨by omega, h3⟩)
      · exact plays_large hs (by omega) h2
  · exact plays_early hs (.inr (by omega))
theorem kRow {s : Value} {n : Int} {l : List TAct} (hs : Rd B H 3 s l.length (actCells l)) : Does Try.prog B 4 [.int .i64 n, s] H fun r H' => H' = H ∧ r = .bool true := by
  refine Does.frame0 ?_
  by_cases h : n ≤ 40
  · by_cases h2 : l.length ≤ 80
    · exact row_main hs h h2
    · exact row_early hs (.inr (by omega))
  · exact row_early hs (.inl (by omega))
theorem kAsks {s u : Value} {n g : Int} {l : List TAct} {xs : List Int} (hs : Rd B H 3 s l.length (actCells l)) (hu : Rd B H 1 u xs.length (zs xs)) : Does Try.prog B 3 [.int .i64 n, s, u, .int .i64 g] H fun r H' => H' = H ∧ r = .bool true := by
  refine Does.frame0 ?_
  by_cases h : n ≤ 40
  · by_cases h2 : l.length ≤ 80
    · by_cases h3 : xs.length ≤ 10
      · exact asks_main hs hu h h2 h3
      · exact asks_early hs hu (.inr (.inr (by omega)))
    · exact asks_early hs hu (.inr (.inl (by omega)))
  · exact asks_early hs hu (.inl (by omega))
theorem kNone {g x : Int} : Does Try.prog B 6 [.int .i64 g, .int .i64 x] H fun r H' => H' = H ∧ r = .bool true := tableNone_spec.frame0

theorem actCells_push (l : List TAct) (a : TAct) : actCells (l ++ [a]) = actCells l ++ [.bool a.isMk, .int .i64 a.g, .int .i64 a.st] := by simp [actCells]
theorem actCells_one (l : List TAct) : (actCells l).all Value.oneCell' = true := by
  induction l with
  | nil => rfl
  | cons a l ih => simp only [actCells, List.flatMap_cons, List.all_append] at ih ⊢; rw [ih]; rfl
theorem actCells_last (l : List TAct) (a b : TAct) (sp : List Value) :
    (actCells (l ++ [a]) ++ sp).take (l.length * 3) ++ [.bool b.isMk, .int .i64 b.g, .int .i64 b.st] ++ (actCells (l ++ [a]) ++ sp).drop (l.length * 3 + 3) = actCells (l ++ [b]) ++ sp := by
  rw [← actCells_length, actCells_push, actCells_push]
  simp only [List.append_assoc, List.take_left, List.drop_append]
  simp
theorem known_spec : Does Try.prog B 7 [] H fun r H' => Ent H' H ∧ r = .bool true := by
  refine fn_intro 91 Try.func7 rfl rfl rfl ?_
  refine walk ?_
  refine wp_loopR (α := Nat × Int) [0, 1, 2, 3, 4, 5, 6, 7, 8, 9, 10, 11, 12, 13, 14, 15, 16, 17, 18, 19, 20, 21, 22, 23, 24, 25, 26, 27, 28, 29, 30, 31, 32, 33, 34, 35, 36, 37, 38, 39, 40, 41, 42, 43, 44, 45, 46, 47, 48, 49, 50, 51, 52, 53, 54, 55, 56, 57, 58, 59, 60, 61, 62, 63, 64, 65, 66, 67, 68, 69, 70, 71, 72, 73, 74, 75, 76, 77, 78, 79, 80] (fun x => [(1, .int .i64 x.2), (2, .int .i64 x.1)]) (fun x => x.1 ≤ 60 ∧ 0 ≤ x.2 ∧ x.2 < 100003) (fun x => 60 - x.1) (0, 1) agreed ⟨by omega, by omega, by omega⟩ ?_
  rintro ⟨i, k⟩ g ⟨hi, hk0, hk1⟩
  simp only at hi hk0 hk1
  simp only [putAll]
  by_cases hlt : i < 60
  · refine walk ?_
    refine WP.ent (G := Own 31 3 (.slice none 0 0) 0 (actCells []) + H) (by rw [show actCells [] = [] from rfl, Own.nil]; exact Ent.auto) ?_
    refine wp_loopS (α := Nat × Int × List TAct × Value) [1, 3, 4, 9, 10, 11, 12, 13, 14, 15, 16, 17, 18, 19, 20, 21, 22, 23, 24, 25, 26, 27, 28, 29, 30, 31, 32, 33, 34, 35, 36, 37, 38, 39, 40, 41, 42, 43, 44, 45] (fun x => [(1, .int .i64 x.2.1), (4, .int .i64 x.1), (3, x.2.2.2)]) (fun x => Own 31 3 x.2.2.2 x.1 (actCells x.2.2.1)) (fun x => x.1 ≤ 60 ∧ 0 ≤ x.2.1 ∧ x.2.1 < 100003 ∧ x.2.2.1.length = x.1) (fun x => 60 - x.1) (0, k, [], .slice none 0 0) agreed ⟨by omega, by omega, by omega, rfl⟩ ?_
    rintro ⟨n, k, l, lv⟩ g2 ⟨hn, hk0, hk1, hll⟩
    simp only at hn hk0 hk1 hll
    simp only [putAll]
    by_cases hlt2 : n < 60
    · refine walk ?_
      refine s_eql rfl rfl rfl rfl ?_
      refine walk ?_
      refine s_build (cs := [.bool (decide (k % 5 = 0)), .int .i64 (k / 5 % 9), .int .i64 (k / 45 % 6)]) rfl rfl ?_
      refine s_buildRows [[.bool (decide (k % 5 = 0)), .int .i64 (k / 5 % 9), .int .i64 (k / 45 % 6)]] rfl rfl rfl rfl rfl rfl ?_
      intro bb
      refine s_append (v := lv) rfl rfl (Rd.blk0 (m := 1) (e := 31) rfl (by simp [maxLen])) rfl rfl ?_ rfl ?_
      · simp only [maxLen]; omega
      intro v'
      have epush := actCells_push l ⟨decide (k % 5 = 0), k / 5 % 9, k / 45 % 6⟩
      simp only at epush
      refine WPL.ent (Ent.of_eq (show _ = Own 31 3 v' (n + 1) (actCells (l ++ [⟨decide (k % 5 = 0), k / 5 % 9, k / 45 % 6⟩])) + _ by rw [epush]; rfl)) ?_
      have hpl : (l ++ [⟨decide (k % 5 = 0), k / 5 % 9, k / 45 % 6⟩] : List TAct).length = n + 1 := by simp [hll]
      by_cases hm : (n : Int) % 3 = 1
      · refine WPL.shape ?_
        rintro ao cap rfl hcl hcap hmax
        refine WPL.open (by omega) ?_
        rintro bo sp rfl hsp
        have hn1 : n - 1 < (l ++ [⟨decide (k % 5 = 0), k / 5 % 9, k / 45 % 6⟩] : List TAct).length := by omega
        have hg1 := (actCells_get _ (n - 1) hn1).2.1
        refine Exists.elim (⟨_, rfl⟩ : ∃ y, (l ++ [⟨decide (k % 5 = 0), k / 5 % 9, k / 45 % 6⟩] : List TAct)[n - 1].g = y) fun y hy => ?_
        rw [hy] at hg1
        have hlast : (actCells (l ++ [⟨decide (k % 5 = 0), k / 5 % 9, k / 45 % 6⟩]) ++ sp).take (n * 3) ++ [.bool false, .int .i64 y, .int .i64 2] ++ (actCells (l ++ [⟨decide (k % 5 = 0), k / 5 % 9, k / 45 % 6⟩]) ++ sp).drop (n * 3 + 3) = actCells (l ++ [⟨false, y, 2⟩]) ++ sp := by
          have := actCells_last l ⟨decide (k % 5 = 0), k / 5 % 9, k / 45 % 6⟩ ⟨false, y, 2⟩ sp
          rwa [hll] at this
        refine walk ?_
        (apply s_indexAddr (j := n - 1) (o' := (n - 1) * 3); (· exact rfl); (· exact rfl); (· omega); (· omega); (· omega); (· exact rfl))
        refine walk ?_
        refine s_load (v := .int .i64 y) rfl (Cell.blk (by rw [List.getElem?_append_left (by rw [actCells_length]; omega)]; exact hg1)) rfl ?_
        refine walk ?_
        refine s_build (cs := [.bool false, .int .i64 y, .int .i64 2]) rfl rfl ?_
        (apply s_indexAddr (j := n) (o' := n * 3); (· exact rfl); (· exact rfl); (· omega); (· omega); (· omega); (· exact rfl))
        refine s_storeA (vs := [.bool false, .int .i64 y, .int .i64 2]) rfl rfl rfl rfl (show n * 3 + 3 ≤ _ by rw [hsp]; omega) hlast ?_
        refine walk ?_
        refine ⟨(n + 1, (k * 31 + 7 * n + 11) % 100003, l ++ [⟨false, y, 2⟩], .slice (some ⟨bo, 0, none⟩) (n + 1) cap), asided, agreed, ?_, ⟨by omega, by simp only; omega, by simp only; omega, by simp [hll]⟩, by simp only; omega⟩
        refine Ent.step (A := blk bo (actCells (l ++ [⟨false, y, 2⟩]) ++ sp) 31) (Own.of_blk (spare := sp) rfl (by rw [actCells_length]; simp [hll]) hcap hmax ?_) Ent.auto
        have e : (actCells (l ++ [⟨false, y, 2⟩]) ++ sp).length = (actCells (l ++ [⟨decide (k % 5 = 0), k / 5 % 9, k / 45 % 6⟩]) ++ sp).length := by simp [actCells_length]
        rw [e, hsp]
      · refine walk ?_
        refine ⟨(n + 1, _, _, _), asided, agreed, Ent.auto, ⟨by omega, by simp only; omega, by simp only; omega, hpl⟩, by simp only; omega⟩
    · have hn60 : n = 60 := by omega
      subst hn60
      refine WP.shape ?_
      rintro lo lcap rfl _ hlc hlm
      refine WP.rd fun rdl => ?_
      have rdl' : Rd B (Own 31 3 (.slice lo 60 lcap) 60 (actCells l)) 3 (.slice lo 60 lcap) l.length (actCells l) := by rw [hll]; exact rdl
      refine walk ?_
      refine s_call rfl (kPlays (rdl'.ent InH.ent)) rfl ?_
      rintro _ _ ⟨rfl, rfl⟩
      refine walk ?_
      refine s_buildInts (cs := zs [(i : Int) % 5, 1, 2]) rfl rfl rfl rfl rfl ?_
      intro bs
      refine walk ?_
      (apply s_sliceL (l := i % 3); (· exact rfl); (· exact rfl); (· omega); (· omega); (· exact rfl))
      refine walk ?_
      have hj : i % 3 ≤ 3 := by omega
      have hrs : Rd B (blk bs (zs [(i : Int) % 5, 1, 2]) 3 + (Own 31 3 (.slice lo 60 lcap) 60 (actCells l) + H)) 1 (.slice (partAddr (some ⟨bs, 0, none⟩) 3 (i % 3) 1) (3 - i % 3) (3 - i % 3)) ([(i : Int) % 5, 1, 2].drop (i % 3)).length (zs ([(i : Int) % 5, 1, 2].drop (i % 3))) := by
        have h := Rd.sliceL (B := B) (H := blk bs (zs [(i : Int) % 5, 1, 2]) 3 + (Own 31 3 (.slice lo 60 lcap) 60 (actCells l) + H)) (sz := 1) (n := 3) (cap := 3) (ao := some ⟨bs, 0, none⟩) (cs := zs [(i : Int) % 5, 1, 2]) (i % 3) (Rd.blk0 rfl (by simp [maxLen])) hj (Nat.le_refl _)
        rw [List.length_drop, ← zs_drop]
        rw [Nat.mul_one] at h
        exact h
      refine s_call rfl (kAsks (xs := [(i : Int) % 5, 1, 2].drop (i % 3)) (rdl'.ent InH.ent) hrs) rfl ?_
      rintro _ _ ⟨rfl, rfl⟩
      refine walk ?_
      refine s_call rfl (kRow (rdl'.ent InH.ent)) rfl ?_
      rintro _ _ ⟨rfl, rfl⟩
      refine walk ?_
      refine s_call rfl (kNone) rfl ?_
      rintro _ _ ⟨rfl, rfl⟩
      refine walk ?_
      exact ⟨(i + 1, k), asided, agreed, Ent.auto, ⟨by omega, hk0, hk1⟩, by simp only; omega⟩
  · refine walk ?_
    refine s_build (cs := [.bool true, .int .i64 0, .int .i64 0]) rfl rfl ?_
    refine s_build (cs := [.bool false, .int .i64 0, .int .i64 0]) rfl rfl ?_
    refine s_buildRows [[.bool true, .int .i64 0, .int .i64 0], [.bool false, .int .i64 0, .int .i64 0]] rfl rfl rfl rfl rfl rfl ?_
    intro bs
    refine walk ?_
    refine s_call rfl (kPlays (l := [⟨true, 0, 0⟩, ⟨false, 0, 0⟩]) (Rd.blk0 rfl (by simp [maxLen]))) rfl ?_
    rintro _ _ ⟨rfl, rfl⟩
    refine walk ?_
    refine s_call rfl (kPlays (l := []) Rd.nil) rfl ?_
    rintro _ _ ⟨rfl, rfl⟩
    refine walk ?_
    refine s_call rfl (tWorks) rfl ?_
    rintro _ _ ⟨rfl, rfl⟩
    refine walk ?_
    exact ret1 (v := .bool _) (.inr rfl) rfl rfl ⟨Ent.auto, rfl⟩
end
end Go.Proofs.Ytnfipmbmknlmpaa
