/- What the laws of the chapter share. No condition. -/
import Derived.Test.YtcnpcmdcbafaeaaDDq6
namespace Go.Proofs.Ytcnpcmdcbafaeaa
open Go Go.SL
set_option linter.unusedSimpArgs false
set_option linter.unusedVariables false
set_option maxRecDepth 10000
set_option maxHeartbeats 2000000
attribute [local irreducible] WP WPL QSeq QBlk QRet Does Cell Cells Rd Mine Ent Aside RV DqX DqAt Yield

section
variable {B : World} {F H G : HProp} {p p' q : Nat} {L S : List Int} {g : Int} {x y : DqS}
theorem tmod_pick {i n : Int} (hn : 0 < n) : (i.tmod n + n) % n = i % n ∧ 0 < i.tmod n + n ∧ i.tmod n + n < n + n := by
  have h1 := Int.tmod_lt_of_pos i hn
  have h2 := Int.lt_tmod_of_pos i hn
  refine ⟨?_, by omega, by omega⟩
  rw [Int.add_emod_right]
  have h3 := Int.mul_tdiv_add_tmod i n
  conv => rhs; rw [← h3]
  rw [Int.add_comm, Int.add_mul_emod_self_left]
theorem pick_spec {i n : Int} (hn : 0 < n ∧ n ≤ 1000000) : Does Try.prog B 9 [.int .i64 i, .int .i64 n] H fun r H' => H' = H ∧ r = .int .i64 (i % n) := by
  obtain ⟨h1, h2, h3⟩ := tmod_pick (i := i) hn.1
  refine fn_intro 14 Try.func9 rfl rfl rfl ?_
  refine walk ?_
  refine s_rem rfl rfl (by omega) rfl rfl ?_
  refine walk ?_
  exact ret1 (v := .int _ _) (.inr rfl) rfl rfl ⟨rfl, congrArg _ h1⟩
/-- A row against another one; it is written over. -/
theorem row_spec {s u : Value} {xs ys : List Int} [i : HasOwn H s 3 1 xs.length (zs xs) F] (hu : Rd B F 1 u ys.length (zs ys)) : Does Try.prog B 27 [s, u] H fun r H' => H' = F ∧ r = .bool (decide (xs = ys)) := by
  rw [i.eq]
  refine Does.shape ?_
  rintro ao cap rfl _ hc hm
  have hm' : cap ≤ 9223372036854775807 := by simpa [maxLen] using hm
  refine Does.rd fun rd => ?_
  refine fn_intro 19 Try.func27 rfl rfl rfl ?_
  refine walk ?_
  refine s_call rfl (sameInts_spec (xs := xs) (ys := ys) (rd.ent InH.ent) (hu.ent InH.ent)) rfl ?_
  rintro _ _ ⟨e_, rfl⟩
  obtain rfl := e_.symm
  refine walk ?_
  by_cases he : xs = ys
  · rw [decide_eq_true he]
    refine walk ?_
    refine wp_loopS (α := Nat × List Int) [5, 10, 11, 12, 13, 14, 15, 16, 17, 18] (fun j => [(5, .int .i64 j.1)]) (fun j => Mine 3 1 (.slice ao xs.length cap) xs.length (zs j.2)) (fun j => j.1 ≤ xs.length ∧ j.2.length = xs.length) (fun j => xs.length - j.1) (0, xs) agreed ⟨Nat.zero_le _, rfl⟩ ?_
    rintro ⟨j, ys⟩ g4 ⟨hj, hjl⟩
    simp only at hj hjl
    simp only [putAll]
    by_cases hlt2 : j < xs.length
    · refine WP.open (by omega) ?_
      rintro bo sp rfl hsp
      refine walk ?_
      refine s_store (v := .int _ _) (cs' := zs (ys.set j (-77)) ++ sp) rfl rfl rfl (by simp [zs_length]; omega) ?_ ?_
      · rw [List.set_append_left _ _ (by rw [zs_length]; omega), zs_set]
      refine walk ?_
      refine ⟨(j + 1, ys.set j (-77)), asided, agreed, ?_, ⟨hlt2, by simp [hjl]⟩, by simp only; omega⟩
      refine Ent.step (A := blk bo (zs (ys.set j (-77)) ++ sp) 3) (Mine.of_blk (spare := sp) rfl (by rw [zs_length, List.length_set]; omega) hc hm ?_) (Ent.refl _)
      simpa [zs_length] using hsp
    · refine walk ?_
      exact QRet.ent (Ent.drop_left _ _) (ret1 (v := .bool _) (.inr rfl) rfl rfl ⟨rfl, rfl⟩)
  · rw [decide_eq_false he]
    refine walk ?_
    exact QRet.ent (Ent.drop_left _ _) (ret1 (v := .bool _) (.inr rfl) rfl rfl ⟨rfl, rfl⟩)
theorem row_same {s u : Value} {xs : List Int} [HasOwn H s 3 1 xs.length (zs xs) F] (hu : Rd B F 1 u xs.length (zs xs)) : Does Try.prog B 27 [s, u] H fun r H' => H' = F ∧ r = .bool true := by
  simpa using row_spec (s := s) (xs := xs) hu
theorem dGet_cons {q : Nat} {y : Int} {l : List Int} [HasAt DqAt H p ⟨q, y :: l⟩ F] : Does Try.prog B 12 [ptr p] H fun r H' => H' = DqAt p ⟨q, l⟩ + F ∧ r = .tuple #[.int .i64 y, .bool true] := by
  refine (dGet (p := p) (x := ⟨q, y :: l⟩)).weak fun r H' h => ⟨_, Ent.refl _, ?_⟩
  rcases h with ⟨h, _⟩ | ⟨y', l', h, e, er⟩
  · cases h
  · cases h
    exact ⟨e, er⟩
theorem dGet_none {q : Nat} [HasAt DqAt H p ⟨q, []⟩ F] : Does Try.prog B 12 [ptr p] H fun r H' => H' = H ∧ r = .tuple #[.int .i64 0, .bool false] := by
  refine (dGet (p := p) (x := ⟨q, []⟩)).weak fun r H' h => ⟨_, Ent.refl _, ?_⟩
  rcases h with ⟨h, e, er⟩ | ⟨y', l', h, e, er⟩
  · exact ⟨e, er⟩
  · cases h
theorem works_spec : Does Try.prog B 7 [] H fun r H' => H' = H ∧ r = .bool true := by
  have r4 : isRoom 4 = true := by decide
  have e4 : List.take 4 [(1 : Int), 2, 3, 4] = [1, 2, 3, 4] := rfl
  have ep : putD 4 [1, 2, 3, 4] 5 = ([3, 4, 5], [1, 2]) := rfl
  have ed : List.drop 2 [(1 : Int), 2, 3, 4] = [3, 4] := rfl
  have ea : ahead 3 [1, 2, 3, 4] = 2 := by decide
  have eb : ahead 9 ([1, 2, 3, 4] ++ List.take (4 - List.length [(1 : Int), 2, 3, 4]) [9]) = -1 := by decide
  have em : ((min (List.length [(9 : Int)]) (4 - List.length [(1 : Int), 2, 3, 4]) : Nat) : Int) = 0 := by decide
  have es : older [(1 : Int), 2, 3, 4] = 2 := rfl
  refine fn_intro 100 Try.func7 rfl rfl rfl ?_
  refine walk ?_
  refine s_buildInts (cs := zs [1, 2, 3, 4]) rfl rfl rfl rfl rfl ?_
  intro b1
  refine s_call rfl (dNew (q := 4) (l := [1, 2, 3, 4]) r4 (Rd.blk0 rfl (by simp [maxLen])) (by simp)) rfl ?_
  rintro _ _ ⟨p1, rfl, rfl⟩
  refine walk ?_
  refine s_buildInts (cs := zs [1, 2, 3, 4]) rfl rfl rfl rfl rfl ?_
  intro b2
  refine s_call rfl (dNew (q := 4) (l := [1, 2, 3, 4]) r4 (Rd.blk0 rfl (by simp [maxLen])) (by simp)) rfl ?_
  rintro _ _ ⟨p2, rfl, rfl⟩
  refine walk ?_
  refine s_buildInts (cs := zs [1, 2, 3, 4]) rfl rfl rfl rfl rfl ?_
  intro b3
  refine s_call rfl (dNew (q := 4) (l := [1, 2, 3, 4]) r4 (Rd.blk0 rfl (by simp [maxLen])) (by simp)) rfl ?_
  rintro _ _ ⟨p3, rfl, rfl⟩
  refine walk ?_
  rw [e4]
  refine s_call rfl (dPut (p := p1)) rfl ?_
  rintro v1 _ rfl
  refine walk ?_
  simp only [ep]
  refine s_buildInts (cs := zs [3, 4, 5]) rfl rfl rfl rfl rfl ?_
  intro b4
  refine s_call rfl (row_same (s := v1) (xs := [3, 4, 5]) (Rd.blk0 rfl (by simp [maxLen]))) rfl ?_
  rintro _ _ ⟨e_, rfl⟩
  obtain rfl := e_.symm
  refine walk ?_
  refine s_call rfl (dAll (p := p1)) rfl ?_
  rintro v2 _ rfl
  refine walk ?_
  refine s_buildInts (cs := zs [1, 2]) rfl rfl rfl rfl rfl ?_
  intro b5
  refine walk ?_
  refine s_call rfl (row_same (s := v2) (xs := [1, 2]) (Rd.blk0 rfl (by simp [maxLen]))) rfl ?_
  rintro _ _ ⟨e_, rfl⟩
  obtain rfl := e_.symm
  refine walk ?_
  refine s_call rfl (dSteal (p := p2)) rfl ?_
  rintro v3 _ rfl
  refine walk ?_
  simp only [es]
  refine s_buildInts (cs := zs [1, 2]) rfl rfl rfl rfl rfl ?_
  intro b6
  refine walk ?_
  refine s_call rfl (row_same (s := v3) (xs := [1, 2]) (Rd.blk0 rfl (by simp [maxLen]))) rfl ?_
  rintro _ _ ⟨e_, rfl⟩
  obtain rfl := e_.symm
  refine walk ?_
  refine s_call rfl (dAll (p := p2)) rfl ?_
  rintro v4 _ rfl
  refine walk ?_
  refine s_buildInts (cs := zs [3, 4]) rfl rfl rfl rfl rfl ?_
  intro b7
  refine walk ?_
  refine s_call rfl (row_same (s := v4) (xs := [3, 4]) (Rd.blk0 rfl (by simp [maxLen]))) rfl ?_
  rintro _ _ ⟨e_, rfl⟩
  obtain rfl := e_.symm
  refine walk ?_
  rw [ed]
  refine s_call rfl (dGet_cons (p := p2) (y := 3) (l := [4])) rfl ?_
  rintro _ _ ⟨e_, rfl⟩
  obtain rfl := e_.symm
  refine walk ?_
  refine s_call rfl (dGet_cons (p := p2) (y := 4) (l := [])) rfl ?_
  rintro _ _ ⟨e_, rfl⟩
  obtain rfl := e_.symm
  refine walk ?_
  refine s_call rfl (dAhead (p := p3)) rfl ?_
  rintro _ _ ⟨e_, rfl⟩
  obtain rfl := e_.symm
  refine walk ?_
  simp only [ea]
  refine walk ?_
  refine s_buildInts (cs := zs [9]) rfl rfl rfl rfl rfl ?_
  intro b8
  refine walk ?_
  refine s_call rfl (dLay (p := p3) (l := [9]) (Rd.blk0 rfl (by simp [maxLen])) (by simp)) rfl ?_
  rintro _ _ ⟨e_, rfl⟩
  obtain rfl := e_.symm
  refine walk ?_
  simp only [em]
  refine walk ?_
  refine s_call rfl (dAhead (p := p3)) rfl ?_
  rintro _ _ ⟨e_, rfl⟩
  obtain rfl := e_.symm
  refine walk ?_
  simp only [eb]
  refine walk ?_
  exact QRet.ent Ent.auto (ret1 (v := .bool _) (.inr rfl) rfl rfl ⟨rfl, rfl⟩)
end
end Go.Proofs.Ytcnpcmdcbafaeaa
