/- Semaphores: new ones. No condition. -/
import Derived.Test.YtlhnmbajbhaaoaaIdSem3
import Derived.Test.YtlhnmbajbhaaoaaSL3
namespace Go.Proofs.Ytlhnmbajbhaaoaa
open Go Go.SL
set_option linter.unusedSimpArgs false
set_option linter.unusedVariables false
set_option maxRecDepth 10000
set_option maxHeartbeats 1000000
attribute [local irreducible] WP WPL QSeq QBlk QRet Does Cell Cells Rd Mine Ent Aside RV Yield
section
variable {B : World} {F H G : HProp} {n c : Int}
abbrev rowZ (c : Int) : RowC := (none, 0, 0, c)
theorem sNew_no (h : n < 1 ∨ 16 < n ∨ c < 0 ∨ 1073741824 < c) : Does Try.prog B 23 [.int .i64 n, .int .i64 c] H fun r H' => H' = H ∧ r = .tuple #[.pointer none, .int .i64 2] := by
  refine fn_intro 44 Try.func23 rfl rfl rfl ?_
  by_cases h1 : n < 1
  · refine walkG ?_
    repeat ((first | (show WPL _ _ _ _ _ (⟨_, .box _ _, _, _, _, none⟩ :: _) _ _ _; (first | refine s_box (v := .int _ _) rfl rfl rfl ?_ | refine s_box (v := .pointer _) rfl rfl rfl ?_ | refine s_box (v := .slice _ _ _) rfl rfl rfl ?_ | refine s_box (v := .bool _) rfl rfl rfl ?_ | refine s_box (v := .agg _) rfl rfl rfl ?_ | refine s_box (v := .string _) rfl rfl rfl ?_ | refine s_box (v := .func _ _ _) rfl rfl rfl ?_ | refine s_box (v := .float _ _) rfl rfl rfl ?_); intro _)); refine walkG ?_)
    (first | refine ret2 (v := .pointer _) (x := .int _ _) (.inr rfl) rfl rfl rfl ?_ | refine ret2  (.inr rfl) rfl rfl rfl ?_ | refine ret2 (v := .pointer _) (x := .int _ _) (.inl rfl) rfl rfl rfl ?_ | refine ret2  (.inl rfl) rfl rfl rfl ?_)
    exact ⟨rfl, rfl⟩
  · by_cases h2 : 16 < n
    · refine walkG ?_
      repeat ((first | (show WPL _ _ _ _ _ (⟨_, .box _ _, _, _, _, none⟩ :: _) _ _ _; (first | refine s_box (v := .int _ _) rfl rfl rfl ?_ | refine s_box (v := .pointer _) rfl rfl rfl ?_ | refine s_box (v := .slice _ _ _) rfl rfl rfl ?_ | refine s_box (v := .bool _) rfl rfl rfl ?_ | refine s_box (v := .agg _) rfl rfl rfl ?_ | refine s_box (v := .string _) rfl rfl rfl ?_ | refine s_box (v := .func _ _ _) rfl rfl rfl ?_ | refine s_box (v := .float _ _) rfl rfl rfl ?_); intro _)); refine walkG ?_)
      (first | refine ret2 (v := .pointer _) (x := .int _ _) (.inr rfl) rfl rfl rfl ?_ | refine ret2  (.inr rfl) rfl rfl rfl ?_ | refine ret2 (v := .pointer _) (x := .int _ _) (.inl rfl) rfl rfl rfl ?_ | refine ret2  (.inl rfl) rfl rfl rfl ?_)
      exact ⟨rfl, rfl⟩
    · by_cases h3 : c < 0
      · refine walkG ?_
        repeat ((first | (show WPL _ _ _ _ _ (⟨_, .box _ _, _, _, _, none⟩ :: _) _ _ _; (first | refine s_box (v := .int _ _) rfl rfl rfl ?_ | refine s_box (v := .pointer _) rfl rfl rfl ?_ | refine s_box (v := .slice _ _ _) rfl rfl rfl ?_ | refine s_box (v := .bool _) rfl rfl rfl ?_ | refine s_box (v := .agg _) rfl rfl rfl ?_ | refine s_box (v := .string _) rfl rfl rfl ?_ | refine s_box (v := .func _ _ _) rfl rfl rfl ?_ | refine s_box (v := .float _ _) rfl rfl rfl ?_); intro _)); refine walkG ?_)
        (first | refine ret2 (v := .pointer _) (x := .int _ _) (.inr rfl) rfl rfl rfl ?_ | refine ret2  (.inr rfl) rfl rfl rfl ?_ | refine ret2 (v := .pointer _) (x := .int _ _) (.inl rfl) rfl rfl rfl ?_ | refine ret2  (.inl rfl) rfl rfl rfl ?_)
        exact ⟨rfl, rfl⟩
      · have h4 : 1073741824 < c := by omega
        refine walkG ?_
        repeat ((first | (show WPL _ _ _ _ _ (⟨_, .box _ _, _, _, _, none⟩ :: _) _ _ _; (first | refine s_box (v := .int _ _) rfl rfl rfl ?_ | refine s_box (v := .pointer _) rfl rfl rfl ?_ | refine s_box (v := .slice _ _ _) rfl rfl rfl ?_ | refine s_box (v := .bool _) rfl rfl rfl ?_ | refine s_box (v := .agg _) rfl rfl rfl ?_ | refine s_box (v := .string _) rfl rfl rfl ?_ | refine s_box (v := .func _ _ _) rfl rfl rfl ?_ | refine s_box (v := .float _ _) rfl rfl rfl ?_); intro _)); refine walkG ?_)
        (first | refine ret2 (v := .pointer _) (x := .int _ _) (.inr rfl) rfl rfl rfl ?_ | refine ret2  (.inr rfl) rfl rfl rfl ?_ | refine ret2 (v := .pointer _) (x := .int _ _) (.inl rfl) rfl rfl rfl ?_ | refine ret2  (.inl rfl) rfl rfl rfl ?_)
        exact ⟨rfl, rfl⟩
def newS (n : Nat) (c : Int) : SemS := List.replicate n ([], c)
theorem newF {m : Nat} (h1 : 1 ≤ m) (h2 : m ≤ 16) (hc : 0 ≤ c ∧ c ≤ 1073741824) : SemF (List.replicate m (rowZ c) ++ List.replicate (16 - m) (rowZ 0)) [] (newS m c) := by
  have hin : ∀ i g, ¬ InS (newS m c) i g := by
    rintro i g ⟨l, c', h, hg⟩
    have := List.mem_of_getElem? h
    rw [newS, List.mem_replicate] at this
    have := this.2
    cases this
    cases hg
  refine ⟨by simp [newS]; omega, by simp [newS]; omega, by simp; omega, ?_, ?_, by simp [mkeys], ?_, ?_⟩
  · intro i l c' h
    have hi : i < m := by have := (List.getElem?_eq_some_iff.1 h).1; simpa [newS] using this
    rw [newS, List.getElem?_replicate, if_pos hi] at h
    cases h
    exact ⟨none, 0, 0, by rw [List.getElem?_append_left (by simpa using hi), List.getElem?_replicate, if_pos hi], rfl⟩
  · intro g
    rw [where_none.2 fun i => hin i g]
    rfl
  · intro i l c' h
    have hi : i < m := by have := (List.getElem?_eq_some_iff.1 h).1; simpa [newS] using this
    rw [newS, List.getElem?_replicate, if_pos hi] at h
    cases h
    exact hc
  · intro i j g h _
    exact absurd h (hin i g)
theorem mapsZ (a b : Nat) : mapsH (List.replicate a (rowZ c) ++ List.replicate b (rowZ 0)) = emp := by
  have e : ∀ (a : Nat) (c : Int), mapsH (List.replicate a (rowZ c)) = emp := by
    intro a c
    induction a with
    | zero => rfl
    | succ a ih => rw [List.replicate_succ]; show emp + _ = _; rw [ih, HProp.emp_add]
  rw [maps_app, e, e, HProp.emp_add]
theorem sNew (h1 : 1 ≤ n) (h2 : n ≤ 16) (hc : 0 ≤ c ∧ c ≤ 1073741824) : Does Try.prog B 23 [.int .i64 n, .int .i64 c] H fun r H' => ∃ p, H' = SemAt p (newS n.toNat c) + H ∧ r = .tuple #[.pointer (some ⟨p, 0, none⟩), .int .i64 0] := by
  refine fn_intro 44 Try.func23 rfl rfl rfl ?_
  refine walkG ?_
  repeat ((first | (show WPL _ _ _ _ _ (⟨_, .box _ _, _, _, _, none⟩ :: _) _ _ _; (first | refine s_box (v := .int _ _) rfl rfl rfl ?_ | refine s_box (v := .pointer _) rfl rfl rfl ?_ | refine s_box (v := .slice _ _ _) rfl rfl rfl ?_ | refine s_box (v := .bool _) rfl rfl rfl ?_ | refine s_box (v := .agg _) rfl rfl rfl ?_ | refine s_box (v := .string _) rfl rfl rfl ?_ | refine s_box (v := .func _ _ _) rfl rfl rfl ?_ | refine s_box (v := .float _ _) rfl rfl rfl ?_); intro _)); refine walkG ?_)
  refine s_makeMap rfl ?_
  intro b
  refine walkG ?_
  repeat ((first | (show WPL _ _ _ _ _ (⟨_, .box _ _, _, _, _, none⟩ :: _) _ _ _; (first | refine s_box (v := .int _ _) rfl rfl rfl ?_ | refine s_box (v := .pointer _) rfl rfl rfl ?_ | refine s_box (v := .slice _ _ _) rfl rfl rfl ?_ | refine s_box (v := .bool _) rfl rfl rfl ?_ | refine s_box (v := .agg _) rfl rfl rfl ?_ | refine s_box (v := .string _) rfl rfl rfl ?_ | refine s_box (v := .func _ _ _) rfl rfl rfl ?_ | refine s_box (v := .float _ _) rfl rfl rfl ?_); intro _)); refine walkG ?_)
  (refine s_build (cs := (cellsOf (List.replicate 16 (rowZ 0)) ++ [.int .i64 n, .map (some b)])) ?_ rfl ?_; (· kernel_rfl))
  refine s_box (cs := cellsOf (List.replicate 16 (rowZ 0)) ++ [.int .i64 n, .map (some b)]) rfl rfl rfl ?_
  intro p
  refine walkG ?_
  repeat ((first | (show WPL _ _ _ _ _ (⟨_, .box _ _, _, _, _, none⟩ :: _) _ _ _; (first | refine s_box (v := .int _ _) rfl rfl rfl ?_ | refine s_box (v := .pointer _) rfl rfl rfl ?_ | refine s_box (v := .slice _ _ _) rfl rfl rfl ?_ | refine s_box (v := .bool _) rfl rfl rfl ?_ | refine s_box (v := .agg _) rfl rfl rfl ?_ | refine s_box (v := .string _) rfl rfl rfl ?_ | refine s_box (v := .func _ _ _) rfl rfl rfl ?_ | refine s_box (v := .float _ _) rfl rfl rfl ?_); intro _)); refine walkG ?_)
  refine s_sliceArrH (h := n.toNat) rfl rfl (by omega) (by omega) rfl ?_
  refine walkG ?_
  repeat ((first | (show WPL _ _ _ _ _ (⟨_, .box _ _, _, _, _, none⟩ :: _) _ _ _; (first | refine s_box (v := .int _ _) rfl rfl rfl ?_ | refine s_box (v := .pointer _) rfl rfl rfl ?_ | refine s_box (v := .slice _ _ _) rfl rfl rfl ?_ | refine s_box (v := .bool _) rfl rfl rfl ?_ | refine s_box (v := .agg _) rfl rfl rfl ?_ | refine s_box (v := .string _) rfl rfl rfl ?_ | refine s_box (v := .func _ _ _) rfl rfl rfl ?_ | refine s_box (v := .float _ _) rfl rfl rfl ?_); intro _)); refine walkG ?_)
  refine wp_loopF (α := Nat) [7, 32, 33, 34, 35, 36, 37, 38, 39, 40, 41, 42] (fun i => [(32, .int .i64 (i : Nat))]) (fun i => blk p (cellsOf (List.replicate i (rowZ c) ++ List.replicate (16 - i) (rowZ 0)) ++ [.int .i64 n, .map (some b)]) 85 + (MapAt b [] + H)) (fun i => i ≤ n.toNat) (fun i => n.toNat - i) 0 agreed (Ent.refl _) (Nat.zero_le _) ?_
  rintro i g hi
  simp only [putAll]
  have hn : ((n.toNat : Nat) : Int) = n := Int.toNat_of_nonneg (by omega)
  by_cases hlt : i < n.toNat
  · have e : cellsOf (List.replicate i (rowZ c) ++ List.replicate (16 - i) (rowZ 0)) ++ [.int .i64 n, .map (some b)] = cellsOf (List.replicate i (rowZ c)) ++ .map none :: .int .i64 0 :: .int .i64 0 :: .int .i64 0 :: (cellsOf (List.replicate (15 - i) (rowZ 0)) ++ [.int .i64 n, .map (some b)]) := by
      rw [show 16 - i = (15 - i) + 1 by omega, List.replicate_succ, cells_app]
      simp only [cellsOf, rowV, mapV, List.append_assoc, List.cons_append, List.nil_append]
    have e2 : cellsOf (List.replicate (i + 1) (rowZ c) ++ List.replicate (16 - (i + 1)) (rowZ 0)) ++ [.int .i64 n, .map (some b)] = cellsOf (List.replicate i (rowZ c)) ++ .map none :: .int .i64 0 :: .int .i64 0 :: .int .i64 c :: (cellsOf (List.replicate (15 - i) (rowZ 0)) ++ [.int .i64 n, .map (some b)]) := by
      rw [show 16 - (i + 1) = 15 - i by omega, List.replicate_succ', cells_app, cells_app]
      simp only [cellsOf, rowV, mapV, List.append_assoc, List.cons_append, List.nil_append]
    have el : (cellsOf (List.replicate i (rowZ c))).length = 4 * i := by rw [cells_len, List.length_replicate]
    rw [e]
    refine walkG ?_
    repeat ((first | (show WPL _ _ _ _ _ (⟨_, .box _ _, _, _, _, none⟩ :: _) _ _ _; (first | refine s_box (v := .int _ _) rfl rfl rfl ?_ | refine s_box (v := .pointer _) rfl rfl rfl ?_ | refine s_box (v := .slice _ _ _) rfl rfl rfl ?_ | refine s_box (v := .bool _) rfl rfl rfl ?_ | refine s_box (v := .agg _) rfl rfl rfl ?_ | refine s_box (v := .string _) rfl rfl rfl ?_ | refine s_box (v := .func _ _ _) rfl rfl rfl ?_ | refine s_box (v := .float _ _) rfl rfl rfl ?_); intro _)); refine walkG ?_)
    refine s_indexAddrA (j := i) rfl rfl (by omega) (by omega) (o' := 4 * i) (by omega) rfl ?_
    rw [← el]
    refine walkG ?_
    repeat ((first | (show WPL _ _ _ _ _ (⟨_, .box _ _, _, _, _, none⟩ :: _) _ _ _; (first | refine s_box (v := .int _ _) rfl rfl rfl ?_ | refine s_box (v := .pointer _) rfl rfl rfl ?_ | refine s_box (v := .slice _ _ _) rfl rfl rfl ?_ | refine s_box (v := .bool _) rfl rfl rfl ?_ | refine s_box (v := .agg _) rfl rfl rfl ?_ | refine s_box (v := .string _) rfl rfl rfl ?_ | refine s_box (v := .func _ _ _) rfl rfl rfl ?_ | refine s_box (v := .float _ _) rfl rfl rfl ?_); intro _)); refine walkG ?_)
    refine s_storeM3 (v := .int .i64 c) rfl rfl rfl ?_
    refine walkG ?_
    repeat ((first | (show WPL _ _ _ _ _ (⟨_, .box _ _, _, _, _, none⟩ :: _) _ _ _; (first | refine s_box (v := .int _ _) rfl rfl rfl ?_ | refine s_box (v := .pointer _) rfl rfl rfl ?_ | refine s_box (v := .slice _ _ _) rfl rfl rfl ?_ | refine s_box (v := .bool _) rfl rfl rfl ?_ | refine s_box (v := .agg _) rfl rfl rfl ?_ | refine s_box (v := .string _) rfl rfl rfl ?_ | refine s_box (v := .func _ _ _) rfl rfl rfl ?_ | refine s_box (v := .float _ _) rfl rfl rfl ?_); intro _)); refine walkG ?_)
    exact ⟨i + 1, asided, agreed, by rw [e2]; exact Ent.refl _, hlt, by omega⟩
  · have hie : i = n.toNat := by omega
    subst hie
    refine walkG ?_
    repeat ((first | (show WPL _ _ _ _ _ (⟨_, .box _ _, _, _, _, none⟩ :: _) _ _ _; (first | refine s_box (v := .int _ _) rfl rfl rfl ?_ | refine s_box (v := .pointer _) rfl rfl rfl ?_ | refine s_box (v := .slice _ _ _) rfl rfl rfl ?_ | refine s_box (v := .bool _) rfl rfl rfl ?_ | refine s_box (v := .agg _) rfl rfl rfl ?_ | refine s_box (v := .string _) rfl rfl rfl ?_ | refine s_box (v := .func _ _ _) rfl rfl rfl ?_ | refine s_box (v := .float _ _) rfl rfl rfl ?_); intro _)); refine walkG ?_)
    refine QRet.ent (G := SemAt p (newS n.toNat c) + H) ?_ ?_
    · refine Ent.trans (Ent.ac ?_) ((sem_shut (bw := b) (newF (m := n.toNat) (c := c) (by omega) (by omega) hc)).frame_right H)
      unfold SemX
      rw [mapsZ, HProp.emp_add, HProp.add_assoc]
      simp only [newS, List.length_replicate, hn]
    · (first | refine ret2 (v := .pointer _) (x := .int _ _) (.inr rfl) rfl rfl rfl ?_ | refine ret2  (.inr rfl) rfl rfl rfl ?_ | refine ret2 (v := .pointer _) (x := .int _ _) (.inl rfl) rfl rfl rfl ?_ | refine ret2  (.inl rfl) rfl rfl rfl ?_)
      exact ⟨p, rfl, rfl⟩
end
end Go.Proofs.Ytlhnmbajbhaaoaa
