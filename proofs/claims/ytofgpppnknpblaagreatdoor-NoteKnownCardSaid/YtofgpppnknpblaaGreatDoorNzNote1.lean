/- Notes: the forms of the kinds; what is right. No condition. -/
import Derived.Test.YtofgpppnknpblaaGreatDoorNzInst
import Derived.Test.YtofgpppnknpblaaGreatDoorSL3
import Derived.Test.YtofgpppnknpblaaGreatDoorSL4
namespace Go.Proofs.YtofgpppnknpblaaGreatDoor
open Go Go.SL
set_option linter.unusedSimpArgs false
set_option linter.unusedVariables false
set_option maxRecDepth 10000
set_option maxHeartbeats 2000000
structure Nt where
  kind : Int
  g : Int
  p : Int
  m : Int
  x : Int
deriving DecidableEq
abbrev nv (n : Nt) : List Value := [.int .i64 n.kind, .int .i64 n.g, .int .i64 n.p, .int .i64 n.m, .int .i64 n.x]
abbrev noteV (n : Nt) : Value := .agg (nv n).toArray
abbrev zeroN : Nt := ⟨0, 0, 0, 0, 0⟩
/-- Which letters a kind has. -/
def hasT : List (List UInt8) := [[], [103, 109, 120], [103, 112, 109, 120], [103, 112, 109], [103, 112, 109], [103, 112, 109, 120], [103, 112, 109, 120], [103, 112, 109, 120], [103, 109, 120], [103, 112, 109], [103, 112, 109], [103, 112, 109, 120], [103, 109], [112, 109, 120], [112, 109], [112], [112]]
def wordT : List (List UInt8) := [[], [98, 111, 114, 110], [100, 105, 115, 112, 97, 116, 99, 104], [121, 105, 101, 108, 100], [112, 114, 101, 101, 109, 112, 116], [116, 111, 111, 107], [119, 97, 105, 116], [103, 97, 118, 101], [114, 101, 97, 100, 121], [101, 120, 105, 116], [99, 97, 108, 108], [98, 97, 99, 107], [108, 111, 115, 116], [115, 116, 97, 114, 116], [112, 97, 114, 107], [114, 101, 116, 97, 107, 101], [102, 108, 97, 103]]
def flagT : List Bool := [false, false, true, false, false, false, false, false, false, false, false, true, false, true, false, false, false]
def hasK (k : Nat) : List UInt8 := hasT.getD k []
def wordK (k : Nat) : List UInt8 := wordT.getD k []
def flagK (k : Nat) : Bool := flagT.getD k false
def hasOf (k : Int) : List UInt8 := if 0 ≤ k then hasK k.toNat else []
def flagOf (k : Int) : Bool := if 0 ≤ k then flagK k.toNat else false
theorem hasK_big {k : Nat} (h : 17 ≤ k) : hasK k = [] := by
  unfold hasK
  rw [List.getD_eq_getElem?_getD, List.getElem?_eq_none (by show 17 ≤ k; exact h)]; rfl
theorem hasOf_kind {k : Int} (h : hasOf k ≠ []) : 1 ≤ k ∧ k ≤ 16 := by
  unfold hasOf at h
  split at h
  · obtain ⟨n, rfl⟩ := Int.eq_ofNat_of_zero_le (by assumption)
    rw [Int.toNat_natCast] at h
    refine ⟨?_, ?_⟩
    · rcases Nat.eq_zero_or_pos n with h0 | h0
      · subst h0; exact absurd rfl h
      · omega
    · rcases Nat.lt_or_ge n 17 with h1 | h1
      · omega
      · exact absurd (hasK_big h1) h
  · exact absurd rfl h
theorem hasK_ne : ∀ k, k < 17 → 1 ≤ k → hasK k ≠ [] := by decide
theorem has_letters : ∀ k, k < 17 → ∀ c ∈ hasK k, c = 103 ∨ c = 112 ∨ c = 109 ∨ c = 120 := by decide
theorem has_nodup : ∀ k, k < 17 → (hasK k).Nodup := by decide
theorem has_len : ∀ k, k < 17 → (hasK k).length ≤ 4 := by decide
theorem letters {k : Int} {c : UInt8} (h : c ∈ hasOf k) : c = 103 ∨ c = 112 ∨ c = 109 ∨ c = 120 := by
  have hk := hasOf_kind (k := k) (List.ne_nil_of_mem h)
  obtain ⟨n, rfl⟩ := Int.eq_ofNat_of_zero_le (show 0 ≤ k by omega)
  unfold hasOf at h
  rw [if_pos (by omega), Int.toNat_natCast] at h
  exact has_letters n (by omega) c h
theorem hasOf_len (k : Int) : (hasOf k).length ≤ 4 := by
  by_cases h : hasOf k = []
  · rw [h]; simp
  · have hk := hasOf_kind h
    obtain ⟨n, rfl⟩ := Int.eq_ofNat_of_zero_le (show 0 ≤ k by omega)
    unfold hasOf
    rw [if_pos (by omega), Int.toNat_natCast]
    exact has_len n (by omega)
/-- A letter's number. -/
def getL (n : Nt) (c : UInt8) : Int := if c = 103 then n.g else if c = 112 then n.p else if c = 109 then n.m else n.x
def setL (n : Nt) (c : UInt8) (v : Int) : Nt := if c = 103 then { n with g := v } else if c = 112 then { n with p := v } else if c = 109 then { n with m := v } else { n with x := v }
def placeL (c : UInt8) : Nat := if c = 103 then 1 else if c = 112 then 2 else if c = 109 then 3 else 4
/-- What a letter's number may be. -/
def FitP (k : Int) (c : UInt8) (v : Int) : Prop := if c ∈ hasOf k then 0 ≤ v ∧ (c = 120 → flagOf k = true → v < 2) else v = -1
instance (k : Int) (c : UInt8) (v : Int) : Decidable (FitP k c v) := by unfold FitP; exact inferInstance
def RightN (n : Nt) : Prop := hasOf n.kind ≠ [] ∧ FitP n.kind 103 n.g ∧ FitP n.kind 112 n.p ∧ FitP n.kind 109 n.m ∧ FitP n.kind 120 n.x
instance (n : Nt) : Decidable (RightN n) := by unfold RightN; exact inferInstance
/-- A note with the numbers of some letters alone. -/
def sameN (n : Nt) (L : List UInt8) : Nt := ⟨n.kind, if 103 ∈ L then n.g else -1, if 112 ∈ L then n.p else -1, if 109 ∈ L then n.m else -1, if 120 ∈ L then n.x else -1⟩
theorem sameN_nil (n : Nt) : sameN n [] = ⟨n.kind, -1, -1, -1, -1⟩ := rfl
theorem sameN_push {n : Nt} {L : List UInt8} {c : UInt8} (hc : c = 103 ∨ c = 112 ∨ c = 109 ∨ c = 120) : setL (sameN n L) c (getL n c) = sameN n (L ++ [c]) := by
  rcases hc with rfl | rfl | rfl | rfl <;> simp [setL, getL, sameN]
theorem nv_set {n : Nt} {c : UInt8} {v : Int} (hc : c = 103 ∨ c = 112 ∨ c = 109 ∨ c = 120) : (nv n).set (placeL c) (.int .i64 v) = nv (setL n c v) := by
  rcases hc with rfl | rfl | rfl | rfl <;> simp [setL, placeL]
theorem nv_at {n : Nt} {c : UInt8} (hc : c = 103 ∨ c = 112 ∨ c = 109 ∨ c = 120) : (nv n)[placeL c]? = some (.int .i64 (getL n c)) := by
  rcases hc with rfl | rfl | rfl | rfl <;> simp [getL, placeL]
theorem place_lt (c : UInt8) : placeL c < 5 := by
  unfold placeL
  split
  · omega
  split
  · omega
  split <;> omega
/-- A kind's form, as it lies in memory. -/
def formC (k : Nat) : List Value := [str (wordK k), str (hasK k), .bool (flagK k)]
def formsC : List Value := (List.range 17).flatMap formC
abbrev formV (k : Nat) : Value := .agg (formC k).toArray
theorem formsC_at : ∀ k, k < 17 → (formsC.drop (k * 3)).take 3 = formC k := by
  intro k hk
  match k, hk with
  | 0, _ => rfl
  | 1, _ => rfl
  | 2, _ => rfl
  | 3, _ => rfl
  | 4, _ => rfl
  | 5, _ => rfl
  | 6, _ => rfl
  | 7, _ => rfl
  | 8, _ => rfl
  | 9, _ => rfl
  | 10, _ => rfl
  | 11, _ => rfl
  | 12, _ => rfl
  | 13, _ => rfl
  | 14, _ => rfl
  | 15, _ => rfl
  | 16, _ => rfl
  | k + 17, h => exact absurd h (by omega)
attribute [local irreducible] WP WPL QSeq QBlk QRet Does Cell Cells Rd Mine Ent Aside RV Yield IterAt
section
variable {B : World} {F H G : HProp} {n : Nt} {k v : Int} {c : UInt8} {b : Nat}
theorem forms_spec : Does Tryz.prog B 41 [] H fun r H' => H' = H ∧ r = .agg formsC.toArray := by
  refine Does.frame0 ?_
  refine fn_intro 18 Tryz.func41 rfl rfl rfl ?_
  refine walk ?_
  refine s_alloc rfl ?_
  intro b
  refine walk ?_
  (refine s_build (cs := formC 1) ?_ rfl ?_; (· kernel_rfl))
  (refine s_build (cs := formC 2) ?_ rfl ?_; (· kernel_rfl))
  (refine s_build (cs := formC 3) ?_ rfl ?_; (· kernel_rfl))
  (refine s_build (cs := formC 4) ?_ rfl ?_; (· kernel_rfl))
  (refine s_build (cs := formC 5) ?_ rfl ?_; (· kernel_rfl))
  (refine s_build (cs := formC 6) ?_ rfl ?_; (· kernel_rfl))
  (refine s_build (cs := formC 7) ?_ rfl ?_; (· kernel_rfl))
  (refine s_build (cs := formC 8) ?_ rfl ?_; (· kernel_rfl))
  (refine s_build (cs := formC 9) ?_ rfl ?_; (· kernel_rfl))
  (refine s_build (cs := formC 10) ?_ rfl ?_; (· kernel_rfl))
  (refine s_build (cs := formC 11) ?_ rfl ?_; (· kernel_rfl))
  (refine s_build (cs := formC 12) ?_ rfl ?_; (· kernel_rfl))
  (refine s_build (cs := formC 13) ?_ rfl ?_; (· kernel_rfl))
  (refine s_build (cs := formC 14) ?_ rfl ?_; (· kernel_rfl))
  (refine s_build (cs := formC 15) ?_ rfl ?_; (· kernel_rfl))
  (refine s_build (cs := formC 16) ?_ rfl ?_; (· kernel_rfl))
  (refine s_buildA (cs := formsC) ?_ rfl ?_; (· kernel_rfl))
  refine s_storeV (vs := formsC) rfl rfl rfl rfl rfl ?_
  refine walk ?_
  (first | (apply retRD1 (G := H) (.inr rfl) rfl; (· first | (refine rv_cell (v := .agg _) rfl (Cell.blk rfl)) | exact rv_cellA rfl Cells.blk0 rfl | (apply rv_cell; (· exact rfl); (· assumption)) | (apply rv_cellA; (· exact rfl); (· assumption); (· exact rfl))); (· exact Ent.auto)) | (apply retRD1 (G := H) (.inl rfl) rfl; (· first | (refine rv_cell (v := .agg _) rfl (Cell.blk rfl)) | exact rv_cellA rfl Cells.blk0 rfl | (apply rv_cell; (· exact rfl); (· assumption)) | (apply rv_cellA; (· exact rfl); (· assumption); (· exact rfl))); (· exact Ent.auto)))
  exact ⟨Ent.refl _, rfl⟩
theorem of_spec {i : Nat} (h1 : 1 ≤ i) (h2 : i < 17) : Does Tryz.prog B 36 [.int .i64 i] H fun r H' => H' = H ∧ r = .tuple #[formV i, .bool true] := by
  refine Does.frame0 ?_
  refine fn_intro 14 Tryz.func36 rfl rfl rfl ?_
  refine walk ?_
  refine s_alloc rfl ?_
  intro b
  refine walk ?_
  refine s_call rfl (forms_spec) rfl ?_
  rintro _ _ ⟨e_, rfl⟩
  obtain rfl := e_.symm
  refine walk ?_
  refine s_indexVA (j := i) (vs := formC i) rfl rfl rfl h2 (formsC_at i h2) rfl ?_
  refine s_storeV (vs := formC i) rfl rfl rfl rfl rfl ?_
  refine walk ?_
  (first | (apply retRD2 (G := H) (.inr rfl) rfl; (· first | (refine rv_cell (v := .agg _) rfl (Cell.blk rfl)) | exact rv_cellA rfl Cells.blk0 rfl | (apply rv_cell; (· exact rfl); (· assumption)) | (apply rv_cellA; (· exact rfl); (· assumption); (· exact rfl))); (· first | (refine rv_tmp (v := .bool _) rfl) | exact rv_tmp rfl); (· exact Ent.auto)) | (apply retRD2 (G := H) (.inl rfl) rfl; (· first | (refine rv_cell (v := .agg _) rfl (Cell.blk rfl)) | exact rv_cellA rfl Cells.blk0 rfl | (apply rv_cell; (· exact rfl); (· assumption)) | (apply rv_cellA; (· exact rfl); (· assumption); (· exact rfl))); (· first | (refine rv_tmp (v := .bool _) rfl) | exact rv_tmp rfl); (· exact Ent.auto)))
  exact ⟨Ent.refl _, rfl⟩
theorem of_none (h : ¬ (1 ≤ k ∧ k ≤ 16)) : Does Tryz.prog B 36 [.int .i64 k] H fun r H' => H' = H ∧ r = .tuple #[formV 0, .bool false] := by
  refine Does.frame0 ?_
  refine fn_intro 14 Tryz.func36 rfl rfl rfl ?_
  by_cases h1 : k < 1
  · refine walk ?_
    refine s_alloc rfl ?_
    intro b
    refine walk ?_
    (refine s_build (cs := formC 0) ?_ rfl ?_; (· kernel_rfl))
    refine s_storeV (vs := formC 0) rfl rfl rfl rfl rfl ?_
    refine walk ?_
    (first | (apply retRD2 (G := H) (.inr rfl) rfl; (· first | (refine rv_cell (v := .agg _) rfl (Cell.blk rfl)) | exact rv_cellA rfl Cells.blk0 rfl | (apply rv_cell; (· exact rfl); (· assumption)) | (apply rv_cellA; (· exact rfl); (· assumption); (· exact rfl))); (· first | (refine rv_tmp (v := .bool _) rfl) | exact rv_tmp rfl); (· exact Ent.auto)) | (apply retRD2 (G := H) (.inl rfl) rfl; (· first | (refine rv_cell (v := .agg _) rfl (Cell.blk rfl)) | exact rv_cellA rfl Cells.blk0 rfl | (apply rv_cell; (· exact rfl); (· assumption)) | (apply rv_cellA; (· exact rfl); (· assumption); (· exact rfl))); (· first | (refine rv_tmp (v := .bool _) rfl) | exact rv_tmp rfl); (· exact Ent.auto)))
    exact ⟨Ent.refl _, rfl⟩
  · refine walk ?_
    refine s_alloc rfl ?_
    intro b
    refine walk ?_
    (refine s_build (cs := formC 0) ?_ rfl ?_; (· kernel_rfl))
    refine s_storeV (vs := formC 0) rfl rfl rfl rfl rfl ?_
    refine walk ?_
    (first | (apply retRD2 (G := H) (.inr rfl) rfl; (· first | (refine rv_cell (v := .agg _) rfl (Cell.blk rfl)) | exact rv_cellA rfl Cells.blk0 rfl | (apply rv_cell; (· exact rfl); (· assumption)) | (apply rv_cellA; (· exact rfl); (· assumption); (· exact rfl))); (· first | (refine rv_tmp (v := .bool _) rfl) | exact rv_tmp rfl); (· exact Ent.auto)) | (apply retRD2 (G := H) (.inl rfl) rfl; (· first | (refine rv_cell (v := .agg _) rfl (Cell.blk rfl)) | exact rv_cellA rfl Cells.blk0 rfl | (apply rv_cell; (· exact rfl); (· assumption)) | (apply rv_cellA; (· exact rfl); (· assumption); (· exact rfl))); (· first | (refine rv_tmp (v := .bool _) rfl) | exact rv_tmp rfl); (· exact Ent.auto)))
    exact ⟨Ent.refl _, rfl⟩
theorem place_spec (hc : c = 103 ∨ c = 112 ∨ c = 109 ∨ c = 120) : Does Tryz.prog B 37 [.pointer (some ⟨b, 0, none⟩), .int .i32 (c.toNat : Nat)] H fun r H' => H' = H ∧ r = .pointer (some ⟨b, placeL c, none⟩) := by
  refine fn_intro 24 Tryz.func37 rfl rfl rfl ?_
  rcases hc with rfl | rfl | rfl | rfl
  · simp only [show (103 : UInt8).toNat = 103 from rfl]
    refine walk ?_
    (first | refine ret1 (v := .pointer _) (.inr rfl) rfl rfl ?_ | refine ret1  (.inr rfl) rfl rfl ?_ | refine ret1 (v := .pointer _) (.inl rfl) rfl rfl ?_ | refine ret1  (.inl rfl) rfl rfl ?_)
    exact ⟨rfl, rfl⟩
  · simp only [show (112 : UInt8).toNat = 112 from rfl]
    refine walk ?_
    (first | refine ret1 (v := .pointer _) (.inr rfl) rfl rfl ?_ | refine ret1  (.inr rfl) rfl rfl ?_ | refine ret1 (v := .pointer _) (.inl rfl) rfl rfl ?_ | refine ret1  (.inl rfl) rfl rfl ?_)
    exact ⟨rfl, rfl⟩
  · simp only [show (109 : UInt8).toNat = 109 from rfl]
    refine walk ?_
    (first | refine ret1 (v := .pointer _) (.inr rfl) rfl rfl ?_ | refine ret1  (.inr rfl) rfl rfl ?_ | refine ret1 (v := .pointer _) (.inl rfl) rfl rfl ?_ | refine ret1  (.inl rfl) rfl rfl ?_)
    exact ⟨rfl, rfl⟩
  · simp only [show (120 : UInt8).toNat = 120 from rfl]
    refine walk ?_
    (first | refine ret1 (v := .pointer _) (.inr rfl) rfl rfl ?_ | refine ret1  (.inr rfl) rfl rfl ?_ | refine ret1 (v := .pointer _) (.inl rfl) rfl rfl ?_ | refine ret1  (.inl rfl) rfl rfl ?_)
    exact ⟨rfl, rfl⟩
end
end Go.Proofs.YtofgpppnknpblaaGreatDoor
