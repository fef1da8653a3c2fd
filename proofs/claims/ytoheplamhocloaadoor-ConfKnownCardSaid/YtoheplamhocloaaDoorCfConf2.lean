/- The names of a config's cells: plain. No condition. -/
import Derived.Test.YtoheplamhocloaaDoorCfConf1
import Derived.Test.YtoheplamhocloaaDoorSL4
namespace Go.Proofs.YtoheplamhocloaaDoor
open Go Go.SL
set_option linter.unusedSimpArgs false
set_option linter.unusedVariables false
set_option maxRecDepth 10000
set_option maxHeartbeats 1000000
abbrev dg (n : Nat) : List UInt8 := Lib.decDigits n
def heads : List (List UInt8) := [[116, 105, 99, 107, 101, 116], [115, 101, 114, 118, 105, 110, 103], [105, 100, 108, 101], [115, 105, 122, 101]]
def parts : List (List UInt8) := [[119, 111, 114, 100], [110, 101, 120, 116], [115, 116, 97, 116], [116, 105, 99, 107], [115, 121, 115], [102, 108, 97, 103]]
def slotW : List UInt8 := [115, 108, 111, 116]
def partN (i p : Nat) : List UInt8 := parts.getD i [] ++ 32 :: dg p
def slotN (p i : Nat) : List UInt8 := slotW ++ 32 :: (dg p ++ 32 :: dg i)
def rowN (q p : Nat) : List (List UInt8) := (List.range 6).map (partN · p) ++ (List.range q).map (slotN p)
def namesL (n q : Nat) : List (List UInt8) := heads ++ (List.range n).flatMap (rowN q)
def cellN (q p i : Nat) : List UInt8 := if i < 6 then partN i p else slotN p (i - 6)
def nameOf (q k : Nat) : List UInt8 := if k < 4 then heads.getD k [] else cellN q ((k - 4) / (6 + q)) ((k - 4) % (6 + q))
theorem rowN_len (q p : Nat) : (rowN q p).length = 6 + q := by simp [rowN]
theorem rowN_get {q p i : Nat} (h : i < 6 + q) : (rowN q p)[i]? = some (cellN q p i) := by
  unfold rowN cellN
  by_cases hi : i < 6
  · rw [List.getElem?_append_left (by simpa using hi), List.getElem?_map, List.getElem?_range hi, if_pos hi]; rfl
  · rw [List.getElem?_append_right (by simp; omega), List.getElem?_map, List.length_map, List.length_range, List.getElem?_range (by omega), if_neg hi]; rfl
theorem names_len (n q : Nat) : (namesL n q).length = 4 + n * (6 + q) := by
  unfold namesL
  rw [List.length_append, flatMap_len (rowN_len q)]; rfl
theorem names_get {n q k : Nat} (h : k < 4 + n * (6 + q)) : (namesL n q)[k]? = some (nameOf q k) := by
  unfold namesL nameOf
  by_cases hk : k < 4
  · rw [List.getElem?_append_left (by show k < 4; exact hk), if_pos hk, List.getD_eq_getElem?_getD, List.getElem?_eq_getElem (by show k < 4; exact hk)]; rfl
  · rw [List.getElem?_append_right (by show 4 ≤ k; omega), if_neg hk]
    show ((List.range n).flatMap (rowN q))[k - 4]? = _
    rw [flatMap_get (rowN_len q) n (k - 4) (by omega), rowN_get (Nat.mod_lt _ (by omega))]
theorem heads_blank : ∀ k, k < 4 → (32 : UInt8) ∉ heads.getD k [] := by decide
theorem parts_blank : ∀ k, k < 6 → (32 : UInt8) ∉ parts.getD k [] := by decide
theorem slot_blank : (32 : UInt8) ∉ slotW := by decide
theorem heads_inj : ∀ k, k < 4 → ∀ j, j < 4 → heads.getD k [] = heads.getD j [] → k = j := by decide
theorem parts_inj : ∀ k, k < 6 → ∀ j, j < 6 → parts.getD k [] = parts.getD j [] → k = j := by decide
theorem parts_slot : ∀ k, k < 6 → parts.getD k [] ≠ slotW := by decide
theorem dg_blank (n : Nat) : (32 : UInt8) ∉ dg n := dec_no n (.inl (by decide))
theorem cell_blank (q p i : Nat) : (32 : UInt8) ∈ cellN q p i := by
  unfold cellN
  split
  · unfold partN; simp
  · unfold slotN; simp
theorem cell_inj {q p i p' i' : Nat} (h : cellN q p i = cellN q p' i') : p = p' ∧ i = i' := by
  unfold cellN at h
  by_cases h1 : i < 6
  · rw [if_pos h1] at h
    by_cases h2 : i' < 6
    · rw [if_pos h2] at h
      unfold partN at h
      obtain ⟨e1, e2⟩ := cut_inj (parts_blank i h1) (parts_blank i' h2) h
      exact ⟨dec_inj _ _ e2, parts_inj i h1 i' h2 e1⟩
    · rw [if_neg h2] at h
      unfold partN slotN at h
      obtain ⟨e1, e2⟩ := cut_inj (parts_blank i h1) slot_blank h
      exact absurd e1 (parts_slot i h1)
  · rw [if_neg h1] at h
    by_cases h2 : i' < 6
    · rw [if_pos h2] at h
      unfold partN slotN at h
      obtain ⟨e1, e2⟩ := cut_inj slot_blank (parts_blank i' h2) h
      exact absurd e1.symm (parts_slot i' h2)
    · rw [if_neg h2] at h
      unfold slotN at h
      obtain ⟨_, e2⟩ := cut_inj slot_blank slot_blank h
      obtain ⟨e3, e4⟩ := cut_inj (dg_blank _) (dg_blank _) e2
      have := dec_inj _ _ e3
      have := dec_inj _ _ e4
      omega
theorem name_inj {q k j : Nat} (h : nameOf q k = nameOf q j) : k = j := by
  unfold nameOf at h
  by_cases h1 : k < 4
  · rw [if_pos h1] at h
    by_cases h2 : j < 4
    · rw [if_pos h2] at h
      exact heads_inj k h1 j h2 h
    · rw [if_neg h2] at h
      exact absurd (h ▸ cell_blank q _ _) (heads_blank k h1)
  · rw [if_neg h1] at h
    by_cases h2 : j < 4
    · rw [if_pos h2] at h
      exact absurd (h ▸ cell_blank q _ _) (heads_blank j h2)
    · rw [if_neg h2] at h
      obtain ⟨e1, e2⟩ := cell_inj h
      have d1 := Nat.div_add_mod (k - 4) (6 + q)
      have d2 := Nat.div_add_mod (j - 4) (6 + q)
      rw [e1, e2] at d1
      omega
/-- Where a name stands; -1: nowhere. -/
def posS (L : List (List UInt8)) (s : List UInt8) : Int := match L.findIdx? fun x => decide (x = s) with
  | some i => (i : Nat)
  | none => -1
theorem posS_at {L : List (List UInt8)} {s : List UInt8} {k : Nat} (h : L[k]? = some s) (hn : ∀ j, j < k → L[j]? ≠ some s) : posS L s = k := by
  obtain ⟨hk, e⟩ := List.getElem?_eq_some_iff.1 h
  unfold posS
  rw [List.findIdx?_eq_some_iff_getElem.2 ⟨hk, by simpa using e, fun j hj => by
    simp only [decide_eq_true_eq]
    intro e2
    exact hn j hj (by rw [List.getElem?_eq_getElem (by omega), e2])⟩]
theorem posS_none {L : List (List UInt8)} {s : List UInt8} (h : ∀ j, j < L.length → L[j]? ≠ some s) : posS L s = -1 := by
  unfold posS
  rw [List.findIdx?_eq_none_iff.2 fun x hx => by
    simp only [decide_eq_false_iff_not]
    intro e
    obtain ⟨j, hj, e2⟩ := List.mem_iff_getElem.1 hx
    exact h j hj (by rw [List.getElem?_eq_getElem hj, e2, e])]
theorem pos_name {n q k : Nat} (h : k < 4 + n * (6 + q)) : posS (namesL n q) (nameOf q k) = k :=
  posS_at (names_get h) fun j hj e => by
    rw [names_get (by omega)] at e
    have := name_inj (Option.some.inj e)
    omega
theorem pos_no {n q : Nat} {s : List UInt8} (h : ∀ k, k < 4 + n * (6 + q) → nameOf q k ≠ s) : posS (namesL n q) s = -1 :=
  posS_none fun j hj e => by
    rw [names_len] at hj
    rw [names_get hj] at e
    exact h j hj (Option.some.inj e)
theorem name_cell {q p i : Nat} (hi : i < 6 + q) : nameOf q (4 + p * (6 + q) + i) = cellN q p i := by
  unfold nameOf
  rw [if_neg (by omega), show 4 + p * (6 + q) + i - 4 = i + p * (6 + q) by omega, Nat.add_mul_div_right _ _ (by omega), Nat.add_mul_mod_self_right, Nat.div_eq_of_lt hi, Nat.mod_eq_of_lt hi, Nat.zero_add]
theorem pos_cell {n q p i : Nat} (hi : i < 6 + q) (hp : p < n) : posS (namesL n q) (cellN q p i) = ((4 + p * (6 + q) + i : Nat) : Int) := by
  rw [← name_cell hi]
  refine pos_name ?_
  have : (p + 1) * (6 + q) ≤ n * (6 + q) := Nat.mul_le_mul_right _ hp
  rw [Nat.add_mul] at this
  omega
theorem pos_cell_no {n q p i : Nat} (hp : n ≤ p) : posS (namesL n q) (cellN q p i) = -1 := by
  refine pos_no fun k hk e => ?_
  by_cases h4 : k < 4
  · unfold nameOf at e
    rw [if_pos h4] at e
    exact absurd (e ▸ cell_blank q p i) (heads_blank k h4)
  · unfold nameOf at e
    rw [if_neg h4] at e
    obtain ⟨e1, _⟩ := cell_inj e
    have : (k - 4) / (6 + q) < n := Nat.div_lt_of_lt_mul (by rw [Nat.mul_comm]; omega)
    omega
end Go.Proofs.YtoheplamhocloaaDoor
