/- Never more ahead than there were: in plain lists. No condition. -/
import Derived.Test.YtcnpcmdcbafaeaaDLaw0
namespace Go.Proofs.Ytcnpcmdcbafaeaa
open Go Go.SL
set_option linter.unusedSimpArgs false
set_option linter.unusedVariables false
theorem aheadFrom_le {x : Int} : ∀ (l : List Int) (j : Nat) (c : Int), l[j]? = some x → aheadFrom x l c ≤ c + j
  | [], j, c, h => by simp at h
  | y :: ys, j, c, h => by
    unfold aheadFrom
    by_cases e : y = x
    · rw [if_pos e]; omega
    · rw [if_neg e]
      cases j with
      | zero => simp at h; exact absurd h e
      | succ j =>
        have := aheadFrom_le ys j (c + 1) (by simpa using h)
        omega
theorem ahead_le {x : Int} {l : List Int} {j : Nat} (h : l[j]? = some x) : ahead x l ≤ j := by
  have := aheadFrom_le l j 0 h
  unfold ahead; omega
theorem ahead_none {x : Int} {l : List Int} (h : x ∉ l) : ahead x l = -1 := aheadFrom_none l 0 h
theorem ahead_at {l : List Int} (hn : l.Nodup) {k : Nat} (hk : k < l.length) : ahead l[k] l = k := by
  have e : l = l.take k ++ l[k] :: l.drop (k + 1) := by rw [← List.drop_eq_getElem_cons hk, List.take_append_drop]
  have hni : l[k] ∉ l.take k := fun hin => by
    have h2 := hn
    rw [e, List.nodup_append] at h2
    exact h2.2.2 _ hin _ List.mem_cons_self rfl
  have := aheadFrom_at (g := l[k]) (l.take k) (l.drop (k + 1)) 0 hni
  rw [← e] at this
  unfold ahead
  rw [this, List.length_take]
  omega
/-- Nobody has more ahead than there were. -/
def Keeps (L L' : List Int) : Prop := ∀ (k : Nat) (x : Int), L[k]? = some x → ahead x L' ≤ k
theorem Keeps.same (L : List Int) : Keeps L L := fun k x h => ahead_le h
theorem Keeps.push (L : List Int) (g : Int) : Keeps L (L ++ [g]) := fun k x h => ahead_le (by
  rw [List.getElem?_append_left (List.getElem?_eq_some_iff.1 h).1]; exact h)
theorem nodup_at {l : List Int} (hn : l.Nodup) {j k : Nat} {x : Int} (h1 : l[j]? = some x) (h2 : l[k]? = some x) : j = k := by
  obtain ⟨hj, e1⟩ := List.getElem?_eq_some_iff.1 h1
  obtain ⟨hk, e2⟩ := List.getElem?_eq_some_iff.1 h2
  have a1 := ahead_at hn hj
  have a2 := ahead_at hn hk
  rw [e1] at a1
  rw [e2] at a2
  omega
theorem Keeps.drop {L : List Int} (hn : L.Nodup) (m : Nat) : Keeps L (L.drop m) := fun k x h => by
  by_cases hx : x ∈ L.drop m
  · obtain ⟨j, hj⟩ := List.mem_iff_getElem?.1 hx
    have h1 := ahead_le hj
    rw [List.getElem?_drop] at hj
    have := nodup_at hn hj h
    omega
  · rw [ahead_none hx]; omega
theorem Keeps.take {L : List Int} (hn : L.Nodup) (m : Nat) : Keeps L (L.take m) := fun k x h => by
  by_cases hx : x ∈ L.take m
  · obtain ⟨j, hj⟩ := List.mem_iff_getElem?.1 hx
    have h1 := ahead_le hj
    have hlt : j < m := by
      have := (List.getElem?_eq_some_iff.1 hj).1
      rw [List.length_take] at this; omega
    rw [List.getElem?_take_of_lt hlt] at hj
    have := nodup_at hn hj h
    omega
  · rw [ahead_none hx]; omega
/-- What is taken away is of the younger half. -/
def Younger (q : Nat) (L V : List Int) : Prop := ∀ (k m : Nat) (x : Int), V[m]? = some x → L[k]? = some x → q / 2 ≤ k
theorem Younger.nil (q : Nat) (L : List Int) : Younger q L [] := fun k m x h => by simp at h
/-- The deque behind i calls. -/
structure Fresh (q i : Nat) (L : List Int) : Prop where
  nodup : L.Nodup
  low : ∀ x ∈ L, x < i
  len : L.length ≤ q
theorem Fresh.nil (q i : Nat) : Fresh q i [] := ⟨List.nodup_nil, by simp, by simp⟩
theorem Fresh.sub {q i : Nat} {L L' : List Int} (h : Fresh q i L) (hs : L'.Sublist L) : Fresh q (i + 1) L' :=
  ⟨h.nodup.sublist hs, fun x hx => by have := h.low x (hs.subset hx); omega, by have := hs.length_le; have := h.len; omega⟩
theorem Fresh.put {q i : Nat} {L : List Int} (h : Fresh q i L) : Fresh q (i + 1) (putD q L i).2 ∧ Keeps L (putD q L i).2 ∧ Younger q L (putD q L i).1 := by
  unfold putD
  split
  · rename_i hlt
    refine ⟨⟨?_, ?_, by simp; omega⟩, Keeps.push L i, Younger.nil q L⟩
    · rw [List.nodup_append]
      refine ⟨h.nodup, by simp, fun a ha b hb e => ?_⟩
      have := h.low a ha
      simp at hb
      omega
    · intro x hx
      rcases List.mem_append.1 hx with hx | hx
      · have := h.low x hx; omega
      · simp at hx; omega
  · refine ⟨h.sub (List.take_sublist _ _), Keeps.take h.nodup _, ?_⟩
    intro k m x hv hl
    by_cases hm : m < (L.drop (q / 2)).length
    · rw [List.getElem?_append_left hm, List.getElem?_drop] at hv
      have := nodup_at h.nodup hv hl
      omega
    · have hx := h.low x (List.mem_iff_getElem?.2 ⟨k, hl⟩)
      rw [List.getElem?_append_right (by omega)] at hv
      have : x = i := by
        have := List.mem_iff_getElem?.2 ⟨_, hv⟩
        simpa using this
      omega
/-- What is moved: the older part, but its first. -/
theorem moved_ahead {q : Nat} {L : List Int} (hn : L.Nodup) (hl : L.length ≤ q) (hq : q = q / 2 + q / 2) {k : Nat} {M : List Int} (hM : M = (L.take (older L)).drop 1) {x : Int} (hk : M[k]? = some x) :
    ahead x M = k ∧ ahead x L = k + 1 ∧ k < q / 2 := by
  subst hM
  have hlt := (List.getElem?_eq_some_iff.1 hk).1
  rw [List.length_drop, List.length_take] at hlt
  have hold : older L ≤ L.length := by unfold older; omega
  have hold2 : older L ≤ q / 2 := by unfold older; omega
  have hnM : ((L.take (older L)).drop 1).Nodup := (hn.sublist (List.take_sublist _ _)).sublist (List.drop_sublist _ _)
  obtain ⟨hk1, rfl⟩ := List.getElem?_eq_some_iff.1 hk
  refine ⟨ahead_at hnM hk1, ?_, by omega⟩
  have hk2 : k + 1 < L.length := by omega
  have e : ((L.take (older L)).drop 1)[k] = L[k + 1] := by simp [Nat.add_comm]
  rw [e, ahead_at hn hk2]
  omega
end Go.Proofs.Ytcnpcmdcbafaeaa
