/- Nobody is lost, and nobody doubled: the numbers, in plain lists. No condition. -/
import Derived.Test.YtcnpcmdcbafaeaaDLaw0
namespace Go.Proofs.Ytcnpcmdcbafaeaa
open Go Go.SL
set_option linter.unusedSimpArgs false
set_option linter.unusedVariables false
/-- The numbers below n. -/
def ns (n : Nat) : List Int := (List.range n).map fun (k : Nat) => (k : Int)
theorem ns_succ (n : Nat) : ns (n + 1) = ns n ++ [(n : Int)] := by simp [ns, List.range_succ]
theorem ns_length (n : Nat) : (ns n).length = n := by simp [ns]
theorem ns_mem {n : Nat} {x : Int} (h : x ∈ ns n) : 0 ≤ x ∧ x < n := by
  simp only [ns, List.mem_map, List.mem_range] at h
  obtain ⟨k, hk, rfl⟩ := h
  omega
theorem ns_nodup (n : Nat) : (ns n).Nodup := by
  refine List.Pairwise.map _ ?_ (List.nodup_range (n := n))
  intro a b h e
  exact h (by omega)
theorem ct {α : Type} [BEq α] (a : α) (l : List α) (k : Nat) : l.count a = (l.take k).count a + (l.drop k).count a := by
  conv => lhs; rw [← List.take_append_drop k l]
  rw [List.count_append]
/-- These are the numbers below n, each once. -/
def Once (n : Nat) (l : List Int) : Prop := ∀ a, l.count a = (ns n).count a
theorem Once.nil : Once 0 [] := fun _ => rfl
theorem Once.perm {n : Nat} {l : List Int} (h : Once n l) : l.Perm (ns n) := List.perm_iff_count.2 h
theorem Once.length {n : Nat} {l : List Int} (h : Once n l) : l.length = n := by rw [h.perm.length_eq, ns_length]
theorem Once.put {n q : Nat} {L O : List Int} (h : Once n (L ++ O)) : Once (n + 1) ((putD q L n).2 ++ (O ++ (putD q L n).1)) := fun a => by
  have h1 := h a
  unfold putD
  split
  · simp only [List.count_append, ns_succ, List.count_nil] at h1 ⊢
    omega
  · have h2 := ct a L (q / 2)
    simp only [List.count_append, ns_succ, List.count_nil] at h1 ⊢
    omega
theorem Once.take {n : Nat} {L O : List Int} {k : Nat} (h : Once n (L ++ O)) : Once n (L.drop k ++ (O ++ L.take k)) := fun a => by
  have h1 := h a
  have h2 := ct a L k
  simp only [List.count_append] at h1 ⊢
  omega
theorem Once.lay {n : Nat} {L O : List Int} {k : Nat} (h : Once n (L ++ O)) : Once (n + min 3 k) (L ++ [(n : Int), n + 1, n + 2].take k ++ O) := fun a => by
  have h1 := h a
  have e2 : ns (n + 1 + 1) = ns n ++ [(n : Int)] ++ [((n + 1 : Nat) : Int)] := by rw [ns_succ, ns_succ]
  have e3 : ns (n + 1 + 1 + 1) = ns n ++ [(n : Int)] ++ [((n + 1 : Nat) : Int)] ++ [((n + 1 + 1 : Nat) : Int)] := by rw [ns_succ, ns_succ, ns_succ]
  match k with
  | 0 => simpa using h1
  | 1 => simp only [List.take_succ_cons, List.take_zero, List.count_append, Nat.min_def, ns_succ, List.count_nil] at h1 ⊢; simp [List.count_append, ns_succ]; omega
  | 2 =>
    have e : n + min 3 2 = n + 1 + 1 := by simp [Nat.min_def]
    rw [e, e2]
    have e' : List.take 2 [(n : Int), n + 1, n + 2] = [(n : Int)] ++ [((n + 1 : Nat) : Int)] := by simp
    rw [e']
    simp only [List.count_append] at h1 ⊢
    omega
  | k + 3 =>
    have e : n + min 3 (k + 3) = n + 1 + 1 + 1 := by simp [Nat.min_def]
    rw [e, e3]
    have e' : List.take (k + 3) [(n : Int), n + 1, n + 2] = [(n : Int)] ++ [((n + 1 : Nat) : Int)] ++ [((n + 1 + 1 : Nat) : Int)] := by simp; omega
    rw [e']
    simp only [List.count_append] at h1 ⊢
    omega
theorem Once.at_ {n k : Nat} {l : List Int} (h : Once n l) (hk : k < l.length) : 0 ≤ l[k] ∧ l[k] < n ∧ l[k] ∉ l.take k := by
  have hm := ns_mem (h.perm.mem_iff.1 (List.getElem_mem hk))
  refine ⟨hm.1, hm.2, fun hin => ?_⟩
  have hnd : l.Nodup := h.perm.nodup_iff.2 (ns_nodup n)
  rw [← List.take_append_drop k l, List.nodup_append] at hnd
  refine hnd.2.2 _ hin _ ?_ rfl
  rw [List.drop_eq_getElem_cons hk]
  exact List.mem_cons_self
/-- The row of what was seen. -/
def seenC (n : Nat) (t : List Int) : List Value := (List.range n).map fun (j : Nat) => Value.bool (decide ((j : Int) ∈ t))
theorem seenC_nil (n : Nat) : (List.replicate n [Value.bool false]).flatten = seenC n [] := by
  simp [seenC, List.map_const']
theorem seenC_length (n : Nat) (t : List Int) : (seenC n t).length = n := by simp [seenC]
theorem seenC_at {n x : Nat} {t : List Int} (hx : x < n) : (seenC n t)[x]? = some (.bool (decide ((x : Int) ∈ t))) := by
  simp [seenC, hx]
theorem seenC_set {n x : Nat} {t : List Int} (hx : x < n) : (seenC n t).set x (.bool true) = seenC n (t ++ [(x : Int)]) := by
  refine List.ext_getElem (by simp [seenC]) fun j h1 h2 => ?_
  rw [List.getElem_set]
  simp only [seenC, List.getElem_map, List.getElem_range, List.mem_append, List.mem_singleton]
  by_cases e : x = j
  · subst e; simp
  · have : ¬ (j : Int) = (x : Int) := by omega
    simp [e, this]
end Go.Proofs.Ytcnpcmdcbafaeaa
