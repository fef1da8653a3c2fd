/- The free row: each free goroutine once, the one that became free last ahead. No condition. -/
import Derived.Test.YtnfipmbmknlmpaaTTab9
namespace Go.Proofs.Ytnfipmbmknlmpaa
open Go Go.SL
set_option linter.unusedSimpArgs false
set_option linter.unusedVariables false

/-- fr: those that became free, and were not made since. -/
structure RowOk (T : Tab) (fr : List Int) : Prop where
  nodup : T.row.Nodup
  mem : ∀ k : Nat, k < T.all.length → ((k : Int) ∈ T.row ↔ (T.all[k]?.getD (0, 0)).1 = 0)
  pre : ∃ tail, T.row = fr.reverse ++ tail
theorem RowOk.new (m : Nat) : RowOk (Tab.new m) [] := by
  refine ⟨?_, ?_, ⟨_, rfl⟩⟩
  · unfold Tab.new
    refine List.Pairwise.map _ ?_ List.nodup_range
    intro a b h e
    apply h
    omega
  · intro k hk
    simp only [Tab.new, List.length_replicate] at hk
    simp [Tab.new, hk, List.getElem?_replicate]
    exact ⟨k, hk, rfl⟩
theorem RowOk.len {T : Tab} {fr : List Int} (h : RowOk T fr) : fr.length ≤ T.row.length := by
  obtain ⟨tail, e⟩ := h.pre
  rw [e]; simp
theorem getD_set (l : List (Int × Int)) (k j : Nat) (x : Int × Int) (hk : k < l.length) : ((l.set k x)[j]?.getD (0, 0)) = if j = k then x else (l[j]?.getD (0, 0)) := by
  rw [List.getElem?_set]
  by_cases h : k = j
  · subst h; simp [hk]
  · have : ¬ j = k := fun e => h e.symm
    simp [h, this]
theorem RowOk.make {T : Tab} {fr : List Int} {K : Int} (ok : T.ok K) (h : RowOk T fr) : RowOk T.make.2.2 fr.dropLast := by
  unfold Tab.make
  obtain ⟨tail, e⟩ := h.pre
  cases hr : T.row with
  | nil =>
    have : fr = [] := by
      rw [e] at hr
      simp at hr
      exact hr.1
    subst this
    exact ⟨h.nodup, h.mem, tail, e⟩
  | cons g rest =>
    have hg := ok.row g (by simp [hr])
    obtain ⟨k, rfl⟩ := Int.eq_ofNat_of_zero_le hg.1
    have hk : k < T.all.length := by omega
    have hnd := h.nodup
    rw [hr, List.nodup_cons] at hnd
    refine ⟨hnd.2, ?_, ?_⟩
    · intro j hj
      simp only [List.length_set] at hj
      simp only [Int.toNat_natCast, getD_set _ _ _ _ hk]
      have hm := h.mem j hj
      rw [hr, List.mem_cons] at hm
      by_cases hjk : j = k
      · subst hjk; simp [hnd.1]
      · rw [if_neg hjk, ← hm]
        constructor
        · exact fun h => .inr h
        · rintro (h | h)
          · omega
          · exact h
    · rcases List.eq_nil_or_concat fr with rfl | ⟨f, x, rfl⟩
      · exact ⟨rest, by simp⟩
      · rw [List.concat_eq_append] at e ⊢
        rw [List.dropLast_concat]
        rw [hr] at e
        simp at e
        exact ⟨tail, e.2⟩
theorem RowOk.last {T : Tab} {f : List Int} {x : Int} (h : RowOk T (f ++ [x])) : T.row = x :: T.row.tail := by
  obtain ⟨tail, e⟩ := h.pre
  rw [e]; simp
theorem may_zero {a x : Int} (ha : 0 ≤ a ∧ a ≤ 4) (h : may a x = true) : a ≠ 0 := by
  intro e
  subst e
  simp [may, mayRows] at h
theorem RowOk.set {T : Tab} {fr : List Int} {K : Int} (ok : T.ok K) (h : RowOk T fr) (g x : Int) :
    RowOk (T.set g x).2 (if (T.set g x).1 = 0 ∧ x = 0 then fr ++ [g] else fr) := by
  unfold Tab.set
  split
  · rename_i hg
    split
    · rename_i hm
      obtain ⟨k, rfl⟩ := Int.eq_ofNat_of_zero_le hg.1
      have hk : k < T.all.length := by omega
      have ha := ok.all T.all[k] (List.getElem_mem hk)
      have hz := may_zero (by simp [hk]; omega) hm
      simp only [Int.toNat_natCast] at hz hm
      have hni : ¬ (k : Int) ∈ T.row := fun hin => hz ((h.mem k hk).1 hin)
      obtain ⟨tail, e⟩ := h.pre
      refine ⟨?_, ?_, ?_⟩
      · simp only
        split
        · exact List.nodup_cons.2 ⟨hni, h.nodup⟩
        · exact h.nodup
      · intro j hj
        simp only [List.length_set] at hj
        simp only [Int.toNat_natCast, getD_set _ _ _ _ hk]
        have hmj := h.mem j hj
        by_cases hjk : j = k
        · subst hjk
          rw [if_pos rfl]
          by_cases hx : x = 0
          · simp [hx]
          · simp [hx, hni]
        · rw [if_neg hjk, ← hmj]
          split
          · rw [List.mem_cons]
            constructor
            · rintro (h | h)
              · omega
              · exact h
            · exact fun h => .inr h
          · rfl
      · by_cases hx : x = 0
        · subst hx
          exact ⟨tail, by simp [e]⟩
        · refine ⟨tail, ?_⟩
          simp [hx, e]
    · rename_i hm
      simpa using h
  · simpa using h

theorem mem_ofTo (st : List (Int × Int)) (some : List Int) (n : Nat) (x : Int) : x ∈ ofTo st some n ↔ ∃ k : Nat, k < n ∧ x = k ∧ (st[k]?.getD (0, 0)).1 ∈ some := by
  induction n with
  | zero => simp [ofTo]
  | succ n ih =>
    unfold ofTo
    rw [List.mem_append, ih]
    constructor
    · rintro (⟨k, h1, h2, h3⟩ | h)
      · exact ⟨k, by omega, h2, h3⟩
      · split at h
        · rename_i hs
          simp at h
          exact ⟨n, by omega, h, hs⟩
        · simp at h
    · rintro ⟨k, h1, h2, h3⟩
      by_cases hk : k = n
      · subst hk; right; rw [if_pos h3]; simp [h2]
      · left; exact ⟨k, by omega, h2, h3⟩
theorem ofTo_nodup (st : List (Int × Int)) (some : List Int) (n : Nat) : (ofTo st some n).Nodup := by
  induction n with
  | zero => simp [ofTo]
  | succ n ih =>
    unfold ofTo
    split
    · rw [List.nodup_append]
      refine ⟨ih, by simp, ?_⟩
      rintro a ha b hb rfl
      simp at hb
      obtain ⟨k, h1, h2, _⟩ := (mem_ofTo st some n a).1 ha
      omega
    · simpa using ih
theorem RowOk.perm {T : Tab} {fr : List Int} {K : Int} (ok : T.ok K) (h : RowOk T fr) : T.row.Perm (ofTo T.all [0] T.all.length) := by
  rw [List.perm_iff_count]
  intro a
  rw [h.nodup.count, (ofTo_nodup _ _ _).count]
  have : a ∈ T.row ↔ a ∈ ofTo T.all [0] T.all.length := by
    rw [mem_ofTo]
    constructor
    · intro ha
      have hr := ok.row a ha
      obtain ⟨k, rfl⟩ := Int.eq_ofNat_of_zero_le hr.1
      exact ⟨k, by omega, rfl, by simpa using (h.mem k (by omega)).1 ha⟩
    · rintro ⟨k, hk, rfl, hs⟩
      exact (h.mem k hk).2 (by simpa using hs)
  simp [this]
theorem count_take (l : List Int) (j : Nat) (x : Int) (h : j < l.length) : (l.take (j + 1)).count x = (l.take j).count x + if l[j] = x then 1 else 0 := by
  rw [List.take_succ_eq_append_getElem h, List.count_append]
  by_cases e : l[j] = x <;> simp [e]
end Go.Proofs.Ytnfipmbmknlmpaa
