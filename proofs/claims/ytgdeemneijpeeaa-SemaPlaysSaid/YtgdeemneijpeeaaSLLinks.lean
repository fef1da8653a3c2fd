/- A line of numbers, by links in a map: plain facts. No condition. -/
import Derived.Test.YtgdeemneijpeeaaSLMap
set_option linter.unusedSimpArgs false
set_option linter.unusedVariables false
namespace Go.SL
open Go
/-- A number's neighbours. -/
abbrev lk (a b : Int) (p q : Bool) : Value := .agg [.int .i64 a, .int .i64 b, .bool p, .bool q].toArray
structure LinkF (L : List Int) (m : Assoc) (h t : Int) : Prop where
  nd : L.Nodup
  knd : (mkeys m).Nodup
  keys : ∀ x, x ∈ mkeys m ↔ x ∈ L
  at_ : ∀ i x, L[i]? = some x → ∃ a b, mget m x = some (lk a b (decide (0 < i)) (decide (i + 1 < L.length))) ∧ (0 < i → L[i - 1]? = some a) ∧ (i + 1 < L.length → L[i + 1]? = some b)
  hd : ∀ y, L[0]? = some y → h = y
  tl : ∀ y, L[L.length - 1]? = some y → t = y
theorem LinkF.nil (h t : Int) : LinkF [] [] h t := ⟨List.nodup_nil, List.nodup_nil, by simp [mkeys], by simp, by simp, by simp⟩
theorem LinkF.len {L : List Int} {m : Assoc} {h t : Int} (k : LinkF L m h t) : m.length = L.length := by
  have hp := (List.perm_ext_iff_of_nodup k.knd k.nd).2 k.keys
  have := hp.length_eq
  simpa [mkeys] using this
theorem LinkF.there {L : List Int} {m : Assoc} {h t x : Int} (k : LinkF L m h t) : (mget m x).isSome = decide (x ∈ L) := by
  by_cases hx : x ∈ L
  · rw [decide_eq_true hx]
    cases hm : mget m x with
    | none => exact absurd ((k.keys x).2 hx) (mget_of_mem.1 hm)
    | some v => rfl
  · rw [decide_eq_false hx]
    cases hm : mget m x with
    | none => rfl
    | some v =>
      have : x ∈ mkeys m := by
        rcases Classical.em (x ∈ mkeys m) with h | h
        · exact h
        · rw [mget_of_mem.2 h] at hm; cases hm
      exact absurd ((k.keys x).1 this) hx
theorem nd_inj {L : List Int} (hn : L.Nodup) {i j : Nat} {x : Int} (h1 : L[i]? = some x) (h2 : L[j]? = some x) : i = j :=
  (List.getElem?_inj (List.getElem?_eq_some_iff.1 h1).1 hn).1 (h1.trans h2.symm)
theorem mem_of_at {L : List Int} {i : Nat} {x : Int} (h : L[i]? = some x) : x ∈ L := List.mem_of_getElem? h
theorem mkeys_mset_nd {m : Assoc} {k : Int} {v : Value} (h : (mkeys m).Nodup) : (mkeys (mset m k v)).Nodup := by
  rw [mkeys_mset]
  split
  · exact h
  · rename_i hn
    have : mget m k = none := by cases hm : mget m k with | none => rfl | some v => rw [hm] at hn; exact absurd rfl hn
    have hk := mget_of_mem.1 this
    rw [List.nodup_append]
    exact ⟨h, by simp, fun a ha b hb e => by simp at hb; subst hb; subst e; exact hk ha⟩
theorem mem_mkeys_mset {m : Assoc} {k x : Int} {v : Value} : x ∈ mkeys (mset m k v) ↔ x = k ∨ x ∈ mkeys m := by
  rw [mkeys_mset]
  split
  · rename_i hs
    have : k ∈ mkeys m := by
      rcases Classical.em (k ∈ mkeys m) with h | h
      · exact h
      · rw [mget_of_mem.2 h] at hs; cases hs
    exact ⟨.inr, fun h => h.elim (fun e => e ▸ this) id⟩
  · simp only [List.mem_append, List.mem_singleton]; exact Or.comm
/-- The first one comes. -/
theorem LinkF.first {m : Assoc} {h t x : Int} (k : LinkF [] m h t) : LinkF [x] (mset m x (lk 0 0 false false)) x x := by
  have hm : m = [] := List.eq_nil_of_length_eq_zero k.len
  subst hm
  refine ⟨by simp, by simp [mset, mkeys], by simp [mset, mkeys], ?_, by simp, by simp⟩
  intro i y hy
  cases i with
  | zero => simp at hy; subst hy; exact ⟨0, 0, by simp [mset, mget_cons], by simp, by simp⟩
  | succ i => simp at hy
/-- One more comes. -/
theorem LinkF.push {L : List Int} {m : Assoc} {h t x : Int} (k : LinkF L m h t) (hL : L ≠ []) (hx : x ∉ L) :
    ∃ a b p, mget m t = some (lk a b p false) ∧ LinkF (L ++ [x]) (mset (mset m t (lk a x p true)) x (lk t 0 true false)) h x := by
  have hl : 0 < L.length := List.length_pos_iff.2 hL
  obtain ⟨y, hy⟩ : ∃ y, L[L.length - 1]? = some y := ⟨_, List.getElem?_eq_getElem (by omega)⟩
  have ht := k.tl y hy
  subst ht
  obtain ⟨a, b, hm, ha, hb⟩ := k.at_ _ _ hy
  have e1 : decide (L.length - 1 + 1 < L.length) = false := by simp; omega
  rw [e1] at hm
  have htx : ¬ t = x := fun e => hx (e ▸ mem_of_at hy)
  refine ⟨a, b, _, hm, ?_, mkeys_mset_nd (mkeys_mset_nd k.knd), ?_, ?_, ?_, ?_⟩
  · rw [List.nodup_append]
    exact ⟨k.nd, by simp, fun u hu v hv e => by simp at hv; subst hv; subst e; exact hx hu⟩
  · intro u
    rw [mem_mkeys_mset, mem_mkeys_mset, k.keys, List.mem_append, List.mem_singleton]
    constructor
    · rintro (h | h | h)
      · exact .inr h
      · exact .inl (h ▸ mem_of_at hy)
      · exact .inl h
    · rintro (h | h)
      · exact .inr (.inr h)
      · exact .inl h
  · intro i u hu
    simp only [mget_mset]
    by_cases hi : i < L.length
    · rw [List.getElem?_append_left hi] at hu
      have hux : ¬ u = x := fun e => hx (e ▸ mem_of_at hu)
      rw [if_neg hux]
      by_cases hut : u = t
      · subst hut
        have hie := nd_inj k.nd hu hy
        subst hie
        rw [if_pos rfl]
        refine ⟨a, x, ?_, ?_, ?_⟩
        · have : decide (L.length - 1 + 1 < (L ++ [x]).length) = true := by simp; omega
          rw [this]
        · intro h0
          rw [List.getElem?_append_left (by omega)]
          exact ha h0
        · intro _
          rw [List.getElem?_append_right (by omega)]
          simp [show L.length - 1 + 1 - L.length = 0 by omega]
      · rw [if_neg hut]
        obtain ⟨a', b', hm', ha', hb'⟩ := k.at_ i u hu
        have hi2 : i + 1 < L.length := by
          by_cases h : i + 1 = L.length
          · have : i = L.length - 1 := by omega
            subst this
            rw [hy] at hu
            exact absurd (Option.some.inj hu).symm hut
          · omega
        refine ⟨a', b', ?_, ?_, ?_⟩
        · rw [hm']
          have e1 : decide (i + 1 < L.length) = true := by simp [hi2]
          have e2 : decide (i + 1 < (L ++ [x]).length) = true := by simp; omega
          rw [e1, e2]
        · intro h0; rw [List.getElem?_append_left (by omega)]; exact ha' h0
        · intro _; rw [List.getElem?_append_left hi2]; exact hb' hi2
    · have hie : i = L.length := by
        have := (List.getElem?_eq_some_iff.1 hu).1
        simp at this; omega
      subst hie
      have hux : u = x := by
        rw [List.getElem?_append_right (Nat.le_refl _)] at hu
        simpa using hu.symm
      subst hux
      rw [if_pos rfl]
      refine ⟨t, 0, ?_, ?_, ?_⟩
      · have e1 : decide (0 < L.length) = true := by simp [hl]
        have e2 : decide (L.length + 1 < (L ++ [u]).length) = false := by simp
        rw [e1, e2]
      · intro _; rw [List.getElem?_append_left (by omega)]; exact hy
      · intro h; simp at h
  · intro u hu; rw [List.getElem?_append_left hl] at hu; exact k.hd u hu
  · intro u hu
    simp at hu
    exact hu
theorem LinkF.vals {L : List Int} {m : Assoc} {h t y : Int} {v : Value} (k : LinkF L m h t) (hv : mget m y = some v) : ∃ i a b, L[i]? = some y ∧ v = lk a b (decide (0 < i)) (decide (i + 1 < L.length)) := by
  have : y ∈ L := by
    have := k.there (x := y)
    rw [hv] at this
    simpa using this.symm
  obtain ⟨i, hi⟩ := List.getElem?_of_mem this
  obtain ⟨a, b, hm, _⟩ := k.at_ i y hi
  rw [hv] at hm
  exact ⟨i, a, b, hi, Option.some.inj hm⟩
/-- One goes. -/
theorem LinkF.cut {L : List Int} {m : Assoc} {h t x : Int} {k : Nat} (f : LinkF L m h t) (hk : L[k]? = some x) :
    ∃ a b, mget m x = some (lk a b (decide (0 < k)) (decide (k + 1 < L.length))) ∧ (0 < k → L[k - 1]? = some a) ∧ (k + 1 < L.length → L[k + 1]? = some b) ∧
      ∀ m2 h2 m3 t3,
        (if 0 < k then ∃ a' b' p' q', mget (mdel m x) a = some (lk a' b' p' q') ∧ m2 = mset (mdel m x) a (lk a' b p' (decide (k + 1 < L.length))) ∧ h2 = h else m2 = mdel m x ∧ h2 = b) →
        (if k + 1 < L.length then ∃ a' b' p' q', mget m2 b = some (lk a' b' p' q') ∧ m3 = mset m2 b (lk a b' (decide (0 < k)) q') ∧ t3 = t else m3 = m2 ∧ t3 = a) →
        LinkF (L.eraseIdx k) m3 h2 t3 := by
  obtain ⟨a, b, hm, ha, hb⟩ := f.at_ k x hk
  have hkl : k < L.length := (List.getElem?_eq_some_iff.1 hk).1
  refine ⟨a, b, hm, ha, hb, ?_⟩
  intro m2 h2 m3 t3 hA hB
  have hxk : x ∈ mkeys m := (f.keys x).2 (mem_of_at hk)
  have hnd1 : (mkeys (mdel m x)).Nodup := by rw [mkeys_mdel]; exact f.knd.erase _
  have hk1 : ∀ u, u ∈ mkeys (mdel m x) ↔ u ∈ L ∧ u ≠ x := fun u => by
    rw [mkeys_mdel, f.knd.mem_erase_iff, f.keys]
    exact And.comm
  have hnd2 : (mkeys m2).Nodup ∧ ∀ u, u ∈ mkeys m2 ↔ u ∈ L ∧ u ≠ x := by
    split at hA
    · rename_i h0
      obtain ⟨a', b', p', q', h1, rfl, _⟩ := hA
      refine ⟨mkeys_mset_nd hnd1, fun u => ?_⟩
      rw [mem_mkeys_mset]
      constructor
      · rintro (rfl | h)
        · refine ⟨mem_of_at (ha h0), fun e => ?_⟩
          rw [e] at ha
          have := nd_inj f.nd (ha h0) hk
          omega
        · exact (hk1 u).1 h
      · exact fun h => .inr ((hk1 u).2 h)
    · obtain ⟨rfl, _⟩ := hA; exact ⟨hnd1, hk1⟩
  have hnd3 : (mkeys m3).Nodup ∧ ∀ u, u ∈ mkeys m3 ↔ u ∈ L ∧ u ≠ x := by
    split at hB
    · rename_i h0
      obtain ⟨a', b', p', q', h1, rfl, _⟩ := hB
      refine ⟨mkeys_mset_nd hnd2.1, fun u => ?_⟩
      rw [mem_mkeys_mset]
      constructor
      · rintro (rfl | h)
        · refine ⟨mem_of_at (hb h0), fun e => ?_⟩
          rw [e] at hb
          have := nd_inj f.nd (hb h0) hk
          omega
        · exact (hnd2.2 u).1 h
      · exact fun h => .inr ((hnd2.2 u).2 h)
    · obtain ⟨rfl, _⟩ := hB; exact hnd2
  have hlen : (L.eraseIdx k).length = L.length - 1 := List.length_eraseIdx_of_lt hkl
  have hget : ∀ i, (L.eraseIdx k)[i]? = if i < k then L[i]? else L[i + 1]? := fun i => List.getElem?_eraseIdx
  refine ⟨f.nd.eraseIdx k, hnd3.1, ?_, ?_, ?_, ?_⟩
  · intro u
    rw [hnd3.2]
    constructor
    · rintro ⟨hu, hux⟩
      obtain ⟨i, hi⟩ := List.getElem?_of_mem hu
      have hik : i ≠ k := fun e => by subst e; rw [hk] at hi; exact hux (Option.some.inj hi).symm
      by_cases h : i < k
      · exact mem_of_at (i := i) (by rw [hget, if_pos h]; exact hi)
      · exact mem_of_at (i := i - 1) (by rw [hget, if_neg (by omega), show i - 1 + 1 = i by omega]; exact hi)
    · intro hu
      obtain ⟨i, hi⟩ := List.getElem?_of_mem hu
      rw [hget] at hi
      split at hi
      · exact ⟨mem_of_at hi, fun e => by subst e; have := nd_inj f.nd hi hk; omega⟩
      · exact ⟨mem_of_at hi, fun e => by subst e; have := nd_inj f.nd hi hk; omega⟩
  · intro i u hu
    rw [hget] at hu
    obtain ⟨j, hj, hju, hjk⟩ : ∃ j, (j = if i < k then i else i + 1) ∧ L[j]? = some u ∧ j ≠ k := by
      split at hu
      · exact ⟨i, by rw [if_pos ‹_›], hu, by omega⟩
      · exact ⟨i + 1, by rw [if_neg ‹_›], hu, by omega⟩
    have hjl : j < L.length := (List.getElem?_eq_some_iff.1 hju).1
    have hux : ¬ u = x := fun e => by subst e; exact hjk (nd_inj f.nd hju hk)
    obtain ⟨au, bu, hmu, hau, hbu⟩ := f.at_ j u hju
    have hm1 : mget (mdel m x) u = some (lk au bu (decide (0 < j)) (decide (j + 1 < L.length))) := by rw [mget_mdel f.knd, if_neg hux]; exact hmu
    -- behind the first step
    have hm2 : mget m2 u = some (lk au (if j + 1 = k then b else bu) (decide (0 < j)) (if j + 1 = k then decide (k + 1 < L.length) else decide (j + 1 < L.length))) := by
      split at hA
      · rename_i h0
        obtain ⟨a', b', p', q', h1, rfl, _⟩ := hA
        rw [mget_mset]
        by_cases hua : u = a
        · subst hua
          have hjk1 : j = k - 1 := nd_inj f.nd hju (ha h0)
          rw [if_pos rfl, if_pos (by omega), if_pos (by omega)]
          rw [hm1] at h1
          simp at h1
          obtain ⟨rfl, rfl, rfl, _⟩ := h1
          rfl
        · have : ¬ j + 1 = k := fun e => hua (by
            have := ha h0
            rw [show k - 1 = j by omega, hju] at this
            exact Option.some.inj this)
          rw [if_neg hua, if_neg this, if_neg this]
          exact hm1
      · obtain ⟨rfl, _⟩ := hA
        rw [if_neg (by omega), if_neg (by omega)]
        exact hm1
    have hm3 : mget m3 u = some (lk (if j = k + 1 then a else au) (if j + 1 = k then b else bu) (if j = k + 1 then decide (0 < k) else decide (0 < j)) (if j + 1 = k then decide (k + 1 < L.length) else decide (j + 1 < L.length))) := by
      split at hB
      · rename_i h0
        obtain ⟨a', b', p', q', h1, rfl, _⟩ := hB
        rw [mget_mset]
        by_cases hub : u = b
        · subst hub
          have hjk1 : j = k + 1 := nd_inj f.nd hju (hb h0)
          rw [if_pos rfl, if_pos hjk1, if_pos hjk1]
          rw [hm2] at h1
          simp at h1
          obtain ⟨rfl, rfl, rfl, rfl⟩ := h1
          rfl
        · have : ¬ j = k + 1 := fun e => hub (by
            have := hb h0
            rw [← e, hju] at this
            exact Option.some.inj this)
          rw [if_neg hub, if_neg this, if_neg this]
          exact hm2
      · obtain ⟨rfl, _⟩ := hB
        have e : ¬ j = k + 1 := by omega
        rw [if_neg e, if_neg e]
        exact hm2
    have eP : (if j = k + 1 then decide (0 < k) else decide (0 < j)) = decide (0 < i) := by
      split
      · have : i = k := by split at hj <;> omega
        rw [this]
      · by_cases hik : i < k
        · rw [if_pos hik] at hj; rw [hj]
        · rw [if_neg hik] at hj
          rw [decide_eq_true (show 0 < j by omega), decide_eq_true (show 0 < i by omega)]
    have eQ : (if j + 1 = k then decide (k + 1 < L.length) else decide (j + 1 < L.length)) = decide (i + 1 < (L.eraseIdx k).length) := by
      rw [hlen]
      split
      · have : i + 1 = k := by split at hj <;> omega
        rw [this]
        by_cases h : k + 1 < L.length
        · rw [decide_eq_true h, decide_eq_true (show k < L.length - 1 by omega)]
        · rw [decide_eq_false h, decide_eq_false (show ¬ k < L.length - 1 by omega)]
      · by_cases hik : i < k
        · rw [if_pos hik] at hj
          rw [decide_eq_true (show j + 1 < L.length by omega), decide_eq_true (show i + 1 < L.length - 1 by omega)]
        · rw [if_neg hik] at hj
          by_cases h : j + 1 < L.length
          · rw [decide_eq_true h, decide_eq_true (show i + 1 < L.length - 1 by omega)]
          · rw [decide_eq_false h, decide_eq_false (show ¬ i + 1 < L.length - 1 by omega)]
    rw [eP, eQ] at hm3
    refine ⟨_, _, hm3, ?_, ?_⟩
    · intro h0
      rw [hget]
      by_cases hjk1 : j = k + 1
      · have : i = k := by split at hj <;> omega
        rw [if_pos hjk1, if_pos (show i - 1 < k by omega), this]
        exact ha (by omega)
      · rw [if_neg hjk1]
        by_cases hik : i < k
        · rw [if_pos hik] at hj
          rw [if_pos (show i - 1 < k by omega), ← hj]
          exact hau (by omega)
        · rw [if_neg hik] at hj
          rw [if_neg (show ¬ i - 1 < k by omega), show i - 1 + 1 = j - 1 by omega]
          exact hau (by omega)
    · intro h0
      rw [hlen] at h0
      rw [hget]
      by_cases hjk1 : j + 1 = k
      · have : i + 1 = k := by split at hj <;> omega
        rw [if_pos hjk1, if_neg (show ¬ i + 1 < k by omega), this]
        exact hb (by omega)
      · rw [if_neg hjk1]
        by_cases hik : i < k
        · rw [if_pos hik] at hj
          rw [if_pos (show i + 1 < k by omega), ← hj]
          exact hbu (by omega)
        · rw [if_neg hik] at hj
          rw [if_neg (show ¬ i + 1 < k by omega), show i + 1 + 1 = j + 1 by omega]
          exact hbu (by omega)
  · intro y hy
    rw [hget] at hy
    split at hA
    · obtain ⟨_, _, _, _, _, _, rfl⟩ := hA
      rw [if_pos ‹_›] at hy
      exact f.hd y hy
    · obtain ⟨_, rfl⟩ := hA
      rw [if_neg ‹_›] at hy
      have hk0 : k = 0 := by omega
      subst hk0
      have hl1 : 0 + 1 < L.length := (List.getElem?_eq_some_iff.1 hy).1
      have := hb hl1
      rw [hy] at this
      exact (Option.some.inj this).symm
  · intro y hy
    rw [hget, hlen] at hy
    split at hB
    · rename_i h0
      obtain ⟨_, _, _, _, _, _, rfl⟩ := hB
      rw [if_neg (by omega), show L.length - 1 - 1 + 1 = L.length - 1 by omega] at hy
      exact f.tl y hy
    · rename_i h0
      obtain ⟨_, rfl⟩ := hB
      have hkl2 : k = L.length - 1 := by omega
      split at hy
      · have := ha (by omega)
        rw [show L.length - 1 - 1 = k - 1 by omega, this] at hy
        exact Option.some.inj hy
      · have := (List.getElem?_eq_some_iff.1 hy).1
        omega
end Go.SL
