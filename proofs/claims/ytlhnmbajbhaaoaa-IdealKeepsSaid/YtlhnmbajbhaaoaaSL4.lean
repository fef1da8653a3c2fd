/- Rules for walks: what one's own memory is, and what each operation does. No condition. -/
import Derived.Test.YtlhnmbajbhaaoaaSL3
import Derived.Laws.IdiomStrings
import Derived.Test.YtlhnmbajbhaaoaaSL2
import Derived.Test.YtlhnmbajbhaaoaaSL1
import Derived.WideShapes
import Derived.ChangeArms
set_option linter.unusedSimpArgs false
set_option linter.unusedVariables false
namespace Go.SL
open Go
/-- A number's neighbours. -/
abbrev lk (a b : Int) (p q : Bool) : Value := .agg [.int .i64 a, .int .i64 b, .bool p, .bool q].toArray
structure LinkF (L : List Int) (m : Assoc) (h t : Int) : Prop where
  nd : L.Nodup
  knd : (mkeys m).Nodup
  keys : ∀ x, x ∈ mkeys m ↔ x ∈ L
  at_ : ∀ i x, L[i]? = some x → ∃ a b, mget m x = some (lk a b (decide (0 < i)) (decide (i + 1 < L.length))) ∧ (0 < i → L[i - 1]? = some a) ∧ (i + 1 < L.length → L[i + 1]? = some b)
  hd : ∀ y, L[0]? = some y → h = y
  tl : ∀ y, L[L.length - 1]? = some y → t = y
theorem LinkF.nil (h t : Int) : LinkF [] [] h t := ⟨List.nodup_nil, List.nodup_nil, by simp [mkeys], by simp, by simp, by simp⟩
theorem LinkF.len {L : List Int} {m : Assoc} {h t : Int} (k : LinkF L m h t) : m.length = L.length := by
  have hp := (List.perm_ext_iff_of_nodup k.knd k.nd).2 k.keys
  have := hp.length_eq
  simpa [mkeys] using this
theorem LinkF.there {L : List Int} {m : Assoc} {h t x : Int} (k : LinkF L m h t) : (mget m x).isSome = decide (x ∈ L) := by
  by_cases hx : x ∈ L
  · rw [decide_eq_true hx]
    cases hm : mget m x with
    | none => exact absurd ((k.keys x).2 hx) (mget_of_mem.1 hm)
    | some v => rfl
  · rw [decide_eq_false hx]
    cases hm : mget m x with
    | none => rfl
    | some v =>
      have : x ∈ mkeys m := by
        rcases Classical.em (x ∈ mkeys m) with h | h
        · exact h
        · rw [mget_of_mem.2 h] at hm; cases hm
      exact absurd ((k.keys x).1 this) hx
theorem nd_inj {L : List Int} (hn : L.Nodup) {i j : Nat} {x : Int} (h1 : L[i]? = some x) (h2 : L[j]? = some x) : i = j :=
  (List.getElem?_inj (List.getElem?_eq_some_iff.1 h1).1 hn).1 (h1.trans h2.symm)
theorem mem_of_at {L : List Int} {i : Nat} {x : Int} (h : L[i]? = some x) : x ∈ L := List.mem_of_getElem? h
theorem mkeys_mset_nd {m : Assoc} {k : Int} {v : Value} (h : (mkeys m).Nodup) : (mkeys (mset m k v)).Nodup := by
  rw [mkeys_mset]
  split
  · exact h
  · rename_i hn
    have : mget m k = none := by cases hm : mget m k with | none => rfl | some v => rw [hm] at hn; exact absurd rfl hn
    have hk := mget_of_mem.1 this
    rw [List.nodup_append]
    exact ⟨h, by simp, fun a ha b hb e => by simp at hb; subst hb; subst e; exact hk ha⟩
theorem mem_mkeys_mset {m : Assoc} {k x : Int} {v : Value} : x ∈ mkeys (mset m k v) ↔ x = k ∨ x ∈ mkeys m := by
  rw [mkeys_mset]
  split
  · rename_i hs
    have : k ∈ mkeys m := by
      rcases Classical.em (k ∈ mkeys m) with h | h
      · exact h
      · rw [mget_of_mem.2 h] at hs; cases hs
    exact ⟨.inr, fun h => h.elim (fun e => e ▸ this) id⟩
  · simp only [List.mem_append, List.mem_singleton]; exact Or.comm
/-- The first one comes. -/
theorem LinkF.first {m : Assoc} {h t x : Int} (k : LinkF [] m h t) : LinkF [x] (mset m x (lk 0 0 false false)) x x := by
  have hm : m = [] := List.eq_nil_of_length_eq_zero k.len
  subst hm
  refine ⟨by simp, by simp [mset, mkeys], by simp [mset, mkeys], ?_, by simp, by simp⟩
  intro i y hy
  cases i with
  | zero => simp at hy; subst hy; exact ⟨0, 0, by simp [mset, mget_cons], by simp, by simp⟩
  | succ i => simp at hy
/-- One more comes. -/
theorem LinkF.push {L : List Int} {m : Assoc} {h t x : Int} (k : LinkF L m h t) (hL : L ≠ []) (hx : x ∉ L) :
    ∃ a b p, mget m t = some (lk a b p false) ∧ LinkF (L ++ [x]) (mset (mset m t (lk a x p true)) x (lk t 0 true false)) h x := by
  have hl : 0 < L.length := List.length_pos_iff.2 hL
  obtain ⟨y, hy⟩ : ∃ y, L[L.length - 1]? = some y := ⟨_, List.getElem?_eq_getElem (by omega)⟩
  have ht := k.tl y hy
  subst ht
  obtain ⟨a, b, hm, ha, hb⟩ := k.at_ _ _ hy
  have e1 : decide (L.length - 1 + 1 < L.length) = false := by simp; omega
  rw [e1] at hm
  have htx : ¬ t = x := fun e => hx (e ▸ mem_of_at hy)
  refine ⟨a, b, _, hm, ?_, mkeys_mset_nd (mkeys_mset_nd k.knd), ?_, ?_, ?_, ?_⟩
  · rw [List.nodup_append]
    exact ⟨k.nd, by simp, fun u hu v hv e => by simp at hv; subst hv; subst e; exact hx hu⟩
  · intro u
    rw [mem_mkeys_mset, mem_mkeys_mset, k.keys, List.mem_append, List.mem_singleton]
    constructor
    · rintro (h | h | h)
      · exact .inr h
      · exact .inl (h ▸ mem_of_at hy)
      · exact .inl h
    · rintro (h | h)
      · exact .inr (.inr h)
      · exact .inl h
  · intro i u hu
    simp only [mget_mset]
    by_cases hi : i < L.length
    · rw [List.getElem?_append_left hi] at hu
      have hux : ¬ u = x := fun e => hx (e ▸ mem_of_at hu)
      rw [if_neg hux]
      by_cases hut : u = t
      · subst hut
        have hie := nd_inj k.nd hu hy
        subst hie
        rw [if_pos rfl]
        refine ⟨a, x, ?_, ?_, ?_⟩
        · have : decide (L.length - 1 + 1 < (L ++ [x]).length) = true := by simp; omega
          rw [this]
        · intro h0
          rw [List.getElem?_append_left (by omega)]
          exact ha h0
        · intro _
          rw [List.getElem?_append_right (by omega)]
          simp [show L.length - 1 + 1 - L.length = 0 by omega]
      · rw [if_neg hut]
        obtain ⟨a', b', hm', ha', hb'⟩ := k.at_ i u hu
        have hi2 : i + 1 < L.length := by
          by_cases h : i + 1 = L.length
          · have : i = L.length - 1 := by omega
            subst this
            rw [hy] at hu
            exact absurd (Option.some.inj hu).symm hut
          · omega
        refine ⟨a', b', ?_, ?_, ?_⟩
        · rw [hm']
          have e1 : decide (i + 1 < L.length) = true := by simp [hi2]
          have e2 : decide (i + 1 < (L ++ [x]).length) = true := by simp; omega
          rw [e1, e2]
        · intro h0; rw [List.getElem?_append_left (by omega)]; exact ha' h0
        · intro _; rw [List.getElem?_append_left hi2]; exact hb' hi2
    · have hie : i = L.length := by
        have := (List.getElem?_eq_some_iff.1 hu).1
        simp at this; omega
      subst hie
      have hux : u = x := by
        rw [List.getElem?_append_right (Nat.le_refl _)] at hu
        simpa using hu.symm
      subst hux
      rw [if_pos rfl]
      refine ⟨t, 0, ?_, ?_, ?_⟩
      · have e1 : decide (0 < L.length) = true := by simp [hl]
        have e2 : decide (L.length + 1 < (L ++ [u]).length) = false := by simp
        rw [e1, e2]
      · intro _; rw [List.getElem?_append_left (by omega)]; exact hy
      · intro h; simp at h
  · intro u hu; rw [List.getElem?_append_left hl] at hu; exact k.hd u hu
  · intro u hu
    simp at hu
    exact hu
theorem LinkF.vals {L : List Int} {m : Assoc} {h t y : Int} {v : Value} (k : LinkF L m h t) (hv : mget m y = some v) : ∃ i a b, L[i]? = some y ∧ v = lk a b (decide (0 < i)) (decide (i + 1 < L.length)) := by
  have : y ∈ L := by
    have := k.there (x := y)
    rw [hv] at this
    simpa using this.symm
  obtain ⟨i, hi⟩ := List.getElem?_of_mem this
  obtain ⟨a, b, hm, _⟩ := k.at_ i y hi
  rw [hv] at hm
  exact ⟨i, a, b, hi, Option.some.inj hm⟩
/-- One goes. -/
theorem LinkF.cut {L : List Int} {m : Assoc} {h t x : Int} {k : Nat} (f : LinkF L m h t) (hk : L[k]? = some x) :
    ∃ a b, mget m x = some (lk a b (decide (0 < k)) (decide (k + 1 < L.length))) ∧ (0 < k → L[k - 1]? = some a) ∧ (k + 1 < L.length → L[k + 1]? = some b) ∧
      ∀ m2 h2 m3 t3,
        (if 0 < k then ∃ a' b' p' q', mget (mdel m x) a = some (lk a' b' p' q') ∧ m2 = mset (mdel m x) a (lk a' b p' (decide (k + 1 < L.length))) ∧ h2 = h else m2 = mdel m x ∧ h2 = b) →
        (if k + 1 < L.length then ∃ a' b' p' q', mget m2 b = some (lk a' b' p' q') ∧ m3 = mset m2 b (lk a b' (decide (0 < k)) q') ∧ t3 = t else m3 = m2 ∧ t3 = a) →
        LinkF (L.eraseIdx k) m3 h2 t3 := by
  obtain ⟨a, b, hm, ha, hb⟩ := f.at_ k x hk
  have hkl : k < L.length := (List.getElem?_eq_some_iff.1 hk).1
  refine ⟨a, b, hm, ha, hb, ?_⟩
  intro m2 h2 m3 t3 hA hB
  have hxk : x ∈ mkeys m := (f.keys x).2 (mem_of_at hk)
  have hnd1 : (mkeys (mdel m x)).Nodup := by rw [mkeys_mdel]; exact f.knd.erase _
  have hk1 : ∀ u, u ∈ mkeys (mdel m x) ↔ u ∈ L ∧ u ≠ x := fun u => by
    rw [mkeys_mdel, f.knd.mem_erase_iff, f.keys]
    exact And.comm
  have hnd2 : (mkeys m2).Nodup ∧ ∀ u, u ∈ mkeys m2 ↔ u ∈ L ∧ u ≠ x := by
    split at hA
    · rename_i h0
      obtain ⟨a', b', p', q', h1, rfl, _⟩ := hA
      refine ⟨mkeys_mset_nd hnd1, fun u => ?_⟩
      rw [mem_mkeys_mset]
      constructor
      · rintro (rfl | h)
        · refine ⟨mem_of_at (ha h0), fun e => ?_⟩
          rw [e] at ha
          have := nd_inj f.nd (ha h0) hk
          omega
        · exact (hk1 u).1 h
      · exact fun h => .inr ((hk1 u).2 h)
    · obtain ⟨rfl, _⟩ := hA; exact ⟨hnd1, hk1⟩
  have hnd3 : (mkeys m3).Nodup ∧ ∀ u, u ∈ mkeys m3 ↔ u ∈ L ∧ u ≠ x := by
    split at hB
    · rename_i h0
      obtain ⟨a', b', p', q', h1, rfl, _⟩ := hB
      refine ⟨mkeys_mset_nd hnd2.1, fun u => ?_⟩
      rw [mem_mkeys_mset]
      constructor
      · rintro (rfl | h)
        · refine ⟨mem_of_at (hb h0), fun e => ?_⟩
          rw [e] at hb
          have := nd_inj f.nd (hb h0) hk
          omega
        · exact (hnd2.2 u).1 h
      · exact fun h => .inr ((hnd2.2 u).2 h)
    · obtain ⟨rfl, _⟩ := hB; exact hnd2
  have hlen : (L.eraseIdx k).length = L.length - 1 := List.length_eraseIdx_of_lt hkl
  have hget : ∀ i, (L.eraseIdx k)[i]? = if i < k then L[i]? else L[i + 1]? := fun i => List.getElem?_eraseIdx
  refine ⟨f.nd.eraseIdx k, hnd3.1, ?_, ?_, ?_, ?_⟩
  · intro u
    rw [hnd3.2]
    constructor
    · rintro ⟨hu, hux⟩
      obtain ⟨i, hi⟩ := List.getElem?_of_mem hu
      have hik : i ≠ k := fun e => by subst e; rw [hk] at hi; exact hux (Option.some.inj hi).symm
      by_cases h : i < k
      · exact mem_of_at (i := i) (by rw [hget, if_pos h]; exact hi)
      · exact mem_of_at (i := i - 1) (by rw [hget, if_neg (by omega), show i - 1 + 1 = i by omega]; exact hi)
    · intro hu
      obtain ⟨i, hi⟩ := List.getElem?_of_mem hu
      rw [hget] at hi
      split at hi
      · exact ⟨mem_of_at hi, fun e => by subst e; have := nd_inj f.nd hi hk; omega⟩
      · exact ⟨mem_of_at hi, fun e => by subst e; have := nd_inj f.nd hi hk; omega⟩
  · intro i u hu
    rw [hget] at hu
    obtain ⟨j, hj, hju, hjk⟩ : ∃ j, (j = if i < k then i else i + 1) ∧ L[j]? = some u ∧ j ≠ k := by
      split at hu
      · exact ⟨i, by rw [if_pos ‹_›], hu, by omega⟩
      · exact ⟨i + 1, by rw [if_neg ‹_›], hu, by omega⟩
    have hjl : j < L.length := (List.getElem?_eq_some_iff.1 hju).1
    have hux : ¬ u = x := fun e => by subst e; exact hjk (nd_inj f.nd hju hk)
    obtain ⟨au, bu, hmu, hau, hbu⟩ := f.at_ j u hju
    have hm1 : mget (mdel m x) u = some (lk au bu (decide (0 < j)) (decide (j + 1 < L.length))) := by rw [mget_mdel f.knd, if_neg hux]; exact hmu
    -- behind the first step
    have hm2 : mget m2 u = some (lk au (if j + 1 = k then b else bu) (decide (0 < j)) (if j + 1 = k then decide (k + 1 < L.length) else decide (j + 1 < L.length))) := by
      split at hA
      · rename_i h0
        obtain ⟨a', b', p', q', h1, rfl, _⟩ := hA
        rw [mget_mset]
        by_cases hua : u = a
        · subst hua
          have hjk1 : j = k - 1 := nd_inj f.nd hju (ha h0)
          rw [if_pos rfl, if_pos (by omega), if_pos (by omega)]
          rw [hm1] at h1
          simp at h1
          obtain ⟨rfl, rfl, rfl, _⟩ := h1
          rfl
        · have : ¬ j + 1 = k := fun e => hua (by
            have := ha h0
            rw [show k - 1 = j by omega, hju] at this
            exact Option.some.inj this)
          rw [if_neg hua, if_neg this, if_neg this]
          exact hm1
      · obtain ⟨rfl, _⟩ := hA
        rw [if_neg (by omega), if_neg (by omega)]
        exact hm1
    have hm3 : mget m3 u = some (lk (if j = k + 1 then a else au) (if j + 1 = k then b else bu) (if j = k + 1 then decide (0 < k) else decide (0 < j)) (if j + 1 = k then decide (k + 1 < L.length) else decide (j + 1 < L.length))) := by
      split at hB
      · rename_i h0
        obtain ⟨a', b', p', q', h1, rfl, _⟩ := hB
        rw [mget_mset]
        by_cases hub : u = b
        · subst hub
          have hjk1 : j = k + 1 := nd_inj f.nd hju (hb h0)
          rw [if_pos rfl, if_pos hjk1, if_pos hjk1]
          rw [hm2] at h1
          simp at h1
          obtain ⟨rfl, rfl, rfl, rfl⟩ := h1
          rfl
        · have : ¬ j = k + 1 := fun e => hub (by
            have := hb h0
            rw [← e, hju] at this
            exact Option.some.inj this)
          rw [if_neg hub, if_neg this, if_neg this]
          exact hm2
      · obtain ⟨rfl, _⟩ := hB
        have e : ¬ j = k + 1 := by omega
        rw [if_neg e, if_neg e]
        exact hm2
    have eP : (if j = k + 1 then decide (0 < k) else decide (0 < j)) = decide (0 < i) := by
      split
      · have : i = k := by split at hj <;> omega
        rw [this]
      · by_cases hik : i < k
        · rw [if_pos hik] at hj; rw [hj]
        · rw [if_neg hik] at hj
          rw [decide_eq_true (show 0 < j by omega), decide_eq_true (show 0 < i by omega)]
    have eQ : (if j + 1 = k then decide (k + 1 < L.length) else decide (j + 1 < L.length)) = decide (i + 1 < (L.eraseIdx k).length) := by
      rw [hlen]
      split
      · have : i + 1 = k := by split at hj <;> omega
        rw [this]
        by_cases h : k + 1 < L.length
        · rw [decide_eq_true h, decide_eq_true (show k < L.length - 1 by omega)]
        · rw [decide_eq_false h, decide_eq_false (show ¬ k < L.length - 1 by omega)]
      · by_cases hik : i < k
        · rw [if_pos hik] at hj
          rw [decide_eq_true (show j + 1 < L.length by omega), decide_eq_true (show i + 1 < L.length - 1 by omega)]
        · rw [if_neg hik] at hj
          by_cases h : j + 1 < L.length
          · rw [decide_eq_true h, decide_eq_true (show i + 1 < L.length - 1 by omega)]
          · rw [decide_eq_false h, decide_eq_false (show ¬ i + 1 < L.length - 1 by omega)]
    rw [eP, eQ] at hm3
    refine ⟨_, _, hm3, ?_, ?_⟩
    · intro h0
      rw [hget]
      by_cases hjk1 : j = k + 1
      · have : i = k := by split at hj <;> omega
        rw [if_pos hjk1, if_pos (show i - 1 < k by omega), this]
        exact ha (by omega)
      · rw [if_neg hjk1]
        by_cases hik : i < k
        · rw [if_pos hik] at hj
          rw [if_pos (show i - 1 < k by omega), ← hj]
          exact hau (by omega)
        · rw [if_neg hik] at hj
          rw [if_neg (show ¬ i - 1 < k by omega), show i - 1 + 1 = j - 1 by omega]
          exact hau (by omega)
    · intro h0
      rw [hlen] at h0
      rw [hget]
      by_cases hjk1 : j + 1 = k
      · have : i + 1 = k := by split at hj <;> omega
        rw [if_pos hjk1, if_neg (show ¬ i + 1 < k by omega), this]
        exact hb (by omega)
      · rw [if_neg hjk1]
        by_cases hik : i < k
        · rw [if_pos hik] at hj
          rw [if_pos (show i + 1 < k by omega), ← hj]
          exact hbu (by omega)
        · rw [if_neg hik] at hj
          rw [if_neg (show ¬ i + 1 < k by omega), show i + 1 + 1 = j + 1 by omega]
          exact hbu (by omega)
  · intro y hy
    rw [hget] at hy
    split at hA
    · obtain ⟨_, _, _, _, _, _, rfl⟩ := hA
      rw [if_pos ‹_›] at hy
      exact f.hd y hy
    · obtain ⟨_, rfl⟩ := hA
      rw [if_neg ‹_›] at hy
      have hk0 : k = 0 := by omega
      subst hk0
      have hl1 : 0 + 1 < L.length := (List.getElem?_eq_some_iff.1 hy).1
      have := hb hl1
      rw [hy] at this
      exact (Option.some.inj this).symm
  · intro y hy
    rw [hget, hlen] at hy
    split at hB
    · rename_i h0
      obtain ⟨_, _, _, _, _, _, rfl⟩ := hB
      rw [if_neg (by omega), show L.length - 1 - 1 + 1 = L.length - 1 by omega] at hy
      exact f.tl y hy
    · rename_i h0
      obtain ⟨_, rfl⟩ := hB
      have hkl2 : k = L.length - 1 := by omega
      split at hy
      · have := ha (by omega)
        rw [show L.length - 1 - 1 = k - 1 by omega, this] at hy
        exact Option.some.inj hy
      · have := (List.getElem?_eq_some_iff.1 hy).1
        omega
end Go.SL
set_option linter.unusedSimpArgs false
set_option linter.unusedVariables false
namespace Go.SL
open Go Go.RowKit Go.MapKept
section
variable {ro : Option Nat} {P : Program} {B : World} {n : Nat} {ops : Array Oper} {rest : List Oper} {fr : Fr} {H F : HProp} {Q : Post}
variable {d : Nat} {ty : TypeId} {pos : String} {after : Array Edge}
theorem s_eqnilM {t yt : TypeId} {z : Value} [i : MapOf P t z] {x y : Operand} {r : Option Nat} {b : Bool} (hx : ev fr x = .map r) (hy : ev fr y = .map none) (hr : r.isNone = b)
    (hd : Nat.blt d n = true) (k : WPL ro P B n ops rest (fr.put d (.bool b)) H Q) :
    WPL ro P B n ops (⟨some d, .binOp .eql t x y yt, ty, pos, after, none⟩ :: rest) fr H Q :=
  step_pure hd (fun w => by
    obtain ⟨kt, e, inf, hun, _⟩ := i.eq
    have : execOp (ev fr) ⟨some d, .binOp .eql t x y yt, ty, pos, after, none⟩ = (do Pure.pure (Next.value (← (do eqGuard .eql t x y (ev fr x) (ev fr y); binOp .eql t (ev fr x) (ev fr y))))) := rfl
    have he : (Op.equal t (.map r) (.map none)).run P w = .ok r.isNone w := by
      have key : ∀ dd, (Op.equalIn (dd + 1) t (.map r) (.map none)).run P w = .ok r.isNone w := fun dd => by
        cases r <;> simp [Op.equalIn, run_underlying hun]
      exact key _
    rw [this, hx, hy]
    subst hr
    have hg : (eqGuard .eql t x y (.map r) (.map none)).run P w = .ok () w := by
      cases r <;> simp [eqGuard]
    simp [hg, binOp, he, Result.andThen]) k
theorem step_val0 {op : Op}
    (h : ∀ w, Holds B H w → ∃ v w' H', (execOp (ev fr) ⟨none, op, ty, pos, after, none⟩).run P w = .ok (.value v) w' ∧ Holds B H' w' ∧ WPL ro P B n ops rest fr H' Q) :
    WPL ro P B n ops (⟨none, op, ty, pos, after, none⟩ :: rest) fr H Q := by
  intro a w hm hh
  obtain ⟨v, w', H', hr, hh', hk⟩ := h w hh
  unfold wpListIn
  rw [if_pos (by simp [Region.wanted])]
  refine ⟨fun f _ => trivial, ?_⟩
  rw [hm.eval, semAt_of hr (by simp)]
  exact hk _ _ hm hh'
theorem s_mdel0 {t t2 : TypeId} {z : Value} {b : Nat} {m : Assoc} {x y : Operand} {k : Int} [i : MapOf P t z] [h : HasAt MapAt H b m F] (hx : ev fr x = .map (some b)) (hy : ev fr y = .int .i64 k)
    (k' : WPL ro P B n ops rest fr (MapAt b (mdel m k) + F) Q) : WPL ro P B n ops (⟨none, .call ⟨.builtin .delete, #[x, y], #[t, t2]⟩, ty, pos, after, none⟩ :: rest) fr H Q := step_val0 fun w hw => by
  rw [h.eq] at hw
  obtain ⟨es, c, hr, hb, ho, hs⟩ := hw.map
  obtain ⟨kt, e, inf, hu, hk, hi, hz⟩ := i.eq
  have hf := run_findKey (P := P) (w := w) hk (MRep.find (k := k) es.toList m 0 hr)
  have hck := run_checkKey (P := P) (w := w) (k := .int .i64 k) hk rfl es.isEmpty 9999
  cases hm : midx m k with
  | none =>
    rw [hm] at hf
    refine ⟨.tuple #[], _, _, ?_, ho.mapUpd (m := m) (es' := es) (c' := c) (m' := mdel m k) ?_ ?_, k'⟩
    · simp [execOp, resolve, invoke, builtin, hx, hy, Builtin.delete_, run_underlying hu, MapKept.run_getObj_map hb, hck, hf, run_setObj_map _ hb, Result.andThen]
    · rw [mdel_none hm]; exact hr
    · exact hs
  | some p =>
    obtain ⟨j, u'⟩ := p
    rw [hm] at hf
    obtain ⟨h1, h2⟩ := MRep.erase es.toList m j u' hr hm
    refine ⟨.tuple #[], _, _, ?_, ho.mapUpd (m := m) (es' := es.eraseIdxIfInBounds j) (c' := c) (m' := mdel m k) ?_ ?_, k'⟩
    · simp [execOp, resolve, invoke, builtin, hx, hy, Builtin.delete_, run_underlying hu, MapKept.run_getObj_map hb, hck, hf, run_setObj_map _ hb, Result.andThen]
    · have hj : j < es.size := by simpa using h2
      unfold Array.eraseIdxIfInBounds
      rw [dif_pos hj, Array.toList_eraseIdx]
      exact h1
    · have hj : j < es.size := by simpa using h2
      unfold Array.eraseIdxIfInBounds
      rw [dif_pos hj, Array.toList_eraseIdx]
      exact hs.sub (List.eraseIdx_sublist _ _)
theorem set_mid0 {A Z : List Value} {a v : Value} : (A ++ a :: Z).set A.length v = A ++ v :: Z := by simp
theorem set_mid1 {A Z : List Value} {a b v : Value} : (A ++ a :: b :: Z).set (A.length + 1) v = A ++ a :: v :: Z := by
  rw [List.set_append_right _ _ (by omega)]; simp
theorem set_mid2 {A Z : List Value} {a b c v : Value} : (A ++ a :: b :: c :: Z).set (A.length + 2) v = A ++ a :: b :: v :: Z := by
  rw [List.set_append_right _ _ (by omega)]; simp
theorem mid0 {p e : Nat} {A Z : List Value} {a : Value} [i : HasBlk H p (A ++ a :: Z) e F] : Cell B H p A.length a := Cell.blk (by simp)
theorem mid1 {p e : Nat} {A Z : List Value} {a b : Value} [i : HasBlk H p (A ++ a :: b :: Z) e F] : Cell B H p (A.length + 1) b := Cell.blk (by rw [List.getElem?_append_right (by omega)]; simp)
theorem mid2 {p e : Nat} {A Z : List Value} {a b c : Value} [i : HasBlk H p (A ++ a :: b :: c :: Z) e F] : Cell B H p (A.length + 2) c := Cell.blk (by rw [List.getElem?_append_right (by omega)]; simp)
theorem s_storeM0 {t e : TypeId} {x y : Operand} {p : Nat} {A Z : List Value} {a v : Value} [i : Plain P t] (hx : ev fr x = .pointer (some ⟨p, A.length, none⟩)) [hb : HasBlk H p (A ++ a :: Z) e F] (hy : ev fr y = v) (h1 : v.oneCell' = true)
    (k : WPL ro P B n ops rest fr (blk p (A ++ v :: Z) e + F) Q) : WPL ro P B n ops (⟨none, .store t x y, ty, pos, after, none⟩ :: rest) fr H Q :=
  s_store (cs' := A ++ v :: Z) hx hy h1 (by simp) set_mid0 k
theorem s_storeM1 {t e : TypeId} {x y : Operand} {p : Nat} {A Z : List Value} {a b v : Value} [i : Plain P t] (hx : ev fr x = .pointer (some ⟨p, A.length + 1, none⟩)) [hb : HasBlk H p (A ++ a :: b :: Z) e F] (hy : ev fr y = v) (h1 : v.oneCell' = true)
    (k : WPL ro P B n ops rest fr (blk p (A ++ a :: v :: Z) e + F) Q) : WPL ro P B n ops (⟨none, .store t x y, ty, pos, after, none⟩ :: rest) fr H Q :=
  s_store (cs' := A ++ a :: v :: Z) hx hy h1 (by simp) set_mid1 k
theorem s_storeM2 {t e : TypeId} {x y : Operand} {p : Nat} {A Z : List Value} {a b c v : Value} [i : Plain P t] (hx : ev fr x = .pointer (some ⟨p, A.length + 2, none⟩)) [hb : HasBlk H p (A ++ a :: b :: c :: Z) e F] (hy : ev fr y = v) (h1 : v.oneCell' = true)
    (k : WPL ro P B n ops rest fr (blk p (A ++ a :: b :: v :: Z) e + F) Q) : WPL ro P B n ops (⟨none, .store t x y, ty, pos, after, none⟩ :: rest) fr H Q :=
  s_store (cs' := A ++ a :: b :: v :: Z) hx hy h1 (by simp) set_mid2 k
end
end Go.SL
set_option linter.unusedSimpArgs false
set_option linter.unusedVariables false
namespace Go.SL
open Go Go.RowKit
section
variable {ro : Option Nat} {P : Program} {B : World} {n : Nat} {ops : Array Oper} {rest : List Oper} {fr : Fr} {H : HProp} {Q : Post}
variable {d : Nat} {ty : TypeId} {pos : String} {after : Array Edge}
theorem s_strBytes {t u e : TypeId} {by' : Nat} {z : List Value} {x : Operand} {l : List UInt8} [us : UnderStr P t] [i : SliceOf P u e 1 by' z] [ie : IntTy P e .u8] (hx : ev fr x = str l) (hl : l.length ≤ maxLen) (hd : Nat.blt d n = true)
    (k : ∀ v b o, Rd B (obj b o) 1 v l.length (by8 l) → WPL ro P B n ops rest (fr.put d v) (obj b o + H) Q) : WPL ro P B n ops (⟨some d, .convert t u x, ty, pos, after, none⟩ :: rest) fr H Q := step_val hd fun w hw => by
  have hr := run_bytes_of_string (P := P) w t u e ⟨l.toArray⟩ us.eq i.eq.1 ie.eq
  have hsz : (⟨l.toArray⟩ : ByteArray).size = l.length := by show l.toArray.size = _; simp
  rw [hsz] at hr
  obtain ⟨row, hrow⟩ : ∃ row, bytesRow ⟨l.toArray⟩ (grownCap w l.length 0 e) = row := ⟨_, rfl⟩
  rw [hrow] at hr
  refine ⟨.slice (some ⟨w.heap.size, 0, none⟩) l.length (grownCap w l.length 0 e), w.drew.alloc (.cells row e (row.size, row.size + 1)), obj w.heap.size (.cells row e (row.size, row.size + 1)) + H, ?_, hw.drew.alloc _, k _ _ _ ?_⟩
  · have : execOp (ev fr) ⟨some d, .convert t u x, ty, pos, after, none⟩ = (do Pure.pure (Next.value (← convert t u (ev fr x)))) := rfl
    rw [this, hx]
    simp only [Sem.run_bind, hr, Result.andThen_ok, Sem.run_pure]
  · unfold Rd
    refine ⟨some ⟨w.heap.size, 0, none⟩, grownCap w l.length 0 e, rfl, by simp, hl, .inr ⟨w.heap.size, 0, rfl, fun w' hw' j v hj => ?_⟩⟩
    have ho : w'.heap[w.heap.size]? = some (.cells row e (row.size, row.size + 1)) := (Holds.obj (F := emp) (by rw [HProp.add_emp]; exact hw')).1
    rw [cell_of_row w' w.heap.size (0 + j) _ _ _ ho, Nat.zero_add]
    have hlt : j < l.length := by have := (List.getElem?_eq_some_iff.1 hj).1; simpa using this
    rw [← hrow]
    unfold bytesRow
    rw [Array.getElem?_append_left (by simp; exact hlt)]
    simpa [by8, hlt] using hj
end
end Go.SL
set_option linter.unusedSimpArgs false
set_option linter.unusedVariables false
namespace Go.SL
open Go Go.RowKit
class FieldV (P : Program) (t : TypeId) (f : Nat) (ft : outParam TypeId) (o : outParam Nat) : Prop where
  eq : (match P.underlying t with
    | some (.struct fs) => (fs[f]?).map fun x => (x.type, x.offset)
    | _ => none) = some (ft, o)
section
variable {ro : Option Nat} {P : Program} {B : World} {n : Nat} {ops : Array Oper} {rest : List Oper} {fr : Fr} {H : HProp} {Q : Post}
variable {d : Nat} {ty : TypeId} {pos : String} {after : Array Edge}
theorem s_fieldV {t ft : TypeId} {f o : Nat} {x : Operand} {cs : List Value} {v : Value} [i : FieldV P t f ft o] [pl : Plain P ft] (hx : ev fr x = .agg cs.toArray) (hv : cs[o]? = some v) (hd : Nat.blt d n = true)
    (k : WPL ro P B n ops rest (fr.put d v) H Q) : WPL ro P B n ops (⟨some d, .field t x f, ty, pos, after, none⟩ :: rest) fr H Q := step_pure hd (fun w => by
  obtain ⟨inf', ds, hi', hu', _, hds⟩ := pl.eq
  have h := i.eq
  split at h
  · rename_i fs hu
    cases hx2 : fs[f]? with
    | none => rw [hx2] at h; cases h
    | some fl =>
      rw [hx2] at h
      simp only [Option.map_some, Option.some.injEq, Prod.mk.injEq] at h
      obtain ⟨h1, h2⟩ := h
      have : execOp (ev fr) ⟨some d, .field t x f, ty, pos, after, none⟩ = (do Pure.pure (Next.value (← Instr.field t (ev fr x) f))) := rfl
      have hagg : (isAgg ft).run P w = .ok false w := by cases ds <;> first | exact hds.elim | simp [isAgg, run_underlying hu']
      rw [this, hx]
      simp [Instr.field, run_underlying hu, hx2, asAgg, part, h1, h2, hagg, hv]
  · cases h) k
end
end Go.SL
set_option linter.unusedSimpArgs false
set_option linter.unusedVariables false
namespace Go.SL
open Go Go.RowKit
set_option maxRecDepth 10000
theorem walkB {p q : Prop} (k : q) (h : Owed q → p := by
  intro k_
  (repeat (first | (show WPL _ _ _ _ _ (⟨_, .move _, _, _, _, none⟩ :: _) _ _ _; first | refine s_move (v := .int _ _) rfl rfl ?_ | refine s_move (v := .pointer _) rfl rfl ?_ | refine s_move (v := .slice _ _ _) rfl rfl ?_ | refine s_move (v := .bool _) rfl rfl ?_ | refine s_move (v := .agg _) rfl rfl ?_ | refine s_move (v := .string _) rfl rfl ?_ | refine s_move (v := .tuple _) rfl rfl ?_ | refine s_move (v := .map _) rfl rfl ?_ | refine s_move (v := .nilIface) rfl rfl ?_ | refine s_move (v := .iface _ _) rfl rfl ?_ | refine s_move (v := .func _ _ _) rfl rfl ?_ | refine s_move (v := .float _ _) rfl rfl ?_ | refine s_move rfl rfl ?_) | (show WPL _ _ _ _ _ (⟨_, .assign _, _, _, _, none⟩ :: _) _ _ _; first | refine s_assign (v := .int _ _) rfl rfl ?_ | refine s_assign (v := .pointer _) rfl rfl ?_ | refine s_assign (v := .slice _ _ _) rfl rfl ?_ | refine s_assign (v := .bool _) rfl rfl ?_ | refine s_assign (v := .agg _) rfl rfl ?_ | refine s_assign (v := .string _) rfl rfl ?_ | refine s_assign (v := .tuple _) rfl rfl ?_ | refine s_assign (v := .map _) rfl rfl ?_ | refine s_assign (v := .nilIface) rfl rfl ?_ | refine s_assign (v := .iface _ _) rfl rfl ?_ | refine s_assign (v := .func _ _ _) rfl rfl ?_ | refine s_assign (v := .float _ _) rfl rfl ?_ | refine s_assign rfl rfl ?_) | (show WPL _ _ _ _ _ (⟨_, .load _ _, _, _, _, none⟩ :: _) _ _ _; first | refine s_load (v := .int _ _) rfl (Cell.blk rfl) rfl ?_ | refine s_load (v := .pointer _) rfl (Cell.blk rfl) rfl ?_ | refine s_load (v := .slice _ _ _) rfl (Cell.blk rfl) rfl ?_ | refine s_load (v := .bool _) rfl (Cell.blk rfl) rfl ?_ | refine s_load (v := .agg _) rfl (Cell.blk rfl) rfl ?_ | refine s_load (v := .string _) rfl (Cell.blk rfl) rfl ?_ | refine s_load (v := .tuple _) rfl (Cell.blk rfl) rfl ?_ | refine s_load (v := .map _) rfl (Cell.blk rfl) rfl ?_ | refine s_load (v := .nilIface) rfl (Cell.blk rfl) rfl ?_ | refine s_load (v := .iface _ _) rfl (Cell.blk rfl) rfl ?_ | refine s_load (v := .func _ _ _) rfl (Cell.blk rfl) rfl ?_ | refine s_load (v := .float _ _) rfl (Cell.blk rfl) rfl ?_ | (apply s_load; (· exact rfl); (· assumption); (· exact rfl)) | (apply s_load; (· exact rfl); (· (apply Cell.ent; (· assumption); (· exact InH.ent))); (· exact rfl)) | (refine s_load rfl (Cell.atZs ?_) rfl ?_; · omega) | (refine s_load rfl (Cell.atZsA ?_) rfl ?_; · omega) | (apply s_load; (· exact rfl); (· (apply Cells.atZs; (· assumption); (· omega); (· exact InH.ent))); (· exact rfl)) | refine s_loadA rfl Cells.blk0 rfl rfl ?_ | (apply s_loadA; (· exact rfl); (· assumption); (· exact rfl); (· exact rfl)) | (apply s_loadA; (· exact rfl); (· (apply Cells.ent; (· assumption); (· exact InH.ent))); (· exact rfl); (· exact rfl))) | (show WPL _ _ _ _ _ (⟨_, .fieldAddr _ _ _, _, _, _, none⟩ :: _) _ _ _; first | refine s_fieldAddr0 rfl rfl ?_ | refine s_fieldAddr rfl rfl rfl ?_) | (show WPL _ _ _ _ _ (⟨_, .nilCheck _, _, _, _, none⟩ :: _) _ _ _; first | refine s_nilCheck rfl rfl ?_) | (show WPL _ _ _ _ _ (⟨_, .indexAddr _ _ _, _, _, _, none⟩ :: _) _ _ _; first | (refine s_indexAddr0 rfl rfl ?_ rfl ?_; · omega) | (refine s_indexAddr1 rfl rfl ?_ rfl ?_; · omega) | (refine s_indexAddr rfl rfl rfl ?_ rfl rfl ?_; · omega)) | (show WPL _ _ _ _ _ (⟨_, .call _, _, _, _, none⟩ :: _) _ _ _; first | refine s_len rfl rfl ?_) | (show WPL _ _ _ _ _ (⟨_, .binOp .add _ _ _ _, _, _, _, none⟩ :: _) _ _ _; first | (refine s_add rfl rfl rfl ?_ rfl ?_; · omega) | (refine s_addw rfl rfl (intU32 ?_) rfl ?_; · omega) | (refine s_addw rfl rfl (intU64 ?_) rfl ?_; · omega) | (refine s_addw rfl rfl (intU8 ?_) rfl ?_; · omega) | (refine s_addw rfl rfl (intI32 ?_) rfl ?_; · omega) | refine s_addw rfl rfl (wrapU32 _) rfl ?_ | refine s_addw rfl rfl (wrapU64 _) rfl ?_ | refine s_addw rfl rfl (wrapU8 _) rfl ?_) | (show WPL _ _ _ _ _ (⟨_, .binOp .mul _ _ _ _, _, _, _, none⟩ :: _) _ _ _; first | (refine s_mul rfl rfl rfl ?_ rfl ?_; · omega) | (refine s_mulw rfl rfl (intU32 ?_) rfl ?_; · omega) | (refine s_mulw rfl rfl (intU64 ?_) rfl ?_; · omega) | (refine s_mulw rfl rfl (intU8 ?_) rfl ?_; · omega) | (refine s_mulw rfl rfl (intI32 ?_) rfl ?_; · omega) | refine s_mulw rfl rfl (wrapU32 _) rfl ?_ | refine s_mulw rfl rfl (wrapU64 _) rfl ?_ | refine s_mulw rfl rfl (wrapU8 _) rfl ?_) | (show WPL _ _ _ _ _ (⟨_, .binOp .rem _ _ _ _, _, _, _, none⟩ :: _) _ _ _; first | (refine s_remP rfl rfl ?_ rfl ?_; · omega)) | (show WPL _ _ _ _ _ (⟨_, .binOp .quo _ _ _ _, _, _, _, none⟩ :: _) _ _ _; first | (refine s_quoP rfl rfl ?_ rfl ?_; · omega)) | (show WPL _ _ _ _ _ (⟨_, .binOp .sub _ _ _ _, _, _, _, none⟩ :: _) _ _ _; first | (refine s_sub rfl rfl rfl ?_ rfl ?_; · omega) | (refine s_subw rfl rfl (intU32 ?_) rfl ?_; · omega) | (refine s_subw rfl rfl (intU64 ?_) rfl ?_; · omega) | (refine s_subw rfl rfl (intU8 ?_) rfl ?_; · omega) | (refine s_subw rfl rfl (intI32 ?_) rfl ?_; · omega) | refine s_subw rfl rfl (wrapU32 _) rfl ?_ | refine s_subw rfl rfl (wrapU64 _) rfl ?_ | refine s_subw rfl rfl (wrapU8 _) rfl ?_) | (show WPL _ _ _ _ _ (⟨_, .binOp .lss _ _ _ _, _, _, _, none⟩ :: _) _ _ _; first | (refine s_lss_t rfl rfl ?_ rfl ?_; · omega) | (refine s_lss_f rfl rfl ?_ rfl ?_; · omega)) | (show WPL _ _ _ _ _ (⟨_, .binOp .eql _ _ _ _, _, _, _, none⟩ :: _) _ _ _; first | (refine s_eql_t rfl rfl ?_ rfl ?_; · omega) | (refine s_eql_f rfl rfl ?_ rfl ?_; · omega) | refine s_eqnil rfl rfl (b := true) rfl rfl ?_ | refine s_eqnil rfl rfl (b := false) rfl rfl ?_ | refine s_eqbool rfl rfl (b := true) rfl rfl ?_ | refine s_eqbool rfl rfl (b := false) rfl rfl ?_ | (refine s_eqbool rfl rfl (b := true) ?_ rfl ?_; · simp)) | (show WPL _ _ _ _ _ (⟨_, .binOp .neq _ _ _ _, _, _, _, none⟩ :: _) _ _ _; first | (refine s_neq_t rfl rfl ?_ rfl ?_; · omega) | (refine s_neq_f rfl rfl ?_ rfl ?_; · omega) | refine s_nenil rfl rfl (b := true) rfl rfl ?_ | refine s_nenil rfl rfl (b := false) rfl rfl ?_ | refine s_nebool rfl rfl (b := true) rfl rfl ?_ | refine s_nebool rfl rfl (b := false) rfl rfl ?_ | (refine s_nebool rfl rfl (b := false) ?_ rfl ?_; · simp) | (apply s_neqS (xs := [_, _]) (ys := [_, _]); (· exact rfl); (· exact rfl); (· exact rfl); (· exact rfl); (· assumption); (· exact rfl))) | (show WPL _ _ _ _ _ (⟨_, .binOp .geq _ _ _ _, _, _, _, none⟩ :: _) _ _ _; first | (refine s_geq_t rfl rfl ?_ rfl ?_; · omega) | (refine s_geq_f rfl rfl ?_ rfl ?_; · omega)) | (show WPL _ _ _ _ _ (⟨_, .binOp .leq _ _ _ _, _, _, _, none⟩ :: _) _ _ _; first | (refine s_leq_t rfl rfl ?_ rfl ?_; · omega) | (refine s_leq_f rfl rfl ?_ rfl ?_; · omega)) | (show WPL _ _ _ _ _ (⟨_, .binOp .gtr _ _ _ _, _, _, _, none⟩ :: _) _ _ _; first | (refine s_gtr_t rfl rfl ?_ rfl ?_; · omega) | (refine s_gtr_f rfl rfl ?_ rfl ?_; · omega)) | (show WPL _ _ _ _ _ (⟨_, .convert _ _ _, _, _, _, none⟩ :: _) _ _ _; first | (refine s_conv rfl (intI64 ?_) rfl ?_; · omega) | (refine s_conv rfl (intU32 ?_) rfl ?_; · omega) | (refine s_conv rfl (intU64 ?_) rfl ?_; · omega) | (refine s_conv rfl (intU8 ?_) rfl ?_; · omega) | (refine s_conv rfl (intI32 ?_) rfl ?_; · omega) | refine s_conv rfl (wrapU32 _) rfl ?_ | refine s_conv rfl (wrapU64 _) rfl ?_ | refine s_conv rfl (wrapU8 _) rfl ?_) | (show WPL _ _ _ _ _ (⟨_, .unOp .not _ _, _, _, _, none⟩ :: _) _ _ _; first | refine s_not (c := true) rfl rfl rfl ?_ | refine s_not (c := false) rfl rfl rfl ?_) | (show WPL _ _ _ _ _ (⟨_, .pick _ _ _, _, _, _, none⟩ :: _) _ _ _; first | refine s_pick_t (v := .int _ _) rfl rfl rfl ?_ | refine s_pick_f (v := .int _ _) rfl rfl rfl ?_ | refine s_pick_t (v := .pointer _) rfl rfl rfl ?_ | refine s_pick_f (v := .pointer _) rfl rfl rfl ?_ | refine s_pick_t (v := .slice _ _ _) rfl rfl rfl ?_ | refine s_pick_f (v := .slice _ _ _) rfl rfl rfl ?_ | refine s_pick_t (v := .bool _) rfl rfl rfl ?_ | refine s_pick_f (v := .bool _) rfl rfl rfl ?_ | refine s_pick_t (v := .agg _) rfl rfl rfl ?_ | refine s_pick_f (v := .agg _) rfl rfl rfl ?_ | refine s_pick_t (v := .string _) rfl rfl rfl ?_ | refine s_pick_f (v := .string _) rfl rfl rfl ?_ | refine s_pick_t (v := .tuple _) rfl rfl rfl ?_ | refine s_pick_f (v := .tuple _) rfl rfl rfl ?_ | refine s_pick_t (v := .map _) rfl rfl rfl ?_ | refine s_pick_f (v := .map _) rfl rfl rfl ?_ | refine s_pick_t (v := .nilIface) rfl rfl rfl ?_ | refine s_pick_f (v := .nilIface) rfl rfl rfl ?_ | refine s_pick_t (v := .iface _ _) rfl rfl rfl ?_ | refine s_pick_f (v := .iface _ _) rfl rfl rfl ?_ | refine s_pick_t (v := .func _ _ _) rfl rfl rfl ?_ | refine s_pick_f (v := .func _ _ _) rfl rfl rfl ?_ | refine s_pick_t (v := .float _ _) rfl rfl rfl ?_ | refine s_pick_f (v := .float _ _) rfl rfl rfl ?_) | (show WPL _ _ _ _ _ (⟨_, .extract _ _, _, _, _, none⟩ :: _) _ _ _; first | refine s_extract (v := .int _ _) rfl rfl rfl ?_ | refine s_extract (v := .pointer _) rfl rfl rfl ?_ | refine s_extract (v := .slice _ _ _) rfl rfl rfl ?_ | refine s_extract (v := .bool _) rfl rfl rfl ?_ | refine s_extract (v := .agg _) rfl rfl rfl ?_ | refine s_extract (v := .string _) rfl rfl rfl ?_ | refine s_extract (v := .tuple _) rfl rfl rfl ?_ | refine s_extract (v := .map _) rfl rfl rfl ?_ | refine s_extract (v := .nilIface) rfl rfl rfl ?_ | refine s_extract (v := .iface _ _) rfl rfl rfl ?_ | refine s_extract (v := .func _ _ _) rfl rfl rfl ?_ | refine s_extract (v := .float _ _) rfl rfl rfl ?_) | (show WPL _ _ _ _ _ (⟨_, _, _, _, _, some _⟩ :: _) _ _ _; first | refine step_wanted rfl rfl ?_ | refine step_unwanted rfl rfl rfl rfl ?_ | refine step_unwanted0 rfl rfl rfl ?_ | refine step_unwantedU rfl rfl rfl ?_ | refine step_unwantedU0 rfl rfl ?_) | refine wpl_nil_seq ?_ | refine wp_seq' ?_ | refine wp_region' ?_ | refine wp_cond_t rfl ?_ | refine wp_cond_f rfl ?_ | refine wp_skip' ?_ | refine q_seq ?_ | refine wp_ret' ?_ | refine wp_exit' ?_ | refine q_seq_ret ?_ | refine q_seq_exit ?_ | refine q_blk_ret ?_ | refine q_blk_here ?_ | refine q_blk_exit rfl ?_ | refine q_blk ?_ | refine wpl_nil ?_))
  exact k_.get) : p := h ⟨k⟩
end Go.SL
set_option linter.unusedSimpArgs false
set_option linter.unusedVariables false
namespace Go.SL
open Go Go.RowKit Go.ChangeShapes Go.WideShapes Go.ChangeAt

/-- The shapes of flat types, and of slices of them. -/
inductive Shape where
  | bool
  | int (k : IntKind)
  | float (k : FloatKind)
  | str
  | unit
  | cat (a : Shape) (n : Nat) (b : Shape)
  | slice (sz : Nat) (e : Shape)
/-- Cells of a shape. -/
def Has (w : World) : Shape → List Value → Prop
  | .bool, cs => ∃ b, cs = [.bool b]
  | .int k, cs => ∃ n, cs = [.int k n] ∧ (Lit.int k n).wf = true
  | .float k, cs => ∃ b, cs = [.float k b] ∧ (Lit.float k b).wf = true
  | .str, cs => ∃ s : ByteArray, cs = [.string s] ∧ s.size ≤ maxLen
  | .unit, cs => cs = []
  | .cat a n b, cs => Has w a (cs.take n) ∧ Has w b (cs.drop n)
  | .slice sz e, cs => ∃ (ao : Option Addr) (len cap : Nat) (rows : List (List Value)), cs = [.slice ao len cap] ∧ len ≤ cap ∧ cap ≤ maxLen ∧ rows.length = len ∧ (∀ r ∈ rows, r.length = sz ∧ Has w e r) ∧
      (len = 0 ∨ sz = 0 ∨ ∃ b o, ao = some ⟨b, o, none⟩ ∧ ∀ (i : Nat) (r : List Value), rows[i]? = some r → ∀ (j : Nat) (v : Value), r[j]? = some v → w.cell? ⟨b, o + i * sz + j, none⟩ = some v)

def shapeFs (P : Program) (g : TypeId → Option Shape) (size : Nat) : List Field → Nat → Option Shape
  | [], off => if off = size then some .unit else none
  | x :: fs, off => if x.offset = off then (g x.type).bind fun a => (shapeFs P g size fs (off + P.cellsOf x.type)).map fun b => .cat a (P.cellsOf x.type) b else none
def shapeOf (P : Program) : Nat → TypeId → Option Shape
  | 0, _ => none
  | f + 1, t => match P.underlying t with
    | some .bool => some .bool
    | some (.int k) => some (.int k)
    | some (.float k) => some (.float k)
    | some .string => some .str
    | some (.slice e) => (shapeOf P f e).map (.slice (P.cellsOf e))
    | some (.struct fs) => shapeFs P (shapeOf P f) (P.cellsOf t) fs.toList 0
    | _ => none

section
variable {H : Type} {enc : TypeId × Value → H} {P : Program} {w : World} {base : Nat} {spare : Nat → Bool} {held : Bool}
theorem trod_float {k : FloatKind} {fuel : Nat} {t : TypeId} {cs : List Value} {x : DataW H × List MemPlace} (ht : P.underlying t = some (.float k)) (h : DataW.trod enc P w base spare held fuel t cs = some x) :
    ∃ n, cs = [.float k n] ∧ (Lit.float k n).wf = true := by
  cases fuel with
  | zero => simp [DataW.trod] at h
  | succ n =>
    unfold DataW.trod at h
    rw [ht] at h
    split at h <;> simp_all
theorem addr_spot {w : World} {a : Addr} {v : Value} (h : w.cell? a = some v) : a = ⟨a.block, a.off, none⟩ := by
  obtain ⟨b, o, s⟩ := a
  cases s with
  | none => rfl
  | some s =>
    unfold World.cell? at h
    split at h
    · simp at h
    · cases h
theorem rows_choose {p : Nat → List Value → Prop} : ∀ (len : Nat), (∀ i, i < len → ∃ r, p i r) → ∃ rows : List (List Value), rows.length = len ∧ ∀ i r, rows[i]? = some r → p i r
  | 0, _ => ⟨[], rfl, by simp⟩
  | len + 1, h => by
    obtain ⟨rows, h1, h2⟩ := rows_choose len fun i hi => h i (by omega)
    obtain ⟨r, hr⟩ := h len (by omega)
    refine ⟨rows ++ [r], by simp [h1], fun i r' hr' => ?_⟩
    rw [List.getElem?_append] at hr'
    split at hr'
    · exact h2 i r' hr'
    · rename_i hge
      have : i = len := by
        have := (List.getElem?_eq_some_iff.1 hr').1
        simp at this; omega
      subst this
      simp [h1] at hr'
      subst hr'
      exact hr
theorem has_of_trod : ∀ (f : Nat) (t : TypeId) (sh : Shape), shapeOf P f t = some sh → ∀ (fuel : Nat) (cs : List Value) (x : DataW H × List MemPlace),
    DataW.trod enc P w base spare held fuel t cs = some x → Has w sh cs := by
  intro f
  induction f with
  | zero => intro t sh h; simp [shapeOf] at h
  | succ f ih =>
    intro t sh hs fuel cs x hx
    unfold shapeOf at hs
    split at hs
    · rename_i ht; cases hs; obtain ⟨b, hb, _⟩ := DataW.trod_bool ht hx; exact ⟨b, hb⟩
    · rename_i k ht; cases hs; obtain ⟨n, hb, _, hw⟩ := DataW.trod_int ht hx; exact ⟨n, hb, hw⟩
    · rename_i k ht; cases hs; obtain ⟨b, hb, hw⟩ := trod_float ht hx; exact ⟨b, hb, hw⟩
    · rename_i ht; cases hs; obtain ⟨s, hb, _, hw⟩ := DataW.trod_string ht hx; exact ⟨s, hb, hw⟩
    · rename_i e ht
      cases he : shapeOf P f e with
      | none => rw [he] at hs; cases hs
      | some se =>
        rw [he] at hs
        cases hs
        rcases DataW.trod_slice ht hx with ⟨rfl, _⟩ | ⟨a, len, cap, elems, rest, n, _, rfl, _, _, hl, hm, hlen, hel, _, _⟩
        · exact ⟨none, 0, 0, [], rfl, Nat.le_refl _, Nat.zero_le _, rfl, by simp, .inl rfl⟩
        · have key : ∀ i, i < len → ∃ r : List Value, w.cells? base (a.add (i * P.cellsOf e)) (P.cellsOf e) = some r ∧ Has w se r := by
            intro i hi
            have h1 := hel i hi
            rw [List.getElem?_eq_getElem (by omega)] at h1
            obtain ⟨r, h2, h3⟩ := Option.bind_eq_some_iff.1 h1
            exact ⟨r, h2, ih e se he n r _ h3⟩
          have hch := rows_choose len key
          obtain ⟨rows, h1, h2⟩ := hch
          refine ⟨some a, len, cap, rows, rfl, hl, hm, h1, fun r hr => ?_, ?_⟩
          · obtain ⟨i, hi, rfl⟩ := List.getElem_of_mem hr
            obtain ⟨h3, h4⟩ := h2 i rows[i] (by simp [hi])
            exact ⟨(World.cells?_some h3).2.1, h4⟩
          · by_cases h0 : len = 0
            · exact .inl h0
            · by_cases hz : P.cellsOf e = 0
              · exact .inr (.inl hz)
              · right; right
                obtain ⟨r0, hr0, _⟩ := key 0 (by omega)
                obtain ⟨_, hl0, hc0⟩ := World.cells?_some hr0
                have h00 := hc0 0 (by omega)
                rw [List.getElem?_eq_getElem (by omega)] at h00
                have ha' : a = ⟨a.block, a.off, none⟩ := addr_spot (v := r0[0]'(by omega)) (by simpa [Addr.add] using h00)
                refine ⟨a.block, a.off, congrArg some ha', fun i r hr j v hv => ?_⟩
                obtain ⟨h3, _⟩ := h2 i r hr
                obtain ⟨_, hl3, hc3⟩ := World.cells?_some h3
                have hj : j < P.cellsOf e := by have := (List.getElem?_eq_some_iff.1 hv).1; omega
                have h4 := hc3 j hj
                rw [hv, ha', Addr.add_lit, Addr.add_lit] at h4
                exact h4
    · rename_i fs ht
      obtain ⟨xs, n, _, _, hcl, hxl, hfs⟩ := DataW.trod_struct ht hx
      have key : ∀ (l : List Field) (k : Nat) (off : Nat) (s : Shape), fs.toList.drop k = l → shapeFs P (shapeOf P f) (P.cellsOf t) l off = some s → Has w s (cs.drop off) := by
        intro l
        induction l with
        | nil =>
          intro k off s _ hs
          unfold shapeFs at hs
          split at hs
          · rename_i h0; cases hs; subst h0; unfold Has; exact List.drop_of_length_le (by omega)
          · cases hs
        | cons x l ihl =>
          intro k off s hd hs
          unfold shapeFs at hs
          split at hs
          · rename_i h0
            subst h0
            obtain ⟨a, ha, hs⟩ := Option.bind_eq_some_iff.1 hs
            obtain ⟨b, hb, rfl⟩ := Option.map_eq_some_iff.1 hs
            have hk : fs[k]? = some x := by
              have : fs.toList[k]? = some x := by
                have := congrArg (fun l : List Field => l[0]?) hd
                simpa using this
              simpa using this
            have h1 := hfs k x hk
            have hkl : k < fs.size := (Array.getElem?_eq_some_iff.1 hk).1
            rw [List.getElem?_eq_getElem (by omega)] at h1
            refine ⟨ih _ _ ha _ _ _ h1, ?_⟩
            rw [List.drop_drop]
            refine ihl (k + 1) _ b ?_ hb
            have := congrArg (List.drop 1) hd
            simpa [List.drop_drop, Nat.add_comm] using this
          · cases hs
      have := key fs.toList 0 0 sh rfl hs
      simpa using this
    · cases hs

/-- An argument of a shape. -/
theorem open_shape (f : Nat) {t : TypeId} {v : Value} {d : DataW H} {ps : List MemPlace} {sh : Shape} (hs : shapeOf P f t = some sh) (h : DataW.Trod enc P w base spare held t v d ps) : Has w sh v.cells.toList :=
  let ⟨_, hf⟩ := h
  has_of_trod f t sh hs _ _ _ hf
theorem cells_slice {r : Reach} {b0 : Nat} {t e : TypeId} {v : Value} (ht : P.underlying t = some (.slice e)) (hval : Value.okWide P w r b0 t v) : v.cells.toList = [v] := by
  obtain ⟨a, len, cap, rfl⟩ := okWide_slice ht hval
  rfl
end

/-- Rows that all come of something come of a list. -/
theorem rows_of {α : Type} (enc : α → List Value) : ∀ (rows : List (List Value)), (∀ r ∈ rows, ∃ a, r = enc a) → ∃ l : List α, rows = l.map enc
  | [], _ => ⟨[], rfl⟩
  | r :: rows, h => by
    obtain ⟨a, ha⟩ := h r (by simp)
    obtain ⟨l, hl⟩ := rows_of enc rows fun r hr => h r (by simp [hr])
    exact ⟨a :: l, by rw [ha, hl]; rfl⟩
theorem flat_get {α : Type} (enc : α → List Value) (sz : Nat) (hsz : ∀ a, (enc a).length = sz) : ∀ (l : List α) (i : Nat) (h : i < l.length) (j : Nat), j < sz → (l.flatMap enc)[i * sz + j]? = (enc l[i])[j]?
  | [], i, h, _, _ => by simp at h
  | a :: l, 0, h, j, hj => by simp [List.getElem?_append_left (show j < (enc a).length by rw [hsz]; exact hj)]
  | a :: l, i + 1, h, j, hj => by
    have e : (i + 1) * sz + j = (enc a).length + (i * sz + j) := by rw [hsz, Nat.add_mul]; omega
    rw [List.flatMap_cons, e, List.getElem?_append_right (by omega), Nat.add_sub_cancel_left]
    simpa using flat_get enc sz hsz l i (by simpa using h) j hj
theorem flat_length {α : Type} (enc : α → List Value) (sz : Nat) (hsz : ∀ a, (enc a).length = sz) (l : List α) : (l.flatMap enc).length = l.length * sz := by
  induction l with
  | nil => simp
  | cons a l ih => simp only [List.flatMap_cons, List.length_append, hsz, ih, List.length_cons, Nat.add_mul]; omega
/-- A slice that came in can be read, at the start and ever after. -/
theorem Has.rd {W : World} {sz : Nat} {e : Shape} {v : Value} {α : Type} (enc : α → List Value) (hsz : ∀ a, (enc a).length = sz) (h0 : 0 < sz) (h : Has W (.slice sz e) [v]) (hr : ∀ r : List Value, r.length = sz → Has W e r → ∃ a, r = enc a) :
    ∃ l : List α, (∀ H : HProp, Rd W H sz v l.length (l.flatMap enc)) ∧ ∃ ao cap, v = .slice ao l.length cap ∧ l.length ≤ cap ∧ cap ≤ maxLen := by
  obtain ⟨ao, len, cap, rows, hv, hl, hm, hlen, hrows, hc⟩ := h
  cases hv
  obtain ⟨l, rfl⟩ := rows_of enc rows fun r hr' => hr r (hrows r hr').1 (hrows r hr').2
  simp only [List.length_map] at hlen
  subst hlen
  refine ⟨l, fun H => ⟨ao, cap, rfl, flat_length enc sz hsz l, by omega, ?_⟩, ao, cap, rfl, hl, hm⟩
  rcases hc with h | h | ⟨b, o, ha, hc⟩
  · left
    have : l = [] := List.eq_nil_of_length_eq_zero h
    subst this; rfl
  · omega
  · right
    refine ⟨b, o, ha, Cells.base fun k u hk => ?_⟩
    have hkl : k < l.length * sz := by have := (List.getElem?_eq_some_iff.1 hk).1; rwa [flat_length enc sz hsz] at this
    have hi : k / sz < l.length := Nat.div_lt_of_lt_mul (by rw [Nat.mul_comm]; exact hkl)
    have hj : k % sz < sz := Nat.mod_lt _ h0
    have hk2 : k / sz * sz + k % sz = k := by rw [Nat.mul_comm]; exact Nat.div_add_mod k sz
    rw [← hk2, flat_get enc sz hsz l _ hi _ hj] at hk
    have := hc (k / sz) (enc l[k / sz]) (by simp [hi]) (k % sz) u hk
    rw [Nat.add_assoc, hk2] at this
    exact this
end Go.SL
