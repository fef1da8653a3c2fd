/- What is read of a note's text: the note that is told so. Plain. -/
import Derived.Test.YtofgpppnknpblaaGreatDoorNzNote5
import Derived.Test.YtofgpppnknpblaaGreatDoorSL4
namespace Go.Proofs.YtofgpppnknpblaaGreatDoor
open Go Go.SL
set_option linter.unusedSimpArgs false
set_option linter.unusedVariables false
set_option maxRecDepth 10000
set_option maxHeartbeats 1000000
/-- The note that a text tells. -/
def ToldN (s : List UInt8) (n : Nt) : Prop := RightN n ∧ nsOk n ∧ textN n = s
theorem words_inj : ∀ k, k < 17 → ∀ j, j < 17 → 1 ≤ k → wordK k = wordK j → k = j := by decide
theorem words_no : ∀ k, k < 17 → ∀ b ∈ wordK k, b ≠ 32 ∧ ¬ isDig b := by decide
theorem letters_no : ∀ k, k < 17 → ∀ b ∈ hasK k, b ≠ 32 ∧ ¬ isDig b := by decide
/-- The place of a word among the kinds'. -/
def kindOf (w : List UInt8) : Int := match (List.range 17).find? (fun i => decide (wordK i = w) && decide (hasK i ≠ [])) with
  | some i => (i : Nat)
  | none => -1
theorem kindOf_word : ∀ k, k < 17 → 1 ≤ k → kindOf (wordK k) = (k : Nat) := by decide
theorem right_kind {n : Nt} (h : RightN n) : ∃ k : Nat, 1 ≤ k ∧ k < 17 ∧ n.kind = k := by
  have := hasOf_kind h.1
  exact ⟨n.kind.toNat, by omega, by omega, by omega⟩
theorem text_right {n : Nt} (h : RightN n) {k : Nat} (hk : n.kind = k) : textN n = glue 32 (wordK k :: (hasK k).map (tok n)) := by
  unfold textN
  rw [if_pos h, hk, hasOf_nat, join_glue]
  rfl
theorem parts_no {n : Nt} {k : Nat} (hk : k < 17) : ∀ x ∈ wordK k :: (hasK k).map (tok n), (32 : UInt8) ∉ x := by
  intro x hx
  rw [List.mem_cons] at hx
  rcases hx with rfl | hx
  · exact fun h => (words_no k hk 32 h).1 rfl
  · obtain ⟨c, hc, rfl⟩ := List.mem_map.1 hx
    intro h
    rw [List.mem_cons] at h
    rcases h with h | h
    · exact (letters_no k hk c hc).1 h.symm
    · exact dec_no _ (.inl (by decide)) h
theorem cut_textN {n : Nt} (h : RightN n) {k : Nat} (hk : n.kind = k) (h17 : k < 17) : cutAt 32 (textN n) = wordK k :: (hasK k).map (tok n) := by
  rw [text_right h hk]
  exact cut_glue (by simp) (parts_no h17)
theorem right_same {n : Nt} (h : RightN n) {k : Nat} (hk : n.kind = k) (h1 : 1 ≤ k) (h17 : k < 17) : n = sameN n (hasK k) ∧ ∀ c ∈ hasK k, 0 ≤ getL n c := by
  obtain ⟨_, h2, h3⟩ := (right_of hk h1 h17).1 h
  exact ⟨h3, h2⟩
theorem sameN_congr {n m : Nt} {L : List UInt8} (hk : n.kind = m.kind) (h : ∀ c ∈ L, getL n c = getL m c) : sameN n L = sameN m L := by
  have key : ∀ c, (if c ∈ L then getL n c else -1) = (if c ∈ L then getL m c else -1) := fun c => by
    by_cases hc : c ∈ L
    · rw [if_pos hc, if_pos hc, h c hc]
    · rw [if_neg hc, if_neg hc]
  have a := key 103
  have b := key 112
  have c := key 109
  have d := key 120
  have e1 : ∀ x : Nt, getL x 103 = x.g := fun x => rfl
  have e2 : ∀ x : Nt, getL x 112 = x.p := fun x => rfl
  have e3 : ∀ x : Nt, getL x 109 = x.m := fun x => rfl
  have e4 : ∀ x : Nt, getL x 120 = x.x := fun x => rfl
  rw [e1, e1] at a
  rw [e2, e2] at b
  rw [e3, e3] at c
  rw [e4, e4] at d
  unfold sameN
  rw [hk, a, b, c, d]
theorem textN_inj {n m : Nt} (hn : RightN n) (hm : RightN m) (h : textN n = textN m) : n = m := by
  obtain ⟨k, k1, k2, ek⟩ := right_kind hn
  obtain ⟨j, j1, j2, ej⟩ := right_kind hm
  have e : cutAt 32 (textN n) = cutAt 32 (textN m) := by rw [h]
  rw [cut_textN hn ek k2, cut_textN hm ej j2] at e
  obtain ⟨e1, e2⟩ := List.cons.inj e
  obtain rfl := words_inj k k2 j j2 k1 e1
  obtain ⟨s1, p1⟩ := right_same hn ek k1 k2
  obtain ⟨s2, p2⟩ := right_same hm ej j1 j2
  rw [s1, s2]
  refine sameN_congr (ek.trans ej.symm) fun c hc => ?_
  have e3 := (List.map_inj_left.1 e2) c hc
  have e4 := dec_inj _ _ (List.cons.inj e3).2
  have := p1 c hc
  have := p2 c hc
  omega
theorem toldN_one {s : List UInt8} {n m : Nt} (hn : ToldN s n) (hm : ToldN s m) : n = m := textN_inj hn.1 hm.1 (hn.2.2.trans hm.2.2.symm)
open Classical in
noncomputable def readN (s : List UInt8) : Option Nt := if h : ∃ n, ToldN s n then some h.choose else none
theorem readN_some {s : List UInt8} {n : Nt} (h : ToldN s n) : readN s = some n := by
  unfold readN
  rw [dif_pos ⟨n, h⟩]
  exact congrArg some (toldN_one (Exists.choose_spec (⟨n, h⟩ : ∃ n, ToldN s n)) h)
theorem readN_none {s : List UInt8} (h : ∀ n, ¬ ToldN s n) : readN s = none := by
  unfold readN
  rw [dif_neg fun ⟨n, hn⟩ => h n hn]
theorem readN_told {s : List UInt8} {n : Nt} (h : readN s = some n) : ToldN s n := by
  by_cases hx : ∃ n, ToldN s n
  · obtain ⟨m, hm⟩ := hx
    rw [readN_some hm] at h
    cases h
    exact hm
  · rw [readN_none fun n hn => hx ⟨n, hn⟩] at h; cases h
/-- A piece's number. -/
def okN (x : List UInt8) : Bool := atoiOk (x.drop 1)
def valN (x : List UInt8) : Int := atoiV (x.drop 1)
theorem tok_ok {n : Nt} (hn : nsOk n) {c : UInt8} (h0 : 0 ≤ getL n c) : okN (tok n c) = true ∧ valN (tok n c) = getL n c := by
  have h := hn c
  have e : (tok n c).drop 1 = dg (getL n c).toNat := rfl
  unfold okN valN
  rw [e]
  refine ⟨atoiOk_dec (by omega), ?_⟩
  rw [atoiV_dec (by omega)]
  omega
theorem fill_same {n : Nt} {k : Int} (hk : n.kind = k) {L : List UInt8} (hL : ∀ c ∈ L, isL c) : ∀ j, j ≤ L.length → fillJ k L (L.map (getL n)) j = sameN n (L.take j)
  | 0, _ => by
    subst hk
    unfold fillJ
    rw [List.take_zero, List.take_zero, sameN_nil]; rfl
  | j + 1, h => by
    rw [fill_next (by omega) (by rw [List.length_map]; omega), fill_same hk hL j (by omega), List.getElem_map, sameN_push (hL _ (List.getElem_mem _)), take_push (by omega)]
theorem isL_of {k : Nat} (h : k < 17) : ∀ c ∈ hasK k, isL c := has_letters k h
theorem new_told {s : List UInt8} {n : Nt} (h : ToldN s n) {k : Nat} (hk : n.kind = k) (h1 : 1 ≤ k) (h17 : k < 17) : newN k ((hasK k).map (getL n)) = (n, 0) := by
  obtain ⟨hs, _⟩ := right_same h.1 hk h1 h17
  have e : fillN (k : Int) ((hasK k).map (getL n)) = n := by
    unfold fillN
    rw [hasOf_nat, fill_same hk (isL_of h17) _ (Nat.le_refl _), List.take_length]
    exact hs.symm
  rw [new_yes (by rw [hasOf_nat, List.length_map]) (by rw [e]; exact h.1), e]
theorem set_ok {n : Nt} {c : UInt8} {v : Int} (hn : nsOk n) (hv : v < 9223372036854775808) : nsOk (setL n c v) := by
  have a : n.g < 9223372036854775808 := hn 103
  have b : n.p < 9223372036854775808 := hn 112
  have d : n.m < 9223372036854775808 := hn 109
  have e : n.x < 9223372036854775808 := hn 120
  intro c'
  unfold setL getL
  split
  all_goals (split <;> first | (simp only; omega) | skip)
  all_goals (split <;> first | (simp only; omega) | skip)
  all_goals (split <;> first | (simp only; omega) | skip)
  all_goals (split <;> first | (simp only; omega) | skip)
  all_goals (split <;> first | (simp only; omega) | skip)
theorem fold_ok : ∀ (l : List (UInt8 × Int)) (n : Nt), nsOk n → (∀ x ∈ l, x.2 < 9223372036854775808) → nsOk (l.foldl (fun n x => setL n x.1 x.2) n)
  | [], n, hn, _ => hn
  | x :: l, n, hn, h => fold_ok l _ (set_ok hn (h x List.mem_cons_self)) fun y hy => h y (List.mem_cons_of_mem _ hy)
theorem new_ok {k : Int} {l : List Int} (h : ∀ x ∈ l, x < 9223372036854775808) : nsOk (newN k l).1 := by
  unfold newN
  split
  · show nsOk (fillN k l)
    unfold fillN fillJ
    refine fold_ok _ _ ?_ fun x hx => h _ (List.of_mem_zip (List.mem_of_mem_take hx)).2
    intro c
    unfold getL
    split
    · simp
    split
    · simp
    split <;> simp
  · intro c
    unfold getL
    split
    · simp
    split
    · simp
    split <;> simp
theorem new_right {k : Int} {l : List Int} {n : Nt} (h : newN k l = (n, 0)) : RightN n := by
  unfold newN at h
  split at h
  · rename_i hc
    cases h
    exact hc.2
  · cases h
theorem new_cases (k : Int) (l : List Int) : (newN k l).2 = 0 ∨ (newN k l).2 = 260 := by
  unfold newN
  split
  · exact .inl rfl
  · exact .inr rfl
/-- The program's way. -/
theorem read_bad {s : List UInt8} {x : List UInt8} (hx : x ∈ (cutAt 32 s).drop 1) (h : okN x = false) : readN s = none := by
  refine readN_none fun n hn => ?_
  obtain ⟨k, k1, k2, ek⟩ := right_kind hn.1
  have e := cut_textN hn.1 ek k2
  rw [hn.2.2] at e
  rw [e] at hx
  obtain ⟨c, hc, rfl⟩ := List.mem_map.1 (show x ∈ (hasK k).map (tok n) from hx)
  have h0 := (right_same hn.1 ek k1 k2).2 c hc
  rw [(tok_ok hn.2.1 h0).1] at h
  cases h
theorem told_new {s : List UInt8} {n : Nt} (h : ToldN s n) : newN (kindOf ((cutAt 32 s).headD [])) (((cutAt 32 s).drop 1).map valN) = (n, 0) := by
  obtain ⟨k, k1, k2, ek⟩ := right_kind h.1
  have e := cut_textN h.1 ek k2
  rw [h.2.2] at e
  rw [e]
  show newN (kindOf (wordK k)) (((hasK k).map (tok n)).map valN) = _
  rw [kindOf_word k k2 k1, List.map_map]
  have e2 : (hasK k).map (valN ∘ tok n) = (hasK k).map (getL n) := List.map_congr_left fun c hc => (tok_ok h.2.1 ((right_same h.1 ek k1 k2).2 c hc)).2
  rw [e2]
  exact new_told h ek k1 k2
theorem vals_top (l : List (List UInt8)) : ∀ x ∈ l.map valN, x < 9223372036854775808 := by
  intro x hx
  obtain ⟨y, _, rfl⟩ := List.mem_map.1 hx
  exact atoiV_top _
theorem read_new_no {s : List UInt8} (h : (newN (kindOf ((cutAt 32 s).headD [])) (((cutAt 32 s).drop 1).map valN)).2 = 260) : readN s = none := by
  refine readN_none fun n hn => ?_
  rw [told_new hn] at h
  cases h
theorem read_new_yes {s : List UInt8} {n : Nt} (h : newN (kindOf ((cutAt 32 s).headD [])) (((cutAt 32 s).drop 1).map valN) = (n, 0)) : readN s = if textN n = s then some n else none := by
  by_cases ht : textN n = s
  · rw [if_pos ht]
    have hok := new_ok (k := kindOf ((cutAt 32 s).headD [])) (vals_top ((cutAt 32 s).drop 1))
    rw [h] at hok
    exact readN_some ⟨new_right h, hok, ht⟩
  · rw [if_neg ht]
    refine readN_none fun m hm => ?_
    rw [told_new hm] at h
    cases h
    exact ht hm.2.2
/-- The document's way. -/
theorem runs_flat {n : Nt} (hn : nsOk n) : ∀ (L : List UInt8), (∀ c ∈ L, ¬ isDig c ∧ 0 ≤ getL n c) → runsU (L.flatMap fun c => 32 :: c :: dg (getL n c).toNat) false 0 = L.map (getL n)
  | [], _ => rfl
  | c :: L, h => by
    have ih := runs_flat hn L fun x hx => h x (List.mem_cons_of_mem _ hx)
    obtain ⟨hc, h0⟩ := h c List.mem_cons_self
    have hlt := hn c
    rw [List.flatMap_cons]
    show runsU (32 :: c :: (dg (getL n c).toNat ++ _)) false 0 = _
    rw [runsU_no (by decide), runsU_no hc]
    simp only [Bool.false_eq_true, if_false, List.nil_append]
    rw [runsU_dec _ (by omega)]
    have hv : ((getL n c).toNat : Int) = getL n c := by omega
    rw [hv, List.map_cons, ← ih]
    cases L with
    | nil =>
      simp only [List.flatMap_nil, runsU, if_true, Bool.false_eq_true, if_false]
      rw [toI_small h0 hlt]
    | cons d L =>
      rw [List.flatMap_cons]
      show runsU (32 :: _) true _ = _ :: runsU (32 :: _) false 0
      rw [runsU_no (by decide), runsU_no (by decide)]
      simp only [if_true, Bool.false_eq_true, if_false, List.nil_append, toI_small h0 hlt]
      rfl
theorem runs_told {s : List UInt8} {n : Nt} (h : ToldN s n) {k : Nat} (hk : n.kind = k) (h1 : 1 ≤ k) (h17 : k < 17) : runsU s false 0 = (hasK k).map (getL n) := by
  have e : s = outN n (wordK k) (hasK k) := by
    rw [← h.2.2, ← outN_join]
    unfold textN
    rw [if_pos h.1, hk, hasOf_nat]
    rfl
  rw [e]
  unfold outN
  rw [runsU_skip fun b hb => (words_no k h17 b hb).2]
  exact runs_flat h.2.1 _ fun c hc => ⟨(letters_no k h17 c hc).2, (right_same h.1 hk h1 h17).2 c hc⟩
theorem ref_yes {s : List UInt8} {k : Int} {n : Nt} (h : newN k (runsU s false 0) = (n, 0)) (ht : textN n = s) : readN s = some n := by
  have hok := new_ok (k := k) (runsU_top s false 0)
  rw [h] at hok
  exact readN_some ⟨new_right h, hok, ht⟩
theorem ref_no {s : List UInt8} (h : ∀ k : Nat, 1 ≤ k → k < 17 → ∀ n, newN k (runsU s false 0) = (n, 0) → textN n ≠ s) : readN s = none := by
  refine readN_none fun n hn => ?_
  obtain ⟨k, k1, k2, ek⟩ := right_kind hn.1
  refine h k k1 k2 n ?_ hn.2.2
  rw [runs_told hn ek k1 k2]
  exact new_told hn ek k1 k2
theorem told_len {s : List UInt8} {n : Nt} (h : ToldN s n) : s.length ≤ 120 := by
  obtain ⟨k, k1, k2, ek⟩ := right_kind h.1
  have e : s = outN n (wordK k) (hasK k) := by
    rw [← h.2.2, ← outN_join]
    unfold textN
    rw [if_pos h.1, ek, hasOf_nat]
    rfl
  have h2 := outN_len h.2.1 (wordK k) (hasK k)
  have h3 := word_len k k2
  have h4 := has_len k k2
  rw [e]
  omega
theorem textN_len {n : Nt} (hn : nsOk n) : (textN n).length ≤ 120 := by
  by_cases h : RightN n
  · exact told_len ⟨h, hn, rfl⟩
  · unfold textN; rw [if_neg h]; simp
end Go.Proofs.YtofgpppnknpblaaGreatDoor
