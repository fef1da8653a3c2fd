/- The document's semaphores: what is done. No condition. -/
import Derived.Test.YtgdeemneijpeeaaSmRef16
import Derived.Test.YtgdeemneijpeeaaSLRet4
namespace Go.Proofs.Ytgdeemneijpeeaa
open Go Go.SL
set_option linter.unusedSimpArgs false
set_option linter.unusedVariables false
set_option maxRecDepth 10000
set_option maxHeartbeats 2000000
theorem cellsP_app (a b : List PairT) : cellsP (a ++ b) = cellsP a ++ cellsP b := by
  induction a with
  | nil => rfl
  | cons r a ih => simp only [List.cons_append, cellsP, ih, List.append_assoc]
theorem cellsP_one : ∀ (T : List PairT), (cellsP T).all Value.oneCell' = true
  | [] => rfl
  | t :: T => by
    simp only [cellsP, List.all_append, cellsP_one T, Bool.and_true]
    rfl
theorem cellsP_set {T : List PairT} {i : Nat} {t : PairT} (h : i < T.length) (sp : List Value) :
    ((cellsP T ++ sp).take (i * 2) ++ cellP t) ++ (cellsP T ++ sp).drop (i * 2 + 2) = cellsP (T.set i t) ++ sp := by
  have e : T = T.take i ++ T[i] :: T.drop (i + 1) := by rw [← List.drop_eq_getElem_cons h, List.take_append_drop]
  have hl : (cellsP (T.take i)).length = i * 2 := by rw [cellsP_len, List.length_take]; omega
  have e2 : T.set i t = T.take i ++ t :: T.drop (i + 1) := by rw [List.set_eq_take_append_cons_drop, if_pos h]
  have e3 : cellsP T = cellsP (T.take i) ++ (cellP T[i] ++ cellsP (T.drop (i + 1))) := by
    conv => lhs; rw [e]
    rw [cellsP_app]; rfl
  have h2 : (cellP T[i]).length = 2 := rfl
  rw [e2, cellsP_app, e3]
  simp only [cellsP, List.append_assoc]
  rw [List.take_append_of_le_length (by omega), List.take_of_length_le (by omega)]
  congr 2
  rw [← hl, List.drop_append]
  have : cellP T[i] ++ (cellsP (T.drop (i + 1)) ++ sp) = cellP T[i] ++ (cellsP (T.drop (i + 1)) ++ sp) := rfl
  simp [cellP]
attribute [local irreducible] WP WPL QSeq QBlk QRet Does Cell Cells Rd Mine Ent Aside RV Yield
section
variable {B : World} {F H G : HProp} {S : SemS} {g k c : Int} {r : Value} {b n : Nat}
theorem with16 {ao : Option Addr} {cap : Nat} {l : List Int} (hr : RefS B G r S) (hE : Ent H G) (hk : n < S.length) (hS : S.length ≤ 1000000) (hc : l.length ≤ cap) (hl : Rd B G 1 (.slice ao l.length cap) l.length (zs l)) :
    Does Try.prog B 43 [r, .int .i64 n, .agg [.int .i64 c, .slice ao l.length cap].toArray] H fun v H' => ∃ X, H' = X + H ∧ RefS B (X + G) v (S.set n (l, c)) := by
  obtain ⟨T, ao1, cap1, hT, rfl, hcap, hrd, hrow⟩ := hr
  have hTl : T.length = S.length := by rw [← hT, List.length_map]
  have hrd' := hrd.ent hE
  refine fn_intro 16 Try.func43 rfl rfl rfl ?_
  refine walk ?_
  refine s_box (cs := [.int .i64 c, .slice ao l.length cap]) rfl rfl rfl ?_
  intro b1
  refine walk ?_
  refine WPL.ent (Ent.ac (show _ = Mine 73 2 (.slice none 0 0) 0 [] + _ by rw [Mine.nil, HProp.emp_add])) ?_
  refine s_append (v := .slice none 0 0) rfl rfl (hrd'.ent InH.ent) (cellsP_one T) rfl ?_ rfl ?_
  · simp only [maxLen]; omega
  intro v2
  simp only [Nat.zero_add, List.nil_append]
  refine walk ?_
  refine WPL.shape ?_
  rintro ao2 cap2 rfl _ hc2 hm2
  refine WPL.open (by omega) ?_
  rintro g2 sp rfl hsp
  refine walk ?_
  refine s_storeA (vs := [.int .i64 c, .slice ao l.length cap]) (cs' := cellsP (T.set n ((l, c), (ao, cap))) ++ sp) rfl rfl rfl rfl ?_ ?_ ?_
  · simp only [List.length_append, cellsP_len, List.length_cons, List.length_nil]; omega
  · rw [Nat.zero_add]; exact cellsP_set (t := ((l, c), (ao, cap))) (by omega) sp
  refine walk ?_
  (first | refine ret1 (v := .slice _ _ _) (.inr rfl) rfl rfl ?_ | refine ret1  (.inr rfl) rfl rfl ?_ | refine ret1 (v := .slice _ _ _) (.inl rfl) rfl rfl ?_ | refine ret1  (.inl rfl) rfl rfl ?_)
  refine ⟨blk g2 (cellsP (T.set n ((l, c), (ao, cap))) ++ sp) 73 + blk b1 [.int .i64 c, .slice ao l.length cap] 73, by rw [HProp.add_assoc], T.set n ((l, c), (ao, cap)), _, cap2, by rw [List.map_set, hT], by rw [List.length_set], by rw [List.length_set]; exact hc2, ?_, ?_⟩
  · rw [List.length_set, HProp.add_assoc]
    exact Rd.blkPre (by rw [cellsP_len, List.length_set, hTl]) (by simp only [maxLen]; omega)
  · intro t ht
    rcases List.mem_or_eq_of_mem_set ht with h | rfl
    · exact ⟨(hrow t h).1, (hrow t h).2.ent (Ent.drop_left _ _)⟩
    · exact ⟨hc, hl.ent (Ent.drop_left _ _)⟩
theorem zeros_cells (i j : Nat) (c : Int) : cellsP (List.replicate i (([], c), (none, 0)) ++ List.replicate (j + 1) (([], 0), (none, 0))) =
    cellsP (List.replicate i (([], c), (none, 0))) ++ .int .i64 0 :: .slice none 0 0 :: cellsP (List.replicate j (([], 0), (none, 0))) := by
  rw [cellsP_app, List.replicate_succ]; rfl
theorem new16 {m : Nat} (h : m ≤ 1000000) : Does Try.prog B 17 [.int .i64 m, .int .i64 c] H fun v H' => ∃ X, H' = X + H ∧ RefS B X v (newS m c) := by
  refine fn_intro 20 Try.func17 rfl rfl rfl ?_
  refine walk ?_
  refine s_makeSlice (k := m) (c := m) rfl rfl (Nat.le_refl _) (by simp only [maxLen]; omega) rfl ?_
  intro b
  have e0 : (List.replicate m [Value.int .i64 0, .slice none 0 0]).flatten = cellsP (List.replicate 0 (([], c), (none, 0)) ++ List.replicate (m - 0) (([], 0), (none, 0))) := by
    simp only [List.replicate_zero, List.nil_append, Nat.sub_zero]
    clear h
    induction m with
    | zero => rfl
    | succ m ih => rw [List.replicate_succ, List.replicate_succ, List.flatten_cons, ih]; rfl
  refine walk ?_
  refine wp_loopF (α := Nat) [6, 9, 10, 11, 12, 13, 14, 15, 16, 17, 18] (fun i => [(6, .int .i64 (i : Nat))]) (fun i => blk b (cellsP (List.replicate i (([], c), (none, 0)) ++ List.replicate (m - i) (([], 0), (none, 0)))) 73 + H) (fun i => i ≤ m) (fun i => m - i) 0 agreed (Ent.ac (by rw [← e0])) (Nat.zero_le _) ?_
  rintro i f hi
  simp only [putAll]
  by_cases hlt : i < m
  · have el : (cellsP (List.replicate i (([], c), (none, 0)))).length = i * 2 := by rw [cellsP_len, List.length_replicate]
    refine walk ?_
    refine s_store (v := .int .i64 c) (cs' := cellsP (List.replicate (i + 1) (([], c), (none, 0)) ++ List.replicate (m - (i + 1)) (([], 0), (none, 0)))) rfl rfl rfl ?_ ?_ ?_
    · simp only [cellsP_len, List.length_append, List.length_replicate]; omega
    · rw [show m - i = (m - (i + 1)) + 1 by omega, zeros_cells, List.set_append_right _ _ (by omega), List.replicate_succ', cellsP_app, cellsP_app, List.append_assoc]
      rw [show 0 + i * 2 + 0 - (cellsP (List.replicate i (([], c), (none, 0)))).length = 0 by omega]
      rfl
    refine walk ?_
    exact ⟨i + 1, asided, agreed, Ent.refl _, hlt, by omega⟩
  · obtain rfl : i = m := by omega
    rw [Nat.sub_self, List.replicate_zero, List.append_nil]
    refine walk ?_
    (first | refine ret1 (v := .slice _ _ _) (.inr rfl) rfl rfl ?_ | refine ret1  (.inr rfl) rfl rfl ?_ | refine ret1 (v := .slice _ _ _) (.inl rfl) rfl rfl ?_ | refine ret1  (.inl rfl) rfl rfl ?_)
    refine ⟨blk b (cellsP (List.replicate i (([], c), (none, 0)))) 73, rfl, List.replicate i (([], c), (none, 0)), some ⟨b, 0, none⟩, i, by simp [newS], by simp [newS], by simp [newS], ?_, ?_⟩
    · simp only [newS, List.length_replicate]
      exact Rd.blk0 (by rw [cellsP_len, List.length_replicate]) (by simp only [maxLen]; omega)
    · intro t ht
      rw [(List.mem_replicate.1 ht).2]
      exact ⟨Nat.le_refl _, Rd.nil⟩
/-- Not too many, nor too long; the counts are such as may be. -/
structure SOk (S : SemS) (b : Nat) : Prop where
  n : S.length ≤ 16
  r : ∀ (i : Nat) l c, S[i]? = some (l, c) → l.length ≤ b ∧ 0 ≤ c ∧ c ≤ 1073741824
theorem RefS.emp (h : RefS B G r S) : RefS B (emp + G) r S := h.ent (Ent.of_eq (HProp.emp_add _))
theorem acquire16 (hr : RefS B G r S) (hE : Ent H G) (hS : SOk S b) (hb : b ≤ 999999) : Does Try.prog B 33 [r, .int .i64 k, .int .i64 g] H fun v H' =>
    ∃ X u, H' = X + H ∧ v = .tuple #[u, .bool (acqS S k g).2.1, .int .i64 (acqS S k g).2.2] ∧ RefS B (X + G) u (acqS S k g).1 := by
  have hn := hS.n
  have hr0 := hr
  have hrH := hr.ent hE
  obtain ⟨T, ao, cap, hT, rfl, hcap, hrd, hrow⟩ := hr
  have hTl : T.length = S.length := by rw [← hT, List.length_map]
  have hrd' := hrd
  unfold Rd at hrd'
  obtain ⟨_, _, e_, hl, hm, ha⟩ := hrd'
  cases e_
  refine fn_intro 62 Try.func33 rfl rfl rfl ?_
  by_cases h0 : k < 0
  · have e : acqS S k g = (S, false, 2) := by unfold acqS; rw [if_pos (by omega)]
    rw [e]
    refine walk ?_
    (first | refine ret3 (v := .slice _ _ _) (x := .bool _) (y := .int _ _) (.inr rfl) rfl rfl rfl rfl ?_ | refine ret3  (.inr rfl) rfl rfl rfl rfl ?_ | refine ret3 (v := .slice _ _ _) (x := .bool _) (y := .int _ _) (.inl rfl) rfl rfl rfl rfl ?_ | refine ret3  (.inl rfl) rfl rfl rfl rfl ?_)
    exact ⟨emp, _, (HProp.emp_add _).symm, rfl, hr0.emp⟩
  · obtain ⟨n, rfl⟩ := Int.eq_ofNat_of_zero_le (show 0 ≤ k by omega)
    by_cases hk : n < S.length
    · obtain ⟨l, c, hs⟩ : ∃ l c, S[n]? = some (l, c) := ⟨_, _, List.getElem?_eq_getElem hk⟩
      obtain ⟨hlb, hc0, hc1⟩ := hS.r n l c hs
      obtain ⟨t, ht⟩ : ∃ t, T[n]? = some t := ⟨_, List.getElem?_eq_getElem (by omega)⟩
      have ht1 : t.1 = (l, c) := by
        have : S[n]? = some t.1 := by rw [← hT, List.getElem?_map, ht]; rfl
        rw [hs] at this; exact (Option.some.inj this).symm
      obtain ⟨⟨l', c'⟩, lo, lc⟩ := t
      cases ht1
      obtain ⟨hlc, hlrd⟩ := hrow _ (List.mem_of_getElem? ht)
      simp only at hlc hlrd
      obtain ⟨bl, ol, rfl, hcl⟩ : ∃ b o, ao = some ⟨b, o, none⟩ ∧ Cells B G b o (cellsP T) := by
        rcases ha with h | h
        · rw [h] at hl; simp at hl; omega
        · exact h
      have hclH := hcl.ent hE
      have hc1' : Cell B H bl (ol + n * 2 + 1) (.slice lo l.length lc) := hclH.cell (j := n * 2 + 1) (cellsP_at T n _ ht).2
      have hc0' : Cell B H bl (ol + n * 2 + 0) (.int .i64 c) := hclH.cell (j := n * 2) (cellsP_at T n _ ht).1
      have hc00 : Cell B H bl (ol + n * 2) (.int .i64 c) := hc0'
      refine walk ?_
      refine s_call rfl (where16 (g := g) hrH (by omega)) rfl ?_
      rintro _ _ ⟨e_, rfl⟩
      obtain rfl := e_.symm
      refine walk ?_
      cases hw : whereOf S g with
      | some i =>
        have e : acqS S (n : Int) g = (S, false, 140) := by unfold acqS; rw [if_neg (by omega), hw]; rfl
        rw [e]
        simp only
        refine walk ?_
        (first | refine ret3 (v := .slice _ _ _) (x := .bool _) (y := .int _ _) (.inr rfl) rfl rfl rfl rfl ?_ | refine ret3  (.inr rfl) rfl rfl rfl rfl ?_ | refine ret3 (v := .slice _ _ _) (x := .bool _) (y := .int _ _) (.inl rfl) rfl rfl rfl rfl ?_ | refine ret3  (.inl rfl) rfl rfl rfl rfl ?_)
        exact ⟨emp, _, (HProp.emp_add _).symm, rfl, hr0.emp⟩
      | none =>
        simp only
        by_cases hc : 0 < c
        · have e : acqS S (n : Int) g = (S.set n (l, c - 1), true, 0) := by
            unfold acqS countS; rw [if_neg (by omega), hw, Int.toNat_natCast, hs]; simp only [Option.isSome_none, Bool.false_eq_true, if_false, if_pos hc]; rw [modify_at hs]
          rw [e]
          refine walk ?_
          (refine wp_draw [14] (.look 0 (.look 1 (.look 2 (.look 3 (.look 4 (.look 5 (.look 6 (.look 7 (.look 8 (.look 9 (.look 10 (.look 11 (.look 12 (.look 13 (.act 14 (.look 15 (.look 16 (.look 17 .nil))) .stop))))))))))))))) (by kernel_rfl) ?_; (apply dw_pure; (· exact rfl); (· exact rfl); (· (intro G; exact looked))); (apply dw_pure; (· exact rfl); (· exact rfl); (· (intro G; exact looked))); (apply dw_pure; (· exact rfl); (· exact rfl); (· (intro G; exact looked))); (apply dw_pure; (· exact rfl); (· exact rfl); (· (intro G; exact looked))); (apply dw_pure; (· exact rfl); (· exact rfl); (· (intro G; exact looked))); (apply dw_pure; (· exact rfl); (· exact rfl); (· (intro G; exact looked))); (apply dw_look; (· exact rfl); (· exact rfl); (· (exact looked))); (apply dw_pure; (· exact rfl); (· exact rfl); (· (intro G; exact looked))); (apply dw_pure; (· exact rfl); (· exact rfl); (· (intro G; exact looked))); (apply dw_pure; (· exact rfl); (· exact rfl); (· (intro G; exact looked))); (apply dw_pure; (· exact rfl); (· exact rfl); (· (intro G; exact looked))); (apply dw_pure; (· exact rfl); (· exact rfl); (· (intro G; exact looked))); (apply dw_look; (· exact rfl); (· exact rfl); (· (exact looked))); (apply dw_pure; (· exact rfl); (· exact rfl); (· (intro G; (refine s_build (cs := [.int .i64 (c - 1), .slice lo l.length lc]) ?_ rfl ?_; (· kernel_rfl)); exact looked))); skip)
          refine dw_do rfl rfl ?_ dw_stop
          refine s_call rfl (with16 (n := n) (l := l) (c := c - 1) hr0 hE hk (by omega) hlc hlrd) rfl ?_
          rintro u _ ⟨X, rfl, hX⟩
          refine wpl_nil (qone ⟨(by refine st_past (by kernel_rfl) ?_; refine st_past (by kernel_rfl) ?_; exact st_nil), ?_⟩)
          ((apply dw_pure; (· exact rfl); (· exact rfl); (· (intro G; exact looked))); (apply dw_pure; (· exact rfl); (· exact rfl); (· (intro G; exact looked))); (apply dw_pure; (· exact rfl); (· exact rfl); (· (intro G; exact looked))); refine dw_nil ?_; skip)
          refine walk ?_
          (first | refine ret3 (v := .slice _ _ _) (x := .bool _) (y := .int _ _) (.inr rfl) rfl rfl rfl rfl ?_ | refine ret3  (.inr rfl) rfl rfl rfl rfl ?_ | refine ret3 (v := .slice _ _ _) (x := .bool _) (y := .int _ _) (.inl rfl) rfl rfl rfl rfl ?_ | refine ret3  (.inl rfl) rfl rfl rfl rfl ?_)
          exact ⟨X, _, rfl, rfl, hX⟩
        · obtain rfl : c = 0 := by omega
          have hgl : g ∉ l := fun hg => where_none.1 hw n ⟨l, 0, hs, hg⟩
          have e : acqS S (n : Int) g = (S.set n (l ++ [g], 0), false, 0) := by
            unfold acqS pushS; rw [if_neg (by omega), hw, Int.toNat_natCast, hs]; simp only [Option.isSome_none, Bool.false_eq_true, if_false, if_neg hc]; rw [modify_at hs]
          rw [e]
          refine walk ?_
          refine s_buildInts (cs := [.int .i64 g]) rfl rfl rfl rfl rfl ?_
          intro bb
          refine s_call rfl (push14 (L := l) (g := g) (hlrd.ent ((Ent.drop_left _ _).trans hE)) (Rd.blk0 rfl (by simp [maxLen])) (Nat.le_refl _) hgl (by omega)) rfl ?_
          rintro _ _ ⟨u, rfl, rfl⟩
          refine WPL.shape ?_
          rintro ao2 cap2 rfl _ hc2 hm2
          refine WPL.rd fun rd2 => ?_
          refine walk ?_
          (refine s_build (cs := [.int .i64 0, .slice ao2 (l ++ [g]).length cap2]) ?_ rfl ?_; (· kernel_rfl))
          refine s_call rfl (with16 (n := n) (l := l ++ [g]) (c := 0) (G := Mine 3 1 (.slice ao2 (l ++ [g]).length cap2) (l ++ [g]).length (zs (l ++ [g])) + G) (hr0.ent (Ent.drop_left _ _)) ((Ent.refl _).add ((Ent.drop_left _ _).trans hE)) hk (by omega) hc2 (rd2.ent (Ent.drop_right _ _))) rfl ?_
          rintro v _ ⟨X, rfl, hX⟩
          refine walk ?_
          (first | refine ret3 (v := .slice _ _ _) (x := .bool _) (y := .int _ _) (.inr rfl) rfl rfl rfl rfl ?_ | refine ret3  (.inr rfl) rfl rfl rfl rfl ?_ | refine ret3 (v := .slice _ _ _) (x := .bool _) (y := .int _ _) (.inl rfl) rfl rfl rfl rfl ?_ | refine ret3  (.inl rfl) rfl rfl rfl rfl ?_)
          exact ⟨X + (Mine 3 1 (.slice ao2 (l ++ [g]).length cap2) (l ++ [g]).length (zs (l ++ [g])) + blk bb [.int .i64 g] 3), _, by simp only [HProp.add_assoc], rfl, hX.ent Ent.auto⟩
    · have e : acqS S (n : Int) g = (S, false, 2) := by unfold acqS; rw [if_pos (by omega)]
      rw [e]
      refine walk ?_
      (first | refine ret3 (v := .slice _ _ _) (x := .bool _) (y := .int _ _) (.inr rfl) rfl rfl rfl rfl ?_ | refine ret3  (.inr rfl) rfl rfl rfl rfl ?_ | refine ret3 (v := .slice _ _ _) (x := .bool _) (y := .int _ _) (.inl rfl) rfl rfl rfl rfl ?_ | refine ret3  (.inl rfl) rfl rfl rfl rfl ?_)
      exact ⟨emp, _, (HProp.emp_add _).symm, rfl, hr0.emp⟩
theorem release16 (hr : RefS B G r S) (hE : Ent H G) (hS : SOk S b) (hb : b ≤ 999999) : Does Try.prog B 34 [r, .int .i64 k] H fun v H' =>
    ∃ X u, H' = X + H ∧ v = .tuple #[u, .int .i64 (relS S k).2.1, .bool (relS S k).2.2.1, .int .i64 (relS S k).2.2.2] ∧ RefS B (X + G) u (relS S k).1 := by
  have hn := hS.n
  have hr0 := hr
  obtain ⟨T, ao, cap, hT, rfl, hcap, hrd, hrow⟩ := hr
  have hTl : T.length = S.length := by rw [← hT, List.length_map]
  have hrd' := hrd
  unfold Rd at hrd'
  obtain ⟨_, _, e_, hl, hm, ha⟩ := hrd'
  cases e_
  refine fn_intro 63 Try.func34 rfl rfl rfl ?_
  by_cases h0 : k < 0
  · have e : relS S k = (S, 0, false, 2) := by unfold relS; rw [if_pos (by omega)]
    rw [e]
    refine walk ?_
    (first | refine ret4 (v := .slice _ _ _) (x := .int _ _) (y := .bool _) (z := .int _ _) (.inr rfl) rfl rfl rfl rfl rfl ?_ | refine ret4  (.inr rfl) rfl rfl rfl rfl rfl ?_ | refine ret4 (v := .slice _ _ _) (x := .int _ _) (y := .bool _) (z := .int _ _) (.inl rfl) rfl rfl rfl rfl rfl ?_ | refine ret4  (.inl rfl) rfl rfl rfl rfl rfl ?_)
    exact ⟨emp, _, (HProp.emp_add _).symm, rfl, hr0.emp⟩
  · obtain ⟨n, rfl⟩ := Int.eq_ofNat_of_zero_le (show 0 ≤ k by omega)
    by_cases hk : n < S.length
    · obtain ⟨l, c, hs⟩ : ∃ l c, S[n]? = some (l, c) := ⟨_, _, List.getElem?_eq_getElem hk⟩
      obtain ⟨hlb, hc0, hc1⟩ := hS.r n l c hs
      obtain ⟨t, ht⟩ : ∃ t, T[n]? = some t := ⟨_, List.getElem?_eq_getElem (by omega)⟩
      have ht1 : t.1 = (l, c) := by
        have : S[n]? = some t.1 := by rw [← hT, List.getElem?_map, ht]; rfl
        rw [hs] at this; exact (Option.some.inj this).symm
      obtain ⟨⟨l', c'⟩, lo, lc⟩ := t
      cases ht1
      obtain ⟨hlc, hlrd⟩ := hrow _ (List.mem_of_getElem? ht)
      simp only at hlc hlrd
      obtain ⟨bl, ol, rfl, hcl⟩ : ∃ b o, ao = some ⟨b, o, none⟩ ∧ Cells B G b o (cellsP T) := by
        rcases ha with h | h
        · rw [h] at hl; simp at hl; omega
        · exact h
      have hclH := hcl.ent hE
      have hc1' : Cell B H bl (ol + n * 2 + 1) (.slice lo l.length lc) := hclH.cell (j := n * 2 + 1) (cellsP_at T n _ ht).2
      have hc0' : Cell B H bl (ol + n * 2 + 0) (.int .i64 c) := hclH.cell (j := n * 2) (cellsP_at T n _ ht).1
      have hc00 : Cell B H bl (ol + n * 2) (.int .i64 c) := hc0'
      cases l with
      | nil =>
        simp only [List.length_nil] at hc1' hlc hlrd
        by_cases hc : c = 1073741824
        · have e : relS S (n : Int) = (S, 0, false, 3) := by
            unfold relS; rw [if_neg (by omega), Int.toNat_natCast, hs]; simp only [if_pos hc]
          rw [e]
          refine walk ?_
          (first | refine ret4 (v := .slice _ _ _) (x := .int _ _) (y := .bool _) (z := .int _ _) (.inr rfl) rfl rfl rfl rfl rfl ?_ | refine ret4  (.inr rfl) rfl rfl rfl rfl rfl ?_ | refine ret4 (v := .slice _ _ _) (x := .int _ _) (y := .bool _) (z := .int _ _) (.inl rfl) rfl rfl rfl rfl rfl ?_ | refine ret4  (.inl rfl) rfl rfl rfl rfl rfl ?_)
          exact ⟨emp, _, (HProp.emp_add _).symm, rfl, hr0.emp⟩
        · have e : relS S (n : Int) = (S.set n ([], c + 1), 0, false, 0) := by
            unfold relS countS; rw [if_neg (by omega), Int.toNat_natCast, hs]; simp only [if_neg hc]; rw [modify_at hs]
          rw [e]
          refine walk ?_
          (refine s_build (cs := [.int .i64 (c + 1), .slice none 0 0]) ?_ rfl ?_; (· kernel_rfl))
          refine s_call rfl (with16 (n := n) (l := []) (cap := 0) (ao := none) (c := c + 1) hr0 hE hk (by omega) (Nat.le_refl _) Rd.nil) rfl ?_
          rintro u _ ⟨X, rfl, hX⟩
          refine walk ?_
          (first | refine ret4 (v := .slice _ _ _) (x := .int _ _) (y := .bool _) (z := .int _ _) (.inr rfl) rfl rfl rfl rfl rfl ?_ | refine ret4  (.inr rfl) rfl rfl rfl rfl rfl ?_ | refine ret4 (v := .slice _ _ _) (x := .int _ _) (y := .bool _) (z := .int _ _) (.inl rfl) rfl rfl rfl rfl rfl ?_ | refine ret4  (.inl rfl) rfl rfl rfl rfl rfl ?_)
          exact ⟨X, _, rfl, rfl, hX⟩
      | cons y l =>
        simp only [List.length_cons] at hc1' hlc hlrd hlb
        have hlrd' := hlrd
        unfold Rd at hlrd'
        obtain ⟨_, _, e_, hl2, hm2, ha2⟩ := hlrd'
        cases e_
        obtain ⟨b2, o2, rfl, hcl2⟩ := Rd.addr hl2 ha2 (k := 0) (by omega)
        have hcy : Cell B H b2 o2 (.int .i64 y) := (hcl2.ent hE).cell (j := 0) rfl
        have hcy0 : Cell B H b2 (o2 + 0) (.int .i64 y) := hcy
        have htl : Rd B G 1 (.slice (partAddr (some ⟨b2, o2, none⟩) lc 1 1) l.length (lc - 1)) l.length (zs l) := Rd.sliceL 1 hlrd (by omega) hlc
        have e : relS S (n : Int) = (S.set n (l, c), y, true, 0) := by
          unfold relS; rw [if_neg (by omega), Int.toNat_natCast, hs]
        rw [e]
        refine walk ?_
        (refine wp_draw [14] (.look 0 (.look 1 (.look 2 (.look 3 (.look 4 (.look 5 (.look 6 (.look 7 (.look 8 (.look 9 (.look 10 (.look 11 (.look 12 (.look 13 (.look 15 (.look 16 (.look 17 (.look 18 (.look 19 (.look 20 (.look 21 (.act 14 (.look 22 (.look 23 (.look 24 (.look 25 .nil)))) .stop)))))))))))))))))))))) (by kernel_rfl) ?_; (apply dw_pure; (· exact rfl); (· exact rfl); (· (intro G; exact looked))); (apply dw_pure; (· exact rfl); (· exact rfl); (· (intro G; exact looked))); (apply dw_pure; (· exact rfl); (· exact rfl); (· (intro G; exact looked))); (apply dw_pure; (· exact rfl); (· exact rfl); (· (intro G; exact looked))); (apply dw_pure; (· exact rfl); (· exact rfl); (· (intro G; exact looked))); (apply dw_pure; (· exact rfl); (· exact rfl); (· (intro G; exact looked))); (apply dw_look; (· exact rfl); (· exact rfl); (· (exact looked))); (apply dw_pure; (· exact rfl); (· exact rfl); (· (intro G; exact looked))); (apply dw_pure; (· exact rfl); (· exact rfl); (· (intro G; exact looked))); (apply dw_pure; (· exact rfl); (· exact rfl); (· (intro G; exact looked))); (apply dw_pure; (· exact rfl); (· exact rfl); (· (intro G; exact looked))); (apply dw_look; (· exact rfl); (· exact rfl); (· (exact looked))); (apply dw_pure; (· exact rfl); (· exact rfl); (· (intro G; (apply s_sliceL (l := 1); (· exact rfl); (· exact rfl); (· omega); (· omega); (· exact rfl)); exact looked))); (apply dw_pure; (· exact rfl); (· exact rfl); (· (intro G; (refine s_build (cs := [.int .i64 c, .slice (partAddr (some ⟨b2, o2, none⟩) lc 1 1) (l.length + 1 - 1) (lc - 1)]) ?_ rfl ?_; (· kernel_rfl)); exact looked))); (apply dw_pure; (· exact rfl); (· exact rfl); (· (intro G; exact looked))); (apply dw_pure; (· exact rfl); (· exact rfl); (· (intro G; exact looked))); (apply dw_pure; (· exact rfl); (· exact rfl); (· (intro G; exact looked))); (apply dw_pure; (· exact rfl); (· exact rfl); (· (intro G; exact looked))); (apply dw_look; (· exact rfl); (· exact rfl); (· (exact looked))); (apply dw_pure; (· exact rfl); (· exact rfl); (· (intro G; (apply s_indexAddr (j := 0) (o' := o2); (· exact rfl); (· exact rfl); (· omega); (· omega); (· omega); (· exact rfl)); exact looked))); (apply dw_look; (· exact rfl); (· exact rfl); (· (exact looked))); skip)
        refine dw_do rfl rfl ?_ dw_stop
        refine s_call rfl (with16 (n := n) (l := l) (c := c) hr0 hE hk (by omega) (by omega) htl) rfl ?_
        rintro u _ ⟨X, rfl, hX⟩
        refine wpl_nil (qone ⟨(by (refine st_again ?_ ?_; (· exact looked)); (refine st_again ?_ ?_; (· exact looked)); refine st_past (by kernel_rfl) ?_; refine st_past (by kernel_rfl) ?_; exact st_nil), ?_⟩)
        ((apply dw_pure; (· exact rfl); (· exact rfl); (· (intro G; exact looked))); (apply dw_pure; (· exact rfl); (· exact rfl); (· (intro G; exact looked))); (apply dw_pure; (· exact rfl); (· exact rfl); (· (intro G; exact looked))); (apply dw_pure; (· exact rfl); (· exact rfl); (· (intro G; exact looked))); refine dw_nil ?_; skip)
        refine walk ?_
        (first | refine ret4 (v := .slice _ _ _) (x := .int _ _) (y := .bool _) (z := .int _ _) (.inr rfl) rfl rfl rfl rfl rfl ?_ | refine ret4  (.inr rfl) rfl rfl rfl rfl rfl ?_ | refine ret4 (v := .slice _ _ _) (x := .int _ _) (y := .bool _) (z := .int _ _) (.inl rfl) rfl rfl rfl rfl rfl ?_ | refine ret4  (.inl rfl) rfl rfl rfl rfl rfl ?_)
        exact ⟨X, _, rfl, rfl, hX⟩
    · have e : relS S (n : Int) = (S, 0, false, 2) := by unfold relS; rw [if_pos (by omega)]
      rw [e]
      refine walk ?_
      (first | refine ret4 (v := .slice _ _ _) (x := .int _ _) (y := .bool _) (z := .int _ _) (.inr rfl) rfl rfl rfl rfl rfl ?_ | refine ret4  (.inr rfl) rfl rfl rfl rfl rfl ?_ | refine ret4 (v := .slice _ _ _) (x := .int _ _) (y := .bool _) (z := .int _ _) (.inl rfl) rfl rfl rfl rfl rfl ?_ | refine ret4  (.inl rfl) rfl rfl rfl rfl rfl ?_)
      exact ⟨emp, _, (HProp.emp_add _).symm, rfl, hr0.emp⟩
theorem erase_first {l : List Int} (h : g ∈ l) : ∃ j, ∃ hj : j < l.length, g ∉ l.take j ∧ l[j] = g ∧ l.erase g = l.eraseIdx j := by
  obtain ⟨a, b, hn, e1, e2⟩ := List.exists_erase_eq h
  refine ⟨a.length, by rw [e1]; simp, by rw [e1]; simpa using hn, by simp [e1], ?_⟩
  rw [e2, e1, List.eraseIdx_append_of_length_le (Nat.le_refl _)]
  simp
theorem leave16 (hr : RefS B G r S) (hE : Ent H G) (hS : SOk S b) (hb : b ≤ 999999) : Does Try.prog B 35 [r, .int .i64 g] H fun v H' =>
    ∃ X u, H' = X + H ∧ v = .tuple #[u, .bool (whereOf S g).isSome] ∧ RefS B (X + G) u (leaveS S g) := by
  have hn := hS.n
  have hr0 := hr
  have hrH := hr.ent hE
  obtain ⟨T, ao, cap, hT, rfl, hcap, hrd, hrow⟩ := hr
  have hTl : T.length = S.length := by rw [← hT, List.length_map]
  have hrd' := hrd
  unfold Rd at hrd'
  obtain ⟨_, _, e_, hl, hm, ha⟩ := hrd'
  cases e_
  refine fn_intro 35 Try.func35 rfl rfl rfl ?_
  refine walk ?_
  refine s_call rfl (where16 (g := g) hrH (by omega)) rfl ?_
  rintro _ _ ⟨e_, rfl⟩
  obtain rfl := e_.symm
  refine walk ?_
  unfold leaveS
  cases hw : whereOf S g with
  | none =>
    simp only [Option.isSome_none]
    refine walk ?_
    (first | refine ret2 (v := .slice _ _ _) (x := .bool _) (.inr rfl) rfl rfl rfl ?_ | refine ret2  (.inr rfl) rfl rfl rfl ?_ | refine ret2 (v := .slice _ _ _) (x := .bool _) (.inl rfl) rfl rfl rfl ?_ | refine ret2  (.inl rfl) rfl rfl rfl ?_)
    exact ⟨emp, _, (HProp.emp_add _).symm, rfl, hr0.emp⟩
  | some n =>
    obtain ⟨l, c, hs, hg⟩ := where_in hw
    have hk := (List.getElem?_eq_some_iff.1 hs).1
    simp only [Option.isSome_some]
    rw [modify_at hs]
    obtain ⟨hlb, hc0, hc1⟩ := hS.r n l c hs
    obtain ⟨t, ht⟩ : ∃ t, T[n]? = some t := ⟨_, List.getElem?_eq_getElem (by omega)⟩
    have ht1 : t.1 = (l, c) := by
      have : S[n]? = some t.1 := by rw [← hT, List.getElem?_map, ht]; rfl
      rw [hs] at this; exact (Option.some.inj this).symm
    obtain ⟨⟨l', c'⟩, lo, lc⟩ := t
    cases ht1
    obtain ⟨hlc, hlrd⟩ := hrow _ (List.mem_of_getElem? ht)
    simp only at hlc hlrd
    obtain ⟨bl, ol, rfl, hcl⟩ : ∃ b o, ao = some ⟨b, o, none⟩ ∧ Cells B G b o (cellsP T) := by
      rcases ha with h | h
      · rw [h] at hl; simp at hl; omega
      · exact h
    have hclH := hcl.ent hE
    have hc1' : Cell B H bl (ol + n * 2 + 1) (.slice lo l.length lc) := hclH.cell (j := n * 2 + 1) (cellsP_at T n _ ht).2
    have hc0' : Cell B H bl (ol + n * 2 + 0) (.int .i64 c) := hclH.cell (j := n * 2) (cellsP_at T n _ ht).1
    obtain ⟨j, hj, hnj, hej, hee⟩ := erase_first hg
    have hll : (l.eraseIdx j).length ≤ l.length := by rw [List.length_eraseIdx]; split <;> omega
    rw [hee]
    refine walk ?_
    refine s_call rfl (remove14_at (L := l) (g := g) (k := j) (hlrd.ent hE) hlc hj hnj hej (by omega)) rfl ?_
    rintro _ _ ⟨u, rfl, rfl⟩
    refine WPL.shape ?_
    rintro ao2 cap2 rfl _ hc2 hm2
    refine WPL.rd fun rd2 => ?_
    refine walk ?_
    (refine s_build (cs := [.int .i64 c, .slice ao2 (l.eraseIdx j).length cap2]) ?_ rfl ?_; (· kernel_rfl))
    refine s_call rfl (with16 (n := n) (l := l.eraseIdx j) (c := c) (G := Mine 3 1 (.slice ao2 (l.eraseIdx j).length cap2) (l.eraseIdx j).length (zs (l.eraseIdx j)) + G) (hr0.ent (Ent.drop_left _ _)) ((Ent.refl _).add hE) hk (by omega) hc2 (rd2.ent (Ent.drop_right _ _))) rfl ?_
    rintro v _ ⟨X, rfl, hX⟩
    refine walk ?_
    (first | refine ret2 (v := .slice _ _ _) (x := .bool _) (.inr rfl) rfl rfl rfl ?_ | refine ret2  (.inr rfl) rfl rfl rfl ?_ | refine ret2 (v := .slice _ _ _) (x := .bool _) (.inl rfl) rfl rfl rfl ?_ | refine ret2  (.inl rfl) rfl rfl rfl ?_)
    exact ⟨X + Mine 3 1 (.slice ao2 (l.eraseIdx j).length cap2) (l.eraseIdx j).length (zs (l.eraseIdx j)), _, by simp only [HProp.add_assoc], rfl, hX.ent Ent.auto⟩
end
end Go.Proofs.Ytgdeemneijpeeaa
