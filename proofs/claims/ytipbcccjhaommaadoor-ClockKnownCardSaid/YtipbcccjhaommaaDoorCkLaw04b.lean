/- In whatever order spans are added, the time is the same. No condition. -/
import Derived.Test.YtipbcccjhaommaaDoorCkLaw04a
import Derived.Test.YtipbcccjhaommaaDoorCkClk2
namespace Go.Proofs.YtipbcccjhaommaaDoor
open Go Go.SL Go.SL.Flo
set_option linter.unusedSimpArgs false
set_option linter.unusedVariables false
set_option maxRecDepth 10000
set_option maxHeartbeats 4000000
def goodL (l : List Int) : List Int := l.filter fun n => decide (0 ≤ n)
theorem goodL_len (l : List Int) : (goodL l).length ≤ l.length := List.length_filter_le _ _
theorem goodL_neg {l : List Int} {i : Nat} {n : Int} (h : l[i]? = some n) (hn : n < 0) : goodL (l.take (i + 1)) = goodL (l.take i) := by
  unfold goodL
  rw [List.take_add_one, h, List.filter_append]
  simp [hn]
theorem goodL_pos {l : List Int} {i : Nat} {n : Int} (h : l[i]? = some n) (hn : 0 ≤ n) : goodL (l.take (i + 1)) = goodL (l.take i) ++ [n] := by
  unfold goodL
  rw [List.take_add_one, h, List.filter_append]
  simp [hn]
theorem goodL_at {l : List Int} {n : Int} (h : n ∈ goodL l) : 0 ≤ n := by
  unfold goodL at h
  simpa using (List.mem_filter.1 h).2
theorem sum_add (G : List Int) (n : Int) : sumI [sumI G, n] = sumI (G ++ [n]) := by
  rw [sum_two, sum_push]
  have := sum_range G
  have := clampI_range n
  have : clampI (sumI G) = sumI G := by unfold clampI; omega
  omega
theorem sum_up {a : Int} (n : Int) (h : 0 ≤ a ∧ a ≤ 4611686018427387904) : a ≤ sumI [a, n] ∧ sumI [a, n] ≤ 4611686018427387904 := by
  rw [sum_two]
  have := clampI_range n
  have : clampI a = a := by unfold clampI; omega
  omega
structure AInv (A : Clk) : Prop where
  r : 0 ≤ A.now ∧ A.now ≤ 4611686018427387904
  n : A.laps.length ≤ 64
  le : ∀ x ∈ A.laps, x ≤ A.now
  so : A.laps.Pairwise (· ≤ ·)
theorem ainv0 : AInv ⟨0, []⟩ := ⟨by simp, by simp, by simp, List.Pairwise.nil⟩
theorem AInv.mark {A : Clk} (h : AInv A) : AInv (markC A) := by
  refine ⟨h.r, ?_, ?_, ?_⟩
  · rw [mark_len]; omega
  · intro x hx
    have := List.mem_of_mem_drop hx
    rcases List.mem_append.1 this with hm | hm
    · exact h.le x hm
    · simp at hm; subst hm; exact Int.le_refl _
  · refine List.Pairwise.sublist (List.drop_sublist _ _) ?_
    rw [List.pairwise_append]
    refine ⟨h.so, by simp, ?_⟩
    intro a ha b hb
    simp at hb
    subst hb
    exact h.le a ha
theorem AInv.add {A : Clk} (h : AInv A) (n : Int) : AInv (addC A n) := by
  have := sum_up n h.r
  refine ⟨⟨?_, this.2⟩, h.n, ?_, h.so⟩
  · have h0 := h.r
    show 0 ≤ sumI [A.now, n]
    omega
  · intro x hx
    have h0 := h.le x hx
    show x ≤ sumI [A.now, n]
    omega
theorem since_up {A X : Clk} {t d : Int} (h : A.now ≤ X.now) (hd : d ≤ sinceC A t) : d ≤ sinceC X t := by
  unfold sinceC at *
  omega
theorem laps_so {A : Clk} (h : AInv A) {j : Nat} (h1 : 1 ≤ j) (hj : j < A.laps.length) : A.laps[j - 1]'(by omega) ≤ A.laps[j] := by
  exact List.pairwise_iff_getElem.1 h.so _ _ (by omega) hj (by omega)
/-- What is added of the rows that are marked. -/
def U : List Bool → List Int → Int
  | u :: us, n :: ns => (if u then clampI n else 0) + U us ns
  | _, _ => 0
theorem U_nonneg : ∀ (us : List Bool) (ns : List Int), 0 ≤ U us ns
  | [], _ => Int.le_refl _
  | _ :: _, [] => Int.le_refl _
  | u :: us, n :: ns => by
    have := U_nonneg us ns
    have := clampI_range n
    unfold U
    split <;> omega
theorem U_set : ∀ (us : List Bool) (ns : List Int) (k : Nat) (n : Int), us[k]? = some false → ns[k]? = some n → U (us.set k true) ns = U us ns + clampI n
  | [], _, _, _, h, _ => by simp at h
  | _ :: _, [], _, _, _, h => by simp at h
  | u :: us, m :: ns, 0, n, h, h2 => by
    simp at h h2
    subst h h2
    simp [U]
    omega
  | u :: us, m :: ns, k + 1, n, h, h2 => by
    have := U_set us ns k n (by simpa using h) (by simpa using h2)
    simp only [List.set_cons_succ, U]
    omega
theorem U_all : ∀ (us : List Bool) (ns : List Int) (t : Int), us.length = ns.length → (∀ u ∈ us, u = true) → (ns.map clampI).foldl (· + ·) t = t + U us ns
  | [], [], t, _, _ => by simp [U]
  | [], _ :: _, _, h, _ => by simp at h
  | _ :: _, [], _, h, _ => by simp at h
  | u :: us, n :: ns, t, h, hu => by
    have hu0 := hu u (by simp)
    subst hu0
    simp only [List.map_cons, List.foldl_cons, U]
    rw [U_all us ns _ (by simpa using h) (fun u hm => hu u (by simp [hm]))]
    simp
    omega
theorem U_none : ∀ (k : Nat) (ns : List Int), U (List.replicate k false) ns = 0
  | 0, _ => rfl
  | k + 1, [] => rfl
  | k + 1, n :: ns => by
    rw [List.replicate_succ, U, U_none k ns]
    simp
def bC (us : List Bool) (g : List Int) : Clk := ⟨min (U us g) 4611686018427387904, []⟩
theorem bC_add {us : List Bool} {g : List Int} {k : Nat} {n : Int} (h : us[k]? = some false) (h2 : g[k]? = some n) (hn : 0 ≤ n) : (if n < 0 then bC us g else addC (bC us g) n) = bC (us.set k true) g := by
  rw [if_neg (by omega)]
  unfold bC addC
  rw [U_set us g k n h h2, sum_two]
  have := U_nonneg us g
  have := clampI_range n
  have : clampI (min (U us g) 4611686018427387904) = min (U us g) 4611686018427387904 := by unfold clampI; omega
  have e : min (min (clampI (min (U us g) 4611686018427387904)) 4611686018427387904 + clampI n) 4611686018427387904 = min (U us g + clampI n) 4611686018427387904 := by omega
  show Clk.mk (min (min (clampI (min (U us g) 4611686018427387904)) 4611686018427387904 + clampI n) 4611686018427387904) [] = _
  rw [e]
theorem bC_all {us : List Bool} {g : List Int} (h : us.length = g.length) (hu : ∀ u ∈ us, u = true) : (bC us g).now = sumI g := by
  rw [sum_all, U_all us g 0 h hu]
  unfold bC
  simp
theorem bC_none (k : Nat) (g : List Int) : bC (List.replicate k false) g = ⟨0, []⟩ := by
  unfold bC
  rw [U_none]
  rfl
theorem bools0 (k : Nat) : (List.replicate k [Value.bool false]).flatten = (List.replicate k false).map Value.bool := by
  induction k with
  | zero => rfl
  | succ k ih => rw [List.replicate_succ, List.flatten_cons, ih]; rfl
theorem turn_at {o : Int} {m : Nat} (hm : 0 < m) : ∃ p : Int, o.tmod m = p ∧ -(m : Int) < p ∧ p < m ∧ ∃ k : Nat, (p + m) % m = (k : Nat) ∧ k < m := by
  have h1 : o.tmod m < m := Int.tmod_lt_of_pos o (by omega)
  have h2 : -(m : Int) < o.tmod m := by
    rcases Int.le_total 0 o with h | h
    · have := Int.tmod_nonneg (m : Int) h
      omega
    · have h3 := Int.tmod_lt_of_pos (-o) (show (0 : Int) < m by omega)
      rw [Int.neg_tmod] at h3
      omega
  refine ⟨o.tmod m, rfl, h2, h1, ((o.tmod m + m) % m).toNat, ?_, ?_⟩
  · have := Int.emod_nonneg (o.tmod m + m) (show (m : Int) ≠ 0 by omega)
    omega
  · have := Int.emod_lt_of_pos (o.tmod m + m) (show (0 : Int) < m by omega)
    omega
attribute [local irreducible] WP WPL QSeq QBlk QRet Does Cell Cells Rd Mine Ent Aside RV e0 Slid QScp ClkAt sumI clampI sinceC U markC addC goodL
section
variable {B : World} {F H : HProp} {b : Nat} {n t d now : Int} {c : Clk} {s o : Value} {l ord : List Int}
theorem cDueE {x : Bool} (h : decide (d ≤ sinceC c t) = x) (hn : 0 ≤ c.now ∧ c.now ≤ 4611686018427387904) (ht : t < 9223372036854775808) [i : HasAt ClkAt H b c F] : Does Tryd.prog B 11 [.pointer (some ⟨b, 0, none⟩), .int .i64 t, .int .i64 d] H fun r H' => H' = H ∧ r = .bool x := by
  subst h; exact cDue hn ht
theorem orders_law (T : Tab B) (hs : Rd B H 1 s l.length (zs l)) (ho : Rd B H 1 o ord.length (zs ord)) (ht : t < 9223372036854775808) :
    Does Tryd.prog B 3 [s, o, .int .i64 t, .int .i64 d] H fun r H' => H' = H ∧ r = .bool true := by
  refine Does.frame0 ?_
  unfold Rd at hs ho
  obtain ⟨ao, cap, rfl, hsl, hsm, hsa⟩ := hs
  obtain ⟨ao2, cap2, rfl, hol, hom, hoa⟩ := ho
  unfold maxLen at hsm hom
  by_cases hbig : l.length > 60 ∨ ord.length > 60
  · by_cases hb1 : l.length > 60
    · refine fn_intro 184 Tryd.func3 rfl rfl rfl ?_
      refine walk ?_
      refine s_call rfl (works_spec T) rfl ?_
      rintro _ _ ⟨e_, rfl⟩
      obtain rfl := e_.symm
      refine walk ?_
      (first | (apply retRD1 (G := H) (.inr rfl) rfl; (· first | (refine rv_tmp (v := .bool _) rfl) | exact rv_tmp rfl); (· exact Ent.auto)) | (apply retRD1 (G := H) (.inl rfl) rfl; (· first | (refine rv_tmp (v := .bool _) rfl) | exact rv_tmp rfl); (· exact Ent.auto)))
      exact ⟨Ent.refl _, rfl⟩
    · have hb2 : ord.length > 60 := by omega
      refine fn_intro 184 Tryd.func3 rfl rfl rfl ?_
      refine walk ?_
      refine s_call rfl (works_spec T) rfl ?_
      rintro _ _ ⟨e_, rfl⟩
      obtain rfl := e_.symm
      refine walk ?_
      (first | (apply retRD1 (G := H) (.inr rfl) rfl; (· first | (refine rv_tmp (v := .bool _) rfl) | exact rv_tmp rfl); (· exact Ent.auto)) | (apply retRD1 (G := H) (.inl rfl) rfl; (· first | (refine rv_tmp (v := .bool _) rfl) | exact rv_tmp rfl); (· exact Ent.auto)))
      exact ⟨Ent.refl _, rfl⟩
  have hb1 : l.length ≤ 60 := by omega
  have hb2 : ord.length ≤ 60 := by omega
  clear hbig
  refine fn_intro 184 Tryd.func3 rfl rfl rfl ?_
  refine walk ?_
  refine s_alloc rfl ?_
  intro b1
  refine s_alloc rfl ?_
  intro b2
  refine WPL.ent (clk_new.trans (clk_new.frame_left _)) ?_
  refine walk ?_
  refine wp_loopF (α := Nat × Clk × List Int × Value × Bool × Bool) [8, 11, 12, 13, 14, 15, 16, 32, 33, 34, 35, 36, 37, 38, 39, 40, 41, 42, 43, 44, 45, 46, 47, 48, 49, 50, 51, 52, 53, 54, 55, 56, 57, 58, 59, 60, 61, 62, 63, 64, 65, 66, 67, 68, 69, 70, 71, 72, 73, 74, 75, 76, 77, 78, 79, 80, 81, 82, 83, 84, 85, 86, 87, 88, 89, 90, 91, 92, 93, 94, 95, 96, 97, 98] (fun x => [(14, .int .i64 x.1), (11, x.2.2.2.1), (12, .bool x.2.2.2.2.1), (13, .bool x.2.2.2.2.2)])
    (fun x => Mine 2 1 x.2.2.2.1 x.2.2.1.length (zs x.2.2.1) + (ClkAt b1 x.2.1 + (ClkAt b2 ⟨0, []⟩ + H)))
    (fun x => x.1 ≤ l.length ∧ x.2.2.1 = goodL (l.take x.1) ∧ x.2.1.now = sumI x.2.2.1 ∧ AInv x.2.1 ∧ (x.2.2.2.2.1 = true → d ≤ sinceC x.2.1 t) ∧ (x.2.2.2.2.2 = true → x.2.1.now = 4611686018427387904))
    (fun x => l.length - x.1) (0, ⟨0, []⟩, [], .slice none 0 0, false, false) agreed ?_ ⟨Nat.zero_le _, by unfold goodL; simp, by unfold sumI; rfl, ainv0, by simp, by simp⟩ ?_
  · show Ent _ (Mine 2 1 (.slice none 0 0) 0 [] + _)
    rw [Mine.nil, HProp.emp_add]
    exact Ent.auto
  rintro ⟨i, A, G, v, due, full⟩ f ⟨hi, hG, hnow, hA, hdue, hfull⟩
  simp only at hi hG hnow hA hdue hfull
  simp only [putAll]
  by_cases hlt : i < l.length
  · obtain ⟨bl, ol, rfl, hcs⟩ := Rd.addr hsl hsa hlt
    have hget : l[i]? = some l[i] := List.getElem?_eq_getElem hlt
    have hcell := hcs.cell (j := i) (v := .int .i64 l[i]) (by rw [zs_get l i hlt])
    have hGl : G.length ≤ 60 := by have := goodL_len (l.take i); rw [← hG, List.length_take] at this; omega
    generalize l[i] = n at *
    obtain ⟨X, e, hX, he, hXn, hXi, hXe⟩ : ∃ X e, (if n < 0 then A else addC A n) = X ∧ (if n < 0 then (2 : Int) else 0) = e ∧ A.now ≤ X.now ∧ AInv X ∧ (n < 0 → X = A ∧ e = 2) ∧ (0 ≤ n → e = 0 ∧ X.now = sumI (G ++ [n])) := by
      by_cases hn : n < 0
      · exact ⟨A, 2, if_pos hn, if_pos hn, Int.le_refl _, hA, fun _ => ⟨rfl, rfl⟩, fun h => absurd h (by omega)⟩
      · refine ⟨addC A n, 0, if_neg hn, if_neg hn, ?_, hA.add n, fun h => absurd h hn, fun _ => ⟨rfl, ?_⟩⟩
        · unfold addC; exact (sum_up n hA.r).1
        · unfold addC
          show sumI [A.now, n] = _
          rw [hnow, sum_add]
    have hmn : (markC X).now = X.now := by unfold markC; rfl
    have hdue' : due = true → decide (d ≤ sinceC (markC X) t) = true := fun h => decide_eq_true (since_up (by rw [hmn]; exact hXn) (hdue h))
    have hXr := hXi.r
    have hfull' : full = true → decide ((markC X).now = 4611686018427387904) = true := fun h => decide_eq_true (by rw [hmn]; have := hfull h; omega)
    have hmr : 0 ≤ (markC X).now ∧ (markC X).now ≤ 4611686018427387904 := by rw [hmn]; exact hXi.r
    have hlaps : X.laps.length ≤ 100000 := by have := hXi.n; omega
    by_cases hn : n < 0
    · obtain ⟨hXA, rfl⟩ := hXe.1 hn
      have hXA' : X.now = A.now := by rw [hXA]
      cases due <;> cases full
      all_goals
        refine walk ?_
        refine s_call rfl (cNowE (b := b1) (c := A) (x := A.now) rfl) rfl ?_
        rintro _ _ ⟨e_, rfl⟩
        obtain rfl := e_.symm
        refine walk ?_
        refine s_call rfl (cAddE (b := b1) (c := A) (n := n) (x := X) (e := 2) hX he) rfl ?_
        rintro _ _ ⟨rfl, rfl⟩
        refine walk ?_
        refine s_call rfl (cMark (b := b1) (c := X) hlaps) rfl ?_
        rintro _ _ ⟨rfl, rfl⟩
        refine walk ?_
        refine s_call rfl (cNowE (b := b1) (c := markC X) (x := X.now) hmn) rfl ?_
        rintro _ _ ⟨e_, rfl⟩
        obtain rfl := e_.symm
        refine walk ?_
        refine s_call rfl (cNowE (b := b1) (c := markC X) (x := X.now) hmn) rfl ?_
        rintro _ _ ⟨e_, rfl⟩
        obtain rfl := e_.symm
        refine walk ?_
        try
          refine s_call rfl (cDueE (b := b1) (c := markC X) (hdue' rfl) hmr ht) rfl ?_
          rintro _ _ ⟨e_, rfl⟩
          obtain rfl := e_.symm
          refine walk ?_
        try
          refine s_call rfl (cFullE (b := b1) (c := markC X) (hfull' rfl)) rfl ?_
          rintro _ _ ⟨e_, rfl⟩
          obtain rfl := e_.symm
          refine walk ?_
        refine s_call rfl (cDueE (b := b1) (c := markC X) rfl hmr ht) rfl ?_
        rintro _ _ ⟨e_, rfl⟩
        obtain rfl := e_.symm
        refine walk ?_
        refine s_call rfl (cFullE (b := b1) (c := markC X) rfl) rfl ?_
        rintro _ _ ⟨e_, rfl⟩
        obtain rfl := e_.symm
        refine walk ?_
        exact ⟨(i + 1, markC X, G, v, decide (d ≤ sinceC (markC X) t), decide ((markC X).now = 4611686018427387904)), asided, agreed, Ent.auto, ⟨hlt, by rw [goodL_neg hget hn]; exact hG, by simp only; rw [hmn, hXA', hnow], hXi.mark, fun h => of_decide_eq_true h, fun h => of_decide_eq_true h⟩, by simp only; omega⟩
    · obtain ⟨rfl, hXs⟩ := hXe.2 (by omega)
      cases due <;> cases full
      all_goals
        refine walk ?_
        refine s_call rfl (cNowE (b := b1) (c := A) (x := A.now) rfl) rfl ?_
        rintro _ _ ⟨e_, rfl⟩
        obtain rfl := e_.symm
        refine walk ?_
        refine s_call rfl (cAddE (b := b1) (c := A) (n := n) (x := X) (e := 0) hX he) rfl ?_
        rintro _ _ ⟨rfl, rfl⟩
        refine walk ?_
        refine s_call rfl (cMark (b := b1) (c := X) hlaps) rfl ?_
        rintro _ _ ⟨rfl, rfl⟩
        refine walk ?_
        refine s_call rfl (cNowE (b := b1) (c := markC X) (x := X.now) hmn) rfl ?_
        rintro _ _ ⟨e_, rfl⟩
        obtain rfl := e_.symm
        refine walk ?_
        try
          refine s_call rfl (cDueE (b := b1) (c := markC X) (hdue' rfl) hmr ht) rfl ?_
          rintro _ _ ⟨e_, rfl⟩
          obtain rfl := e_.symm
          refine walk ?_
        try
          refine s_call rfl (cFullE (b := b1) (c := markC X) (hfull' rfl)) rfl ?_
          rintro _ _ ⟨e_, rfl⟩
          obtain rfl := e_.symm
          refine walk ?_
        refine s_call rfl (cDueE (b := b1) (c := markC X) rfl hmr ht) rfl ?_
        rintro _ _ ⟨e_, rfl⟩
        obtain rfl := e_.symm
        refine walk ?_
        refine s_call rfl (cFullE (b := b1) (c := markC X) rfl) rfl ?_
        rintro _ _ ⟨e_, rfl⟩
        obtain rfl := e_.symm
        refine walk ?_
        refine s_buildInts (cs := [.int .i64 n]) rfl rfl rfl rfl rfl ?_
        intro b10
        refine walk ?_
        refine s_append (v := v) rfl rfl (Rd.blk0 (m := 1) (e := 2) rfl (by simp [maxLen])) rfl rfl ?_ rfl ?_
        · simp only [maxLen]; omega
        intro v'
        rw [← zs_push, show G.length + 1 = (G ++ [n]).length by simp]
        refine walk ?_
        exact ⟨(i + 1, markC X, G ++ [n], v', decide (d ≤ sinceC (markC X) t), decide ((markC X).now = 4611686018427387904)), asided, agreed, Ent.auto, ⟨hlt, by rw [goodL_pos hget (by omega), hG], by simp only; rw [hmn, hXs], hXi.mark, fun h => of_decide_eq_true h, fun h => of_decide_eq_true h⟩, by simp only; omega⟩
  · obtain rfl : i = l.length := by omega
    rw [List.take_length] at hG
    have hGl : G.length ≤ 60 := by have := goodL_len l; rw [← hG] at this; omega
    have hpos : ∀ n ∈ G, 0 ≤ n := fun n h => goodL_at (by rw [← hG]; exact h)
    clear hG hdue hfull
    refine WP.shape ?_
    rintro aG cG rfl _ hcG hmG
    refine WP.rd fun rdG => ?_
    have rdG' := rdG
    unfold Rd at rdG'
    obtain ⟨_, _, e_, hlG, hmG', haG⟩ := rdG'
    cases e_
    have hAn := hA.n
    refine walk ?_
    refine s_call rfl (cLaps (b := b1) (c := A) (by omega)) rfl ?_
    rintro rl _ rfl
    refine WPL.shape ?_
    rintro aL cL rfl _ hcL hmL
    refine WPL.rd fun rdL => ?_
    have rdL' := rdL
    unfold Rd at rdL'
    obtain ⟨_, _, e_, hlL, hmL', haL⟩ := rdL'
    cases e_
    refine walk ?_
    refine wp_loopR (α := Nat) [8, 18, 100, 101, 102, 103, 104, 105, 106, 107, 108, 109, 110, 111, 112, 113, 114, 115] (fun j => [(18, .int .i64 j)]) (fun j => 1 ≤ j ∧ j ≤ 65) (fun j => 65 - j) 1 agreed ⟨by omega, by omega⟩ ?_
    rintro j f2 ⟨hj1, hj2⟩
    simp only [putAll]
    by_cases hjl : j < A.laps.length
    · obtain ⟨bL, oL, rfl, hcs⟩ := Rd.addr hlL haL hjl
      have c1 := hcs.cell (j := j) (v := .int .i64 A.laps[j]) (zs_get _ j hjl)
      have c0 := hcs.cell (j := j - 1) (v := .int .i64 (A.laps[j - 1]'(by omega))) (zs_get _ (j - 1) (by omega))
      have hso := laps_so hA hj1 hjl
      have ej : ((j : Int) - 1) = ((j - 1 : Nat) : Int) := by omega
      refine walk ?_
      (refine wp_draw [] (.look 0 (.look 1 (.look 2 (.look 3 (.look 4 (.look 5 (.look 6 (.look 7 (.look 8 (.look 9 .nil)))))))))) (by kernel_rfl) ?_; (apply dw_pure; (· exact rfl); (· exact rfl); (· (intro G; exact looked))); (apply dw_pure; (· exact rfl); (· exact rfl); (· (intro G; exact looked))); (apply dw_pure; (· exact rfl); (· exact rfl); (· (intro G; (apply s_indexAddr (j := j) (o' := oL + j); (· exact rfl); (· exact rfl); (· omega); (· omega); (· omega); (· exact rfl)); exact looked))); (apply dw_look; (· exact rfl); (· exact rfl); (· (exact looked))); (apply dw_pure; (· exact rfl); (· exact rfl); (· (intro G; exact looked))); (apply dw_pure; (· exact rfl); (· exact rfl); (· (intro G; exact looked))); (apply dw_pure; (· exact rfl); (· exact rfl); (· (intro G; (refine s_sub rfl rfl ej ?_ rfl ?_; (· omega)); exact looked))); (apply dw_pure; (· exact rfl); (· exact rfl); (· (intro G; (apply s_indexAddr (j := j - 1) (o' := oL + (j - 1)); (· exact rfl); (· exact rfl); (· omega); (· omega); (· omega); (· exact rfl)); exact looked))); (apply dw_look; (· exact rfl); (· exact rfl); (· (exact looked))); (apply dw_pure; (· exact rfl); (· exact rfl); (· (intro G; (refine s_lss_f rfl rfl ?_ rfl ?_; (· omega)); exact looked))); refine dw_nil ?_)
      refine walk ?_
      exact ⟨j + 1, asided, agreed, Ent.refl _, ⟨by omega, by omega⟩, by omega⟩
    · refine walk ?_
      refine s_makeSlice (k := G.length) (c := G.length) rfl rfl (Nat.le_refl _) (by simp only [maxLen]; omega) rfl ?_
      intro bU
      rw [bools0]
      refine walk ?_
      refine wp_loopF (α := Nat × List Bool) [20, 21, 119, 120, 121, 122, 123, 124, 125, 126, 127, 128, 129, 130, 131, 132, 133, 134, 135, 136, 137, 138, 139, 140, 141, 142, 143, 144, 145, 146, 147, 148, 149, 150, 151, 152, 153, 154, 155] (fun x => [(20, .int .i64 x.1)]) (fun x => blk bU (x.2.map Value.bool) 4 + (ClkAt b2 (bC x.2 G) + (ClkAt b1 A + (Mine 2 1 (.slice aL A.laps.length cL) A.laps.length (zs A.laps) + (Mine 2 1 (.slice aG G.length cG) G.length (zs G) + H)))))
        (fun x => x.1 ≤ ord.length ∧ x.2.length = G.length) (fun x => ord.length - x.1) (0, List.replicate G.length false) agreed (by rw [bC_none]; exact Ent.auto) ⟨Nat.zero_le _, by simp⟩ ?_
      rintro ⟨m, us⟩ f3 ⟨hm, hul⟩
      simp only at hm hul
      simp only [putAll]
      by_cases hml : m < ord.length ∧ 0 < G.length
      · obtain ⟨hm1, hm2⟩ := hml
        obtain ⟨bo, oo, rfl, hco⟩ := Rd.addr hol hoa hm1
        have co := hco.cell (j := m) (v := .int .i64 ord[m]) (zs_get ord m hm1)
        generalize ord[m] = q at *
        obtain ⟨p, hp, hp1, hp2, k, hk, hkl⟩ := turn_at (o := q) hm2
        obtain ⟨bG, oG, rfl, hcG'⟩ := Rd.addr hlG haG hm2
        have hgk : G[k]? = some G[k] := List.getElem?_eq_getElem hkl
        have cg := hcG'.cell (j := k) (v := .int .i64 G[k]) (zs_get G k hkl)
        have hg0 : 0 ≤ G[k] := hpos _ (List.getElem_mem hkl)
        generalize G[k] = g at *
        obtain ⟨u, hu⟩ : ∃ u, us[k]? = some u := ⟨_, List.getElem?_eq_getElem (by omega)⟩
        have cu : Cell B (blk bU (us.map Value.bool) 4) bU k (.bool u) := by
          rw [← HProp.add_emp (blk bU (us.map Value.bool) 4)]
          exact Cell.blk (by rw [List.getElem?_map, hu]; rfl)
        cases u
        · refine walk ?_
          refine s_rem (r := p) rfl rfl (by omega) hp rfl ?_
          refine walk ?_
          rw [hk]
          refine walk ?_
          refine s_store (v := .bool true) (cs' := (us.set k true).map Value.bool) rfl rfl rfl (by rw [List.length_map]; omega) (by rw [List.map_set]) ?_
          refine walk ?_
          refine s_call rfl (cAddE (b := b2) (c := bC us G) (n := g) (x := bC (us.set k true) G) (e := 0) (bC_add hu hgk hg0) (if_neg (by omega))) rfl ?_
          rintro _ _ ⟨rfl, rfl⟩
          refine walk ?_
          exact ⟨(m + 1, us.set k true), asided, agreed, Ent.auto, ⟨by omega, by rw [List.length_set]; exact hul⟩, by simp only; omega⟩
        · refine walk ?_
          refine s_rem (r := p) rfl rfl (by omega) hp rfl ?_
          refine walk ?_
          rw [hk]
          refine walk ?_
          exact ⟨(m + 1, us), asided, agreed, Ent.auto, ⟨by omega, hul⟩, by simp only; omega⟩
      · skip
        by_cases hm1 : m < ord.length
        · have hG0 : G.length = 0 := by omega
          refine walk ?_
          refine wp_loopF (α := Nat × List Bool) [22, 156, 157, 158, 159, 160, 161, 162, 163, 164, 165, 166, 167, 168, 169, 170, 171] (fun x => [(22, .int .i64 x.1)]) (fun x => blk bU (us.map Value.bool) 4 + (ClkAt b2 (bC x.2 G) + (ClkAt b1 A + (Mine 2 1 (.slice aL A.laps.length cL) A.laps.length (zs A.laps) + (Mine 2 1 (.slice aG G.length cG) G.length (zs G) + H)))))
            (fun x => x.1 ≤ G.length ∧ x.2.length = G.length ∧ (∀ q, q < x.1 → x.2[q]? = some true) ∧ (∀ q, x.1 ≤ q → x.2[q]? = us[q]?)) (fun x => G.length - x.1) (0, us) agreed Ent.auto ⟨Nat.zero_le _, hul, fun q h => absurd h (by simp), fun q _ => rfl⟩ ?_
          rintro ⟨k, ws⟩ f4 ⟨hk, hwl, hw1, hw2⟩
          simp only at hk hwl hw1 hw2
          simp only [putAll]
          by_cases hkl : k < G.length
          · obtain ⟨bG, oG, rfl, hcG'⟩ := Rd.addr hlG haG hkl
            have hgk : G[k]? = some G[k] := List.getElem?_eq_getElem hkl
            have cg := hcG'.cell (j := k) (v := .int .i64 G[k]) (zs_get G k hkl)
            have hg0 : 0 ≤ G[k] := hpos _ (List.getElem_mem hkl)
            generalize G[k] = g at *
            obtain ⟨u, hu⟩ : ∃ u, us[k]? = some u := ⟨_, List.getElem?_eq_getElem (by omega)⟩
            have cu : Cell B (blk bU (us.map Value.bool) 4) bU k (.bool u) := by
              rw [← HProp.add_emp (blk bU (us.map Value.bool) 4)]
              exact Cell.blk (by rw [List.getElem?_map, hu]; rfl)
            have hwk : ws[k]? = some u := by rw [hw2 k (Nat.le_refl _)]; exact hu
            cases u
            · refine walk ?_
              refine s_call rfl (cAddE (b := b2) (c := bC ws G) (n := g) (x := bC (ws.set k true) G) (e := 0) (bC_add hwk hgk hg0) (if_neg (by omega))) rfl ?_
              rintro _ _ ⟨rfl, rfl⟩
              refine walk ?_
              refine ⟨(k + 1, ws.set k true), asided, agreed, Ent.auto, ⟨hkl, by rw [List.length_set]; exact hwl, fun q hq => ?_, fun q hq => ?_⟩, by simp only; omega⟩
              · rw [List.getElem?_set]
                simp only at hq
                by_cases e : k = q
                · rw [if_pos e, if_pos (by omega)]
                · rw [if_neg e]; exact hw1 q (by omega)
              · simp only at hq
                rw [List.getElem?_set, if_neg (by omega)]
                exact hw2 q (by omega)
            · refine walk ?_
              refine ⟨(k + 1, ws), asided, agreed, Ent.auto, ⟨hkl, hwl, fun q hq => ?_, fun q hq => hw2 q (by simp only at hq; omega)⟩, by simp only; omega⟩
              simp only at hq
              by_cases e : q = k
              · rw [e]; exact hwk
              · exact hw1 q (by omega)
          · have hall : ∀ u ∈ ws, u = true := fun u hu => by
              obtain ⟨q, hq, e⟩ := List.mem_iff_getElem.1 hu
              have := hw1 q (by omega)
              rw [List.getElem?_eq_getElem hq] at this
              rw [← e]
              exact Option.some.inj this
            have hbn := bC_all hwl hall
            refine walk ?_
            refine s_call rfl (cNowE (b := b1) (c := A) (x := sumI G) hnow) rfl ?_
            rintro _ _ ⟨e_, rfl⟩
            obtain rfl := e_.symm
            refine walk ?_
            refine s_call rfl (cNowE (b := b2) (c := bC ws G) (x := sumI G) hbn) rfl ?_
            rintro _ _ ⟨e_, rfl⟩
            obtain rfl := e_.symm
            refine walk ?_
            refine s_call rfl (cNowE (b := b1) (c := A) (x := sumI G) hnow) rfl ?_
            rintro _ _ ⟨e_, rfl⟩
            obtain rfl := e_.symm
            refine walk ?_
            refine s_call rfl (rSumP (l := G) (rdG.ent InH.ent)) rfl ?_
            rintro _ _ ⟨e_, rfl⟩
            obtain rfl := e_.symm
            refine walk ?_
            refine s_call rfl (works_spec T) rfl ?_
            rintro _ _ ⟨e_, rfl⟩
            obtain rfl := e_.symm
            refine walk ?_
            (first | (apply retRD1 (G := H) (.inr rfl) rfl; (· first | (refine rv_tmp (v := .bool _) rfl) | exact rv_tmp rfl); (· exact Ent.auto)) | (apply retRD1 (G := H) (.inl rfl) rfl; (· first | (refine rv_tmp (v := .bool _) rfl) | exact rv_tmp rfl); (· exact Ent.auto)))
            exact ⟨Ent.refl _, rfl⟩
        · refine walk ?_
          refine wp_loopF (α := Nat × List Bool) [22, 156, 157, 158, 159, 160, 161, 162, 163, 164, 165, 166, 167, 168, 169, 170, 171] (fun x => [(22, .int .i64 x.1)]) (fun x => blk bU (us.map Value.bool) 4 + (ClkAt b2 (bC x.2 G) + (ClkAt b1 A + (Mine 2 1 (.slice aL A.laps.length cL) A.laps.length (zs A.laps) + (Mine 2 1 (.slice aG G.length cG) G.length (zs G) + H)))))
            (fun x => x.1 ≤ G.length ∧ x.2.length = G.length ∧ (∀ q, q < x.1 → x.2[q]? = some true) ∧ (∀ q, x.1 ≤ q → x.2[q]? = us[q]?)) (fun x => G.length - x.1) (0, us) agreed Ent.auto ⟨Nat.zero_le _, hul, fun q h => absurd h (by simp), fun q _ => rfl⟩ ?_
          rintro ⟨k, ws⟩ f4 ⟨hk, hwl, hw1, hw2⟩
          simp only at hk hwl hw1 hw2
          simp only [putAll]
          by_cases hkl : k < G.length
          · obtain ⟨bG, oG, rfl, hcG'⟩ := Rd.addr hlG haG hkl
            have hgk : G[k]? = some G[k] := List.getElem?_eq_getElem hkl
            have cg := hcG'.cell (j := k) (v := .int .i64 G[k]) (zs_get G k hkl)
            have hg0 : 0 ≤ G[k] := hpos _ (List.getElem_mem hkl)
            generalize G[k] = g at *
            obtain ⟨u, hu⟩ : ∃ u, us[k]? = some u := ⟨_, List.getElem?_eq_getElem (by omega)⟩
            have cu : Cell B (blk bU (us.map Value.bool) 4) bU k (.bool u) := by
              rw [← HProp.add_emp (blk bU (us.map Value.bool) 4)]
              exact Cell.blk (by rw [List.getElem?_map, hu]; rfl)
            have hwk : ws[k]? = some u := by rw [hw2 k (Nat.le_refl _)]; exact hu
            cases u
            · refine walk ?_
              refine s_call rfl (cAddE (b := b2) (c := bC ws G) (n := g) (x := bC (ws.set k true) G) (e := 0) (bC_add hwk hgk hg0) (if_neg (by omega))) rfl ?_
              rintro _ _ ⟨rfl, rfl⟩
              refine walk ?_
              refine ⟨(k + 1, ws.set k true), asided, agreed, Ent.auto, ⟨hkl, by rw [List.length_set]; exact hwl, fun q hq => ?_, fun q hq => ?_⟩, by simp only; omega⟩
              · rw [List.getElem?_set]
                simp only at hq
                by_cases e : k = q
                · rw [if_pos e, if_pos (by omega)]
                · rw [if_neg e]; exact hw1 q (by omega)
              · simp only at hq
                rw [List.getElem?_set, if_neg (by omega)]
                exact hw2 q (by omega)
            · refine walk ?_
              refine ⟨(k + 1, ws), asided, agreed, Ent.auto, ⟨hkl, hwl, fun q hq => ?_, fun q hq => hw2 q (by simp only at hq; omega)⟩, by simp only; omega⟩
              simp only at hq
              by_cases e : q = k
              · rw [e]; exact hwk
              · exact hw1 q (by omega)
          · have hall : ∀ u ∈ ws, u = true := fun u hu => by
              obtain ⟨q, hq, e⟩ := List.mem_iff_getElem.1 hu
              have := hw1 q (by omega)
              rw [List.getElem?_eq_getElem hq] at this
              rw [← e]
              exact Option.some.inj this
            have hbn := bC_all hwl hall
            refine walk ?_
            refine s_call rfl (cNowE (b := b1) (c := A) (x := sumI G) hnow) rfl ?_
            rintro _ _ ⟨e_, rfl⟩
            obtain rfl := e_.symm
            refine walk ?_
            refine s_call rfl (cNowE (b := b2) (c := bC ws G) (x := sumI G) hbn) rfl ?_
            rintro _ _ ⟨e_, rfl⟩
            obtain rfl := e_.symm
            refine walk ?_
            refine s_call rfl (cNowE (b := b1) (c := A) (x := sumI G) hnow) rfl ?_
            rintro _ _ ⟨e_, rfl⟩
            obtain rfl := e_.symm
            refine walk ?_
            refine s_call rfl (rSumP (l := G) (rdG.ent InH.ent)) rfl ?_
            rintro _ _ ⟨e_, rfl⟩
            obtain rfl := e_.symm
            refine walk ?_
            refine s_call rfl (works_spec T) rfl ?_
            rintro _ _ ⟨e_, rfl⟩
            obtain rfl := e_.symm
            refine walk ?_
            (first | (apply retRD1 (G := H) (.inr rfl) rfl; (· first | (refine rv_tmp (v := .bool _) rfl) | exact rv_tmp rfl); (· exact Ent.auto)) | (apply retRD1 (G := H) (.inl rfl) rfl; (· first | (refine rv_tmp (v := .bool _) rfl) | exact rv_tmp rfl); (· exact Ent.auto)))
            exact ⟨Ent.refl _, rfl⟩
end
end Go.Proofs.YtipbcccjhaommaaDoor
