/- A clock against the document's clock: whether they are one; what is done to both. No condition. -/
import Derived.Test.YtipbcccjhaommaaDoorCkLaw04b
import Derived.Test.YtipbcccjhaommaaDoorCkRef04
namespace Go.Proofs.YtipbcccjhaommaaDoor
open Go Go.SL Go.SL.Flo
set_option linter.unusedSimpArgs false
set_option linter.unusedVariables false
set_option maxRecDepth 10000
set_option maxHeartbeats 4000000
structure Act where
  k : Int
  n : Int
  s : Value
  fs : List Nat
def actC (a : Act) : List Value := [.int .i64 a.k, .int .i64 a.n, a.s]
def actsC : List Act → List Value
  | [] => []
  | a :: l => .int .i64 a.k :: .int .i64 a.n :: a.s :: actsC l
theorem actsC_len : ∀ l : List Act, (actsC l).length = l.length * 3
  | [] => rfl
  | a :: l => by simp only [actsC, List.length_cons, actsC_len l]; omega
theorem actsC_at : ∀ (l : List Act) (i : Nat) (h : i < l.length), (actsC l)[i * 3]? = some (.int .i64 l[i].k) ∧ (actsC l)[i * 3 + 1]? = some (.int .i64 l[i].n) ∧ (actsC l)[i * 3 + 2]? = some l[i].s
  | [], i, h => absurd h (by simp)
  | a :: l, 0, h => ⟨rfl, rfl, rfl⟩
  | a :: l, i + 1, h => by
    obtain ⟨h0, h1, h2⟩ := actsC_at l i (by simpa using h)
    rw [show (i + 1) * 3 = i * 3 + 1 + 1 + 1 by omega]
    exact ⟨by simpa [actsC] using h0, by simpa [actsC] using h1, by simpa [actsC] using h2⟩
theorem acts_cells {B : World} {H : HProp} {b o : Nat} {l : List Act} (h : Cells B H b o (actsC l)) {i : Nat} (hi : i < l.length) : Cells B H b (o + i * 3) (actC l[i]) := fun w hw j v hj => by
  obtain ⟨h0, h1, h2⟩ := actsC_at l i hi
  have := h w hw (i * 3 + j) v
  rw [Nat.add_assoc]
  refine this ?_
  match j, hj with
  | 0, hj => rw [Nat.add_zero, h0]; exact hj
  | 1, hj => rw [h1]; exact hj
  | 2, hj => rw [h2]; exact hj
  | j + 3, hj => simp [actC] at hj
/-- What an act does to a clock. -/
def stepC (c : Clk) (a : Act) : Clk :=
  if a.k = 0 ∨ a.k = 1 then (if a.n < 0 then c else addC c a.n)
  else if a.k = 2 then (milGo c 0 a.fs).1
  else if a.k = 3 then markC c
  else c
theorem AInv.mil : ∀ (fs : List Nat) {c : Clk} {k : Nat}, AInv c → AInv (milGo c k fs).1
  | [], c, k, h => h
  | f :: fs, c, k, h => by
    unfold milGo
    split
    · exact AInv.mil fs (h.add _)
    · exact h
theorem AInv.step {c : Clk} (h : AInv c) (a : Act) : AInv (stepC c a) := by
  unfold stepC
  split
  · split
    · exact h
    · exact h.add _
  · split
    · exact h.mil _
    · split
      · exact h.mark
      · exact h
theorem step_laps {c : Clk} {a : Act} (h : a.k ≠ 3) : (stepC c a).laps = c.laps := by
  unfold stepC
  split
  · split <;> rfl
  · split
    · exact milGo_laps _ _ _
    · rfl
attribute [local irreducible] WP WPL QSeq QBlk QRet Does Cell Cells Rd Mine Ent Aside RV e0 Slid QScp ClkAt sumI clampI sinceC markC addC milGo
section
variable {B : World} {F H : HProp} {b : Nat} {n t d now : Int} {c : Clk} {s : Value} {ao : Option Addr} {cap m : Nat} {l : List Act} {a : Act}
theorem few_spec {most : Nat} (hm : most ≤ 1000000) (hs : Rd B H 3 s l.length (actsC l)) (hl : ∀ a ∈ l, Rd B H 1 a.s a.fs.length (a.fs.map flt)) :
    Does Tryd.prog B 15 [s, .int .i64 (most : Nat)] H fun r H' => H' = H ∧ ∃ x, r = .bool x ∧ (x = true → l.length ≤ most ∧ ∀ a ∈ l, a.fs.length ≤ 20) := by
  refine Does.weak (R := fun r H' => Ent H' H ∧ ∃ x, r = .bool x ∧ (x = true → l.length ≤ most ∧ ∀ a ∈ l, a.fs.length ≤ 20)) ?_ fun v H1 ⟨e, h⟩ => ⟨_, e, rfl, h⟩
  unfold Rd at hs
  obtain ⟨ao, cap, rfl, hsl, hsm, hsa⟩ := hs
  unfold maxLen at hsm
  refine fn_intro 28 Tryd.func15 rfl rfl rfl ?_
  refine walk ?_
  refine wp_loopR (α := Nat) [4, 5, 6, 7, 8, 9, 10, 11, 12, 13, 14, 15, 16, 17, 18, 19, 20, 21, 22, 23] (fun i => [(5, .int .i64 i)]) (fun i => i ≤ l.length ∧ i ≤ most + 1 ∧ ∀ j (h : j < l.length), j < i → l[j].fs.length ≤ 20) (fun i => l.length - i) 0 agreed ⟨by omega, by omega, fun j h hj => by omega⟩ ?_
  rintro i f ⟨hi, him, hall⟩
  simp only [putAll]
  by_cases hc : i < l.length ∧ i ≤ most
  · obtain ⟨h1, h2⟩ := hc
    obtain ⟨bl, o, rfl, hcs⟩ : ∃ b o, ao = some ⟨b, o, none⟩ ∧ Cells B H b o (actsC l) := by
      rcases hsa with h | h
      · rw [h] at hsl; simp at hsl; omega
      · exact h
    have hr := hl l[i] (List.getElem_mem h1)
    obtain ⟨q0, q1, q2⟩ := actsC_at l i h1
    have c2 : Cell B H bl (o + i * 3 + 2) l[i].s := by
      have := hcs.cell q2
      rw [← Nat.add_assoc] at this
      exact this
    unfold Rd at hr
    obtain ⟨ai, ci, hsi, hil, him2, _⟩ := hr
    rw [hsi] at c2
    rw [List.length_map] at hil
    unfold maxLen at him2
    have hi20 := hall
    have hmem : ∀ k, l[i].fs.length = k → k ≤ 20 → ∀ j (h : j < l.length), j < i + 1 → l[j].fs.length ≤ 20 := fun k hk hk2 j h hj => by
      by_cases e : j = i
      · subst e; omega
      · exact hall j h (by omega)
    generalize hk : l[i].fs.length = k at *
    by_cases hb : k > 20
    · refine walk ?_
      (first | refine ret1 (v := .bool _) (.inr rfl) rfl rfl ?_ | refine ret1  (.inr rfl) rfl rfl ?_ | refine ret1 (v := .bool _) (.inl rfl) rfl rfl ?_ | refine ret1  (.inl rfl) rfl rfl ?_)
      exact ⟨Ent.refl _, false, rfl, fun h => absurd h (by decide)⟩
    · refine walk ?_
      exact ⟨i + 1, asided, agreed, Ent.refl _, ⟨h1, by omega, hmem k rfl (by omega)⟩, by omega⟩
  · by_cases h1 : i < l.length
    · have h2 : ¬ l.length ≤ most := by omega
      refine walk ?_
      (first | refine ret1 (v := .bool _) (.inr rfl) rfl rfl ?_ | refine ret1  (.inr rfl) rfl rfl ?_ | refine ret1 (v := .bool _) (.inl rfl) rfl rfl ?_ | refine ret1  (.inl rfl) rfl rfl ?_)
      exact ⟨Ent.refl _, false, rfl, fun h => absurd h (by decide)⟩
    · obtain rfl : i = l.length := by omega
      have hA : ∀ a ∈ l, a.fs.length ≤ 20 := fun a ha => by
        obtain ⟨j, hj, e⟩ := List.mem_iff_getElem.1 ha
        rw [← e]
        exact hall j hj hj
      by_cases h2 : l.length ≤ most
      · refine walk ?_
        (first | refine ret1 (v := .bool _) (.inr rfl) rfl rfl ?_ | refine ret1  (.inr rfl) rfl rfl ?_ | refine ret1 (v := .bool _) (.inl rfl) rfl rfl ?_ | refine ret1  (.inl rfl) rfl rfl ?_)
        exact ⟨Ent.refl _, true, rfl, fun _ => ⟨h2, hA⟩⟩
      · refine walk ?_
        (first | refine ret1 (v := .bool _) (.inr rfl) rfl rfl ?_ | refine ret1  (.inr rfl) rfl rfl ?_ | refine ret1 (v := .bool _) (.inl rfl) rfl rfl ?_ | refine ret1  (.inl rfl) rfl rfl ?_)
        exact ⟨Ent.refl _, false, rfl, fun h => absurd h (by decide)⟩
theorem is_spec (T : Tab B) (hA : AInv c) (ht : t < 9223372036854775808) [i : HasAt ClkAt H b c F] (hs : Rd B H 1 s c.laps.length (zs c.laps)) :
    Does Tryd.prog B 18 [.pointer (some ⟨b, 0, none⟩), rC c.now s, .int .i64 t, .int .i64 d] H fun r H' => H' = H ∧ r = .bool true := by
  refine Does.frame0 ?_
  unfold Rd at hs
  obtain ⟨ao, cap, rfl, hsl, hsm, hsa⟩ := hs
  have hn := hA.n
  have hr := hA.r
  unfold rC
  refine fn_intro 85 Tryd.func18 rfl rfl rfl ?_
  refine walk ?_
  refine s_box (cs := [.int .i64 c.now, .slice ao c.laps.length cap]) rfl rfl rfl ?_
  intro b1
  refine walk ?_
  refine wp_loopR (α := Nat) [8, 9, 10, 11, 13, 14, 15, 16, 17, 18, 19, 20, 21, 22, 23, 24, 25, 26, 27, 28, 29, 30, 31, 32, 33, 34, 35, 36, 37, 38, 39, 40, 41, 42, 43] (fun k => [(9, .int .i64 k)]) (fun k => k ≤ 2) (fun k => 2 - k) 0 agreed (by omega) ?_
  rintro k f hk
  simp only [putAll]
  by_cases hk2 : k < 2
  · refine walk ?_
    refine s_call rfl (cLaps (b := b) (c := c) (by omega)) rfl ?_
    rintro v1 _ rfl
    refine WPL.shape ?_
    rintro a1 c1 rfl _ hk1 hkm
    by_cases h0 : c.laps.length = 0
    · refine walk ?_
      refine wp_loopR (α := Unit) [8, 11, 25, 26, 27, 28, 29, 30, 31, 32, 33, 34, 35, 36, 37, 38, 39, 40, 41, 42, 43] (fun k => [(11, .int .i64 0)]) (fun _ => True) (fun _ => 0) () agreed trivial ?_
      rintro _ f2 _
      simp only [putAll]
      refine walk ?_
      exact ⟨k + 1, asided, agreed, Ent.auto, by omega, by omega⟩
    · refine WPL.open (by omega) ?_
      rintro g sp rfl hsp
      refine walk ?_
      refine wp_loopF (α := Nat × List Int) [8, 11, 25, 26, 27, 28, 29, 30, 31, 32, 33, 34, 35, 36, 37, 38, 39, 40, 41, 42, 43] (fun x => [(11, .int .i64 x.1)]) (fun x => blk g (zs x.2 ++ sp) 2 + (blk b1 [.int .i64 c.now, .slice ao c.laps.length cap] 41 + H)) (fun x => x.1 ≤ c.laps.length ∧ x.2.length = c.laps.length ∧ x.2.drop x.1 = c.laps.drop x.1) (fun x => c.laps.length - x.1) (0, c.laps) agreed Ent.auto ⟨Nat.zero_le _, rfl, rfl⟩ ?_
      rintro ⟨j, ys⟩ f2 ⟨hj, hyl, hdr⟩
      simp only at hj hyl hdr
      simp only [putAll]
      by_cases hlt : j < c.laps.length
      · have hjy : j < ys.length := by omega
        have hy : ys[j]'hjy = c.laps[j] := by
          have h1 : (ys.drop j)[0]? = (c.laps.drop j)[0]? := by rw [hdr]
          rw [List.getElem?_drop, List.getElem?_drop, Nat.add_zero, List.getElem?_eq_getElem hjy, List.getElem?_eq_getElem hlt] at h1
          exact Option.some.inj h1
        obtain ⟨bl, o, rfl, hcs⟩ := Rd.addr hsl hsa hlt
        have q1 := hcs.cell (j := j) (v := .int .i64 c.laps[j]) (zs_get _ j hlt)
        have q2 : Cell B (blk g (zs ys ++ sp) 2 + (blk b1 [.int .i64 c.now, .slice (some ⟨bl, o, none⟩) c.laps.length cap] 41 + H)) g j (.int .i64 c.laps[j]) := by
          rw [← hy]
          exact Cell.atZsA hjy
        generalize c.laps[j] = y at *
        refine walk ?_
        (refine wp_draw [] (.look 0 (.look 1 (.look 2 (.look 3 (.look 4 (.look 5 (.look 6 (.look 7 (.look 8 (.look 9 .nil)))))))))) (by kernel_rfl) ?_; (apply dw_pure; (· exact rfl); (· exact rfl); (· (intro G; exact looked))); (apply dw_pure; (· exact rfl); (· exact rfl); (· (intro G; exact looked))); (apply dw_pure; (· exact rfl); (· exact rfl); (· (intro G; exact looked))); (apply dw_look; (· exact rfl); (· exact rfl); (· (exact looked))); (apply dw_pure; (· exact rfl); (· exact rfl); (· (intro G; exact looked))); (apply dw_look; (· exact rfl); (· exact rfl); (· (exact looked))); (apply dw_pure; (· exact rfl); (· exact rfl); (· (intro G; exact looked))); (apply dw_pure; (· exact rfl); (· exact rfl); (· (intro G; exact looked))); (apply dw_look; (· exact rfl); (· exact rfl); (· (exact looked))); (apply dw_pure; (· exact rfl); (· exact rfl); (· (intro G; exact looked))); refine dw_nil ?_)
        refine walk ?_
        refine s_store (v := .int .i64 (-77)) (cs' := zs (ys.set j (-77)) ++ sp) rfl rfl rfl (by rw [List.length_append, zs_length]; omega) (by rw [List.set_append_left _ _ (by rw [zs_length]; exact hjy), zs_set]) ?_
        refine walk ?_
        refine ⟨(j + 1, ys.set j (-77)), asided, agreed, Ent.auto, ⟨hlt, by rw [List.length_set]; exact hyl, ?_⟩, by simp only; omega⟩
        simp only
        rw [List.drop_set_of_lt (by omega)]
        have := congrArg List.tail hdr
        rwa [List.tail_drop, List.tail_drop] at this
      · obtain rfl : j = c.laps.length := by omega
        refine walk ?_
        exact ⟨k + 1, asided, agreed, Ent.auto, by omega, by omega⟩
  · refine walk ?_
    refine s_call rfl (rSince (now := c.now) (ao := ao) (m := c.laps.length) (cap := cap) (t := t) hr.2 ht) rfl ?_
    rintro _ _ ⟨e_, rfl⟩
    obtain rfl := e_.symm
    rw [show max 0 (c.now - max 0 t) = sinceC c t by unfold sinceC; rfl]
    obtain ⟨dv, hd⟩ : ∃ dv, decide (d ≤ sinceC c t) = dv := ⟨_, rfl⟩
    obtain ⟨fv, hf⟩ : ∃ fv, decide (c.now = 4611686018427387904) = fv := ⟨_, rfl⟩
    have hd' : decide (sinceC c t ≥ d) = dv := hd
    refine walk ?_
    (refine wp_draw [1, 8, 16, 24, 32, 35] (.look 0 (.look 2 (.look 3 (.act 1 (.look 4 (.look 5 (.look 6 (.look 7 (.look 9 (.act 8 (.look 10 (.look 11 (.look 12 (.look 13 (.look 14 (.look 15 (.look 17 (.look 18 (.look 19 (.act 16 (.look 20 (.look 21 (.look 22 (.look 23 (.look 25 (.look 26 (.look 27 (.act 24 (.look 28 (.look 29 (.look 30 (.look 31 (.look 33 (.look 34 (.act 32 (.act 35 (.look 36 (.look 37 (.look 38 .nil))) .stop) .stop))))))) .stop)))))))) .stop)))))))))) .stop)))))) .stop)))) (by kernel_rfl) ?_; (apply dw_pure; (· exact rfl); (· exact rfl); (· (intro G; exact looked))); (apply dw_pure; (· exact rfl); (· exact rfl); (· (intro G; exact looked))); (apply dw_look; (· exact rfl); (· exact rfl); (· (exact looked))); skip)
    refine dw_do rfl rfl ?_ dw_stop
    refine s_call rfl (cNowE (b := b) (c := c) (x := c.now) rfl) rfl ?_
    rintro _ _ ⟨e_, rfl⟩
    obtain rfl := e_.symm
    refine wpl_nil (qone ⟨(by (refine st_again ?_ ?_; (· exact looked)); exact st_nil), ?_⟩)
    ((apply dw_pure; (· exact rfl); (· exact rfl); (· (intro G; exact looked))); (apply dw_pure; (· exact rfl); (· exact rfl); (· (intro G; exact looked))); (apply dw_pure; (· exact rfl); (· exact rfl); (· (intro G; exact looked))); (apply dw_pure; (· exact rfl); (· exact rfl); (· (intro G; exact looked))); (apply dw_pure; (· exact rfl); (· exact rfl); (· (intro G; exact looked))); skip)
    refine dw_do rfl rfl ?_ dw_stop
    refine step_wanted rfl rfl ?_
    refine s_call rfl (cSince (b := b) (c := c) hr ht) rfl ?_
    rintro _ _ ⟨e_, rfl⟩
    obtain rfl := e_.symm
    refine wpl_nil (qone ⟨(by refine st_past (by kernel_rfl) ?_; exact st_nil), ?_⟩)
    ((apply dw_pure; (· exact rfl); (· exact rfl); (· (intro G; exact looked))); (apply dw_pure; (· exact rfl); (· exact rfl); (· (intro G; exact looked))); (apply dw_pure; (· exact rfl); (· exact rfl); (· (intro G; exact looked))); (apply dw_pure; (· exact rfl); (· exact rfl); (· (intro G; exact looked))); (apply dw_pure; (· exact rfl); (· exact rfl); (· (intro G; exact looked))); (apply dw_pure; (· exact rfl); (· exact rfl); (· (intro G; exact looked))); (apply dw_pure; (· exact rfl); (· exact rfl); (· (intro G; exact looked))); (apply dw_pure; (· exact rfl); (· exact rfl); (· (intro G; exact looked))); (apply dw_pure; (· exact rfl); (· exact rfl); (· (intro G; (first | (refine step_wanted rfl rfl ?_; refine s_geq rfl rfl (hd') rfl ?_) | skip); exact looked))); skip)
    refine dw_do rfl rfl ?_ dw_stop
    refine step_wanted rfl rfl ?_
    refine s_call rfl (cDueE (b := b) (c := c) hd hr ht) rfl ?_
    rintro _ _ ⟨e_, rfl⟩
    obtain rfl := e_.symm
    refine wpl_nil (qone ⟨(by refine st_past (by kernel_rfl) ?_; exact st_nil), ?_⟩)
    ((apply dw_pure; (· exact rfl); (· exact rfl); (· (intro G; (first | (refine step_wanted rfl rfl ?_; refine s_eqbool rfl rfl (b := true) (by simp) rfl ?_) | skip); exact looked))); (apply dw_pure; (· exact rfl); (· exact rfl); (· (intro G; exact looked))); (apply dw_pure; (· exact rfl); (· exact rfl); (· (intro G; exact looked))); (apply dw_pure; (· exact rfl); (· exact rfl); (· (intro G; exact looked))); (apply dw_pure; (· exact rfl); (· exact rfl); (· (intro G; exact looked))); (apply dw_look; (· exact rfl); (· exact rfl); (· (exact looked))); (apply dw_pure; (· exact rfl); (· exact rfl); (· (intro G; (first | (refine step_wanted rfl rfl ?_; refine s_eql rfl rfl hf rfl ?_) | skip); exact looked))); skip)
    refine dw_do rfl rfl ?_ dw_stop
    refine step_wanted rfl rfl ?_
    refine s_call rfl (cFullE (b := b) (c := c) hf) rfl ?_
    rintro _ _ ⟨e_, rfl⟩
    obtain rfl := e_.symm
    refine wpl_nil (qone ⟨(by (refine st_again ?_ ?_; (· exact looked)); refine st_past (by kernel_rfl) ?_; exact st_nil), ?_⟩)
    ((apply dw_pure; (· exact rfl); (· exact rfl); (· (intro G; (first | (refine step_wanted rfl rfl ?_; refine s_eqbool rfl rfl (b := true) (by simp) rfl ?_) | skip); exact looked))); (apply dw_pure; (· exact rfl); (· exact rfl); (· (intro G; exact looked))); (apply dw_pure; (· exact rfl); (· exact rfl); (· (intro G; exact looked))); (apply dw_pure; (· exact rfl); (· exact rfl); (· (intro G; exact looked))); (apply dw_pure; (· exact rfl); (· exact rfl); (· (intro G; exact looked))); (apply dw_look; (· exact rfl); (· exact rfl); (· (exact looked))); skip)
    refine dw_do rfl rfl ?_ dw_stop
    refine step_wanted rfl rfl ?_
    refine s_call rfl (cText T (b := b) (c := c)) rfl ?_
    rintro _ _ ⟨e_, rfl⟩
    obtain rfl := e_.symm
    refine wpl_nil (qone ⟨(by (refine st_again ?_ ?_; (· exact looked)); refine st_past (by kernel_rfl) ?_; refine st_past (by kernel_rfl) ?_; exact st_nil), ?_⟩)
    (skip)
    refine dw_do rfl rfl ?_ dw_stop
    refine step_wanted rfl rfl ?_
    refine s_call rfl (rTextP (n := c.now)) rfl ?_
    rintro _ _ ⟨e_, rfl⟩
    obtain rfl := e_.symm
    refine wpl_nil (qone ⟨(by refine st_past (by kernel_rfl) ?_; refine st_past (by kernel_rfl) ?_; refine st_past (by kernel_rfl) ?_; exact st_nil), ?_⟩)
    ((apply dw_pure; (· exact rfl); (· exact rfl); (· (intro G; (first | (refine step_wanted rfl rfl ?_; refine s_eqstr rfl rfl (b := true) (decide_eq_true rfl) rfl ?_) | skip); exact looked))); (apply dw_pure; (· exact rfl); (· exact rfl); (· (intro G; exact looked))); (apply dw_pure; (· exact rfl); (· exact rfl); (· (intro G; exact looked))); refine dw_nil ?_; skip)
    refine walk ?_
    (first | (apply retRD1 (G := H) (.inr rfl) rfl; (· first | (refine rv_tmp (v := .bool _) rfl) | exact rv_tmp rfl); (· exact Ent.auto)) | (apply retRD1 (G := H) (.inl rfl) rfl; (· first | (refine rv_tmp (v := .bool _) rfl) | exact rv_tmp rfl); (· exact Ent.auto)))
    exact ⟨Ent.refl _, rfl⟩
end
end Go.Proofs.YtipbcccjhaommaaDoor
