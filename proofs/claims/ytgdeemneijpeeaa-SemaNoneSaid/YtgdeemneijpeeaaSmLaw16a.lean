/- What the laws on semaphores share. No condition. -/
import Derived.Test.YtgdeemneijpeeaaSmSem5
import Derived.Test.YtgdeemneijpeeaaSmRef16b
namespace Go.Proofs.Ytgdeemneijpeeaa
open Go Go.SL
set_option linter.unusedSimpArgs false
set_option linter.unusedVariables false
set_option maxRecDepth 10000
set_option maxHeartbeats 2000000
attribute [local irreducible] WP WPL QSeq QBlk QRet Does Cell Cells Rd Mine Ent Aside RV Yield SemAt
section
variable {B : World} {F H G : HProp} {p p2 i j b : Nat} {S S' : SemS} {d k g c : Int} {l : List Int} {r r' s u : Value} {xs ys : List Int}
/-- A row against another one; it is written over. -/
theorem row_spec [i : HasOwn H s 3 1 xs.length (zs xs) F] (hu : Rd B F 1 u ys.length (zs ys)) : Does Try.prog B 12 [s, u] H fun r H' => H' = F ∧ r = .bool (decide (xs = ys)) := by
  rw [i.eq]
  refine Does.shape ?_
  rintro ao cap rfl _ hc hm
  have hm' : cap ≤ 9223372036854775807 := by simpa [maxLen] using hm
  refine Does.rd fun rd => ?_
  refine fn_intro 19 Try.func12 rfl rfl rfl ?_
  refine walk ?_
  refine s_call rfl (sameInts_spec (xs := xs) (ys := ys) (rd.ent InH.ent) (hu.ent InH.ent)) rfl ?_
  rintro _ _ ⟨e_, rfl⟩
  obtain rfl := e_.symm
  refine walk ?_
  by_cases he : xs = ys
  · rw [decide_eq_true he]
    refine walk ?_
    refine wp_loopS (α := Nat × List Int) [5, 10, 11, 12, 13, 14, 15, 16, 17, 18] (fun j => [(5, .int .i64 j.1)]) (fun j => Mine 3 1 (.slice ao xs.length cap) xs.length (zs j.2)) (fun j => j.1 ≤ xs.length ∧ j.2.length = xs.length) (fun j => xs.length - j.1) (0, xs) agreed ⟨Nat.zero_le _, rfl⟩ ?_
    rintro ⟨j, ys⟩ g4 ⟨hj, hjl⟩
    simp only at hj hjl
    simp only [putAll]
    by_cases hlt2 : j < xs.length
    · refine WP.open (by omega) ?_
      rintro bo sp rfl hsp
      refine walk ?_
      refine s_store (v := .int _ _) (cs' := zs (ys.set j (-77)) ++ sp) rfl rfl rfl (by simp [zs_length]; omega) ?_ ?_
      · rw [List.set_append_left _ _ (by rw [zs_length]; omega), zs_set]
      refine walk ?_
      refine ⟨(j + 1, ys.set j (-77)), asided, agreed, ?_, ⟨hlt2, by simp [hjl]⟩, by simp only; omega⟩
      refine Ent.step (A := blk bo (zs (ys.set j (-77)) ++ sp) 3) (Mine.of_blk (spare := sp) rfl (by rw [zs_length, List.length_set]; omega) hc hm ?_) (Ent.refl _)
      simpa [zs_length] using hsp
    · refine walk ?_
      exact QRet.ent (Ent.drop_left _ _) (ret1 (v := .bool _) (.inr rfl) rfl rfl ⟨rfl, rfl⟩)
  · rw [decide_eq_false he]
    refine walk ?_
    exact QRet.ent (Ent.drop_left _ _) (ret1 (v := .bool _) (.inr rfl) rfl rfl ⟨rfl, rfl⟩)
theorem row_same [HasOwn H s 3 1 xs.length (zs xs) F] (hu : Rd B F 1 u xs.length (zs xs)) : Does Try.prog B 12 [s, u] H fun r H' => H' = F ∧ r = .bool true := by
  simpa using row_spec (s := s) (xs := xs) hu
theorem sCountNo [HasAt SemAt H p S F] (h : ¬ (0 ≤ k ∧ k < S.length)) : Does Try.prog B 15 [.pointer (some ⟨p, 0, none⟩), .int .i64 k] H fun r H' => H' = H ∧ r = .int .i64 (-1) := by
  have := sCountA (B := B) (H := H) (p := p) (S := S) (k := k)
  by_cases h0 : 0 ≤ k
  · rw [if_pos h0, List.getElem?_eq_none (by omega)] at this
    exact this
  · rw [if_neg h0] at this
    exact this
theorem SOk.lok (h : SOk S b) (hb : b ≤ 1000000) : LOk S := fun i l c hs => Nat.le_trans (h.r i l c hs).1 hb
theorem RefS.at {n : Nat} (hr : RefS B G r S) (hs : S[n]? = some (l, c)) : ∃ lo lc bl ol cap, r = .slice (some ⟨bl, ol, none⟩) S.length cap ∧ Cell B G bl (ol + n * 2) (.int .i64 c) ∧ Cell B G bl (ol + n * 2 + 0) (.int .i64 c) ∧ Cell B G bl (ol + n * 2 + 1) (.slice lo l.length lc) ∧ l.length ≤ lc ∧ Rd B G 1 (.slice lo l.length lc) l.length (zs l) := by
  obtain ⟨T, ao, cap, hT, rfl, hcap, hrd, hrow⟩ := hr
  have hTl : T.length = S.length := by rw [← hT, List.length_map]
  have hk := (List.getElem?_eq_some_iff.1 hs).1
  unfold Rd at hrd
  obtain ⟨_, _, e_, hl, hm, ha⟩ := hrd
  cases e_
  obtain ⟨t, ht⟩ : ∃ t, T[n]? = some t := ⟨_, List.getElem?_eq_getElem (by omega)⟩
  have ht1 : t.1 = (l, c) := by
    have : S[n]? = some t.1 := by rw [← hT, List.getElem?_map, ht]; rfl
    rw [hs] at this; exact (Option.some.inj this).symm
  obtain ⟨⟨l', c'⟩, lo, lc⟩ := t
  cases ht1
  obtain ⟨hlc, hlrd⟩ := hrow _ (List.mem_of_getElem? ht)
  obtain ⟨bl, ol, rfl, hcl⟩ : ∃ b o, ao = some ⟨b, o, none⟩ ∧ Cells B G b o (cellsP T) := by
    rcases ha with h | h
    · rw [h] at hl; simp at hl; omega
    · exact h
  have h0 := hcl.cell (j := n * 2) (cellsP_at T n _ ht).1
  exact ⟨lo, lc, bl, ol, cap, rfl, h0, h0, hcl.cell (j := n * 2 + 1) (cellsP_at T n _ ht).2, hlc, hlrd⟩
theorem RefS.sl (hr : RefS B G r S) : ∃ ao cap, r = .slice ao S.length cap := by
  obtain ⟨T, ao, cap, hT, rfl, hcap, hrd, hrow⟩ := hr
  exact ⟨ao, cap, rfl⟩
theorem is_spec [a : HasAt SemAt H p S F] (hr : RefS B G r S) (hE : Ent H G) (hS : SOk S b) (hb : b ≤ 999999) : Does Try.prog B 20 [.pointer (some ⟨p, 0, none⟩), r, .int .i64 g] H fun v H' => H' = H ∧ v = .bool true := by
  have hn := hS.n
  have hlok := hS.lok (by omega)
  obtain ⟨ao, cap, rfl⟩ := hr.sl
  refine fn_intro 87 Try.func20 rfl rfl rfl ?_
  refine walk ?_
  refine s_call rfl (sLenA (p := p) (S := S)) rfl ?_
  rintro _ _ ⟨e_, rfl⟩
  obtain rfl := e_.symm
  refine walk ?_
  refine s_call rfl (sCountNo (p := p) (S := S) (k := -1) (by omega)) rfl ?_
  rintro _ _ ⟨e_, rfl⟩
  obtain rfl := e_.symm
  refine walk ?_
  refine s_call rfl (sCountNo (p := p) (S := S) (k := (S.length : Int)) (by omega)) rfl ?_
  rintro _ _ ⟨e_, rfl⟩
  obtain rfl := e_.symm
  refine walk ?_
  refine s_call rfl (sWaitingNo (p := p) (S := S) (k := (S.length : Int)) (by omega)) rfl ?_
  rintro _ _ ⟨e_, rfl⟩
  obtain rfl := e_.symm
  refine walk ?_
  refine wp_loopR (α := Nat) [6, 7, 8, 37, 38, 39, 40, 41, 42, 43, 44, 45, 46, 47, 48, 49, 50, 51, 52, 53, 54, 55, 56, 57, 58, 59, 60, 61, 62, 63, 64, 65, 66, 67] (fun i => [(7, .int .i64 (i : Nat))]) (fun i => i ≤ S.length) (fun i => S.length - i) 0 agreed (Nat.zero_le _) ?_
  rintro i f hi
  simp only [putAll]
  by_cases hlt : i < S.length
  · obtain ⟨l, c, hs⟩ : ∃ l c, S[i]? = some (l, c) := ⟨_, _, List.getElem?_eq_getElem hlt⟩
    obtain ⟨lo, lc, bl, ol, cap', e_, k0, k1, k2, hlc, hlrd⟩ := hr.at hs
    cases e_
    refine walk ?_
    refine wp_loopR (α := Nat) [6, 8, 43, 44, 45, 46, 47, 48, 49, 50, 51, 52, 53, 54, 55, 56, 57, 58, 59, 60, 61, 62, 63, 64, 65, 66, 67] (fun t => [(8, .int .i64 (t : Nat))]) (fun t => t ≤ 2) (fun t => 2 - t) 0 agreed (Nat.zero_le _) ?_
    rintro t f2 ht
    simp only [putAll]
    have h0 := k0.ent hE
    have h1 := k1.ent hE
    have h2 := k2.ent hE
    by_cases htl : t < 2
    · refine walk ?_
      (refine wp_draw [2, 12, 18] (.look 0 (.look 1 (.look 3 (.look 4 (.look 5 (.look 6 (.look 7 (.act 2 (.look 8 (.look 9 (.look 10 (.look 11 (.look 13 (.look 14 (.look 15 (.look 16 (.look 17 (.act 12 (.act 18 (.look 19 (.look 20 .nil)) .stop) .stop)))))))))) .stop)))))))) (by kernel_rfl) ?_; (apply dw_pure; (· exact rfl); (· exact rfl); (· (intro G; exact looked))); (apply dw_pure; (· exact rfl); (· exact rfl); (· (intro G; exact looked))); (apply dw_pure; (· exact rfl); (· exact rfl); (· (intro G; exact looked))); (apply dw_pure; (· exact rfl); (· exact rfl); (· (intro G; exact looked))); (apply dw_pure; (· exact rfl); (· exact rfl); (· (intro G; exact looked))); (apply dw_pure; (· exact rfl); (· exact rfl); (· (intro G; exact looked))); (apply dw_look; (· exact rfl); (· exact rfl); (· (exact looked))); skip)
      refine dw_do rfl rfl ?_ dw_stop
      refine s_call rfl (sCountI (p := p) (S := S) hs) rfl ?_
      rintro _ _ ⟨e_, rfl⟩
      obtain rfl := e_.symm
      refine wpl_nil (qone ⟨(by (refine st_again ?_ ?_; (· exact looked)); exact st_nil), ?_⟩)
      ((apply dw_pure; (· exact rfl); (· exact rfl); (· (intro G; exact looked))); (apply dw_pure; (· exact rfl); (· exact rfl); (· (intro G; exact looked))); (apply dw_pure; (· exact rfl); (· exact rfl); (· (intro G; exact looked))); (apply dw_pure; (· exact rfl); (· exact rfl); (· (intro G; exact looked))); (apply dw_pure; (· exact rfl); (· exact rfl); (· (intro G; exact looked))); (apply dw_pure; (· exact rfl); (· exact rfl); (· (intro G; exact looked))); (apply dw_pure; (· exact rfl); (· exact rfl); (· (intro G; exact looked))); (apply dw_pure; (· exact rfl); (· exact rfl); (· (intro G; exact looked))); (apply dw_look; (· exact rfl); (· exact rfl); (· (exact looked))); skip)
      refine dw_do rfl rfl ?_ dw_stop
      refine step_wanted rfl rfl ?_
      refine s_call rfl (sWaitingI (p := p) (S := S) hlok hs) rfl ?_
      rintro v _ rfl
      refine wpl_nil (qone ⟨(by (refine st_again ?_ ?_; (· exact looked)); refine st_past (by kernel_rfl) ?_; exact st_nil), ?_⟩)
      (skip)
      refine dw_do rfl rfl ?_ dw_stop
      refine step_wanted rfl rfl ?_
      refine s_call rfl (row_same (s := v) (xs := l) (hlrd.ent hE)) rfl ?_
      rintro _ _ ⟨rfl, rfl⟩
      refine wpl_nil (qone ⟨(by refine st_past (by kernel_rfl) ?_; refine st_past (by kernel_rfl) ?_; exact st_nil), ?_⟩)
      ((apply dw_pure; (· exact rfl); (· exact rfl); (· (intro G; exact looked))); (apply dw_pure; (· exact rfl); (· exact rfl); (· (intro G; exact looked))); refine dw_nil ?_; skip)
      refine walk ?_
      exact ⟨t + 1, asided, agreed, Ent.refl _, htl, by omega⟩
    · refine walk ?_
      exact ⟨i + 1, asided, agreed, Ent.refl _, hlt, by omega⟩
  · refine walk ?_
    refine s_call rfl (sWhereA (p := p) (S := S) (g := g)) rfl ?_
    rintro _ _ ⟨e_, rfl⟩
    obtain rfl := e_.symm
    refine walk ?_
    refine s_call rfl (where16 (g := g) (hr.ent hE) (by omega)) rfl ?_
    rintro _ _ ⟨e_, rfl⟩
    obtain rfl := e_.symm
    refine walk ?_
    cases hw : whereOf S g with
    | none =>
      simp only [Option.getD_none, Option.isSome_none]
      refine walk ?_
      refine s_max2 rfl rfl (r := 0) (by omega) rfl ?_
      refine walk ?_
      (first | refine ret1 (v := .bool _) (.inr rfl) rfl rfl ?_ | refine ret1  (.inr rfl) rfl rfl ?_ | refine ret1 (v := .bool _) (.inl rfl) rfl rfl ?_ | refine ret1  (.inl rfl) rfl rfl ?_)
      exact ⟨rfl, rfl⟩
    | some n =>
      simp only [Option.getD_some, Option.isSome_some]
      refine walk ?_
      refine s_max2 rfl rfl (r := (n : Int)) (by omega) rfl ?_
      refine walk ?_
      (first | refine ret1 (v := .bool _) (.inr rfl) rfl rfl ?_ | refine ret1  (.inr rfl) rfl rfl ?_ | refine ret1 (v := .bool _) (.inl rfl) rfl rfl ?_ | refine ret1  (.inl rfl) rfl rfl ?_)
      exact ⟨rfl, rfl⟩
/-- What a call does. -/
def stepS (S : SemS) (d k g : Int) : SemS := if d = 0 ∨ d = 1 then (acqS S k g).1 else if d = 2 then (relS S k).1 else if d = 3 then leaveS S g else S
theorem does_spec [a : HasAt SemAt H p S F] (hr : RefS B G r S) (hE : Ent F G) (hS : SOk S b) (hb : b ≤ 999999) : Does Try.prog B 19 [.pointer (some ⟨p, 0, none⟩), r, .agg [.int .i64 d, .int .i64 k, .int .i64 g].toArray] H fun v H' =>
    ∃ X u, H' = SemAt p (stepS S d k g) + (X + F) ∧ v = .tuple #[u, .bool true] ∧ RefS B (X + G) u (stepS S d k g) := by
  have hHG : Ent H G := (Ent.of_eq a.eq).trans ((Ent.drop_left _ _).trans hE)
  obtain ⟨ao, cap, rfl⟩ := hr.sl
  refine fn_intro 105 Try.func19 rfl rfl rfl ?_
  refine walk ?_
  refine s_box (cs := [.int .i64 d, .int .i64 k, .int .i64 g]) rfl rfl rfl ?_
  intro b5
  have hE5 : Ent (blk b5 [.int .i64 d, .int .i64 k, .int .i64 g] 31 + H) G := (Ent.drop_left _ _).trans hHG
  by_cases h0 : d = 0 ∨ d = 1
  · have e : stepS S d k g = (acqS S k g).1 := by unfold stepS; rw [if_pos h0]
    rw [e]
    rcases h0 with rfl | rfl
    · skip
      refine walk ?_
      refine s_call rfl (acquire16 (k := k) (g := g) hr hE5 hS hb) rfl ?_
      rintro _ _ ⟨X, u, rfl, rfl, hX⟩
      obtain ⟨au, cu, rfl⟩ := hX.sl
      refine walk ?_
      refine s_call rfl (sAcquireA (p := p) (S := S) (k := k) (g := g)) rfl ?_
      rintro _ _ ⟨rfl, rfl⟩
      refine walk ?_
      (first | (apply retRD2 (G := (SemAt p (acqS S k g).1 + (X + F))) (.inr rfl) rfl; (· first | (refine rv_tmp (v := .slice _ _ _) rfl) | exact rv_tmp rfl); (· first | (refine rv_tmp (v := .bool _) rfl) | exact rv_tmp rfl); (· exact Ent.auto)) | (apply retRD2 (G := (SemAt p (acqS S k g).1 + (X + F))) (.inl rfl) rfl; (· first | (refine rv_tmp (v := .slice _ _ _) rfl) | exact rv_tmp rfl); (· first | (refine rv_tmp (v := .bool _) rfl) | exact rv_tmp rfl); (· exact Ent.auto)))
      exact ⟨X, _, rfl, rfl, hX⟩
    · skip
      refine walk ?_
      refine s_call rfl (acquire16 (k := k) (g := g) hr hE5 hS hb) rfl ?_
      rintro _ _ ⟨X, u, rfl, rfl, hX⟩
      obtain ⟨au, cu, rfl⟩ := hX.sl
      refine walk ?_
      refine s_call rfl (sAcquireA (p := p) (S := S) (k := k) (g := g)) rfl ?_
      rintro _ _ ⟨rfl, rfl⟩
      refine walk ?_
      (first | (apply retRD2 (G := (SemAt p (acqS S k g).1 + (X + F))) (.inr rfl) rfl; (· first | (refine rv_tmp (v := .slice _ _ _) rfl) | exact rv_tmp rfl); (· first | (refine rv_tmp (v := .bool _) rfl) | exact rv_tmp rfl); (· exact Ent.auto)) | (apply retRD2 (G := (SemAt p (acqS S k g).1 + (X + F))) (.inl rfl) rfl; (· first | (refine rv_tmp (v := .slice _ _ _) rfl) | exact rv_tmp rfl); (· first | (refine rv_tmp (v := .bool _) rfl) | exact rv_tmp rfl); (· exact Ent.auto)))
      exact ⟨X, _, rfl, rfl, hX⟩
  · by_cases h2 : d = 2
    · subst h2
      have e : stepS S 2 k g = (relS S k).1 := rfl
      rw [e]
      refine walk ?_
      refine s_call rfl (release16 (k := k) hr hE5 hS hb) rfl ?_
      rintro _ _ ⟨X, u, rfl, rfl, hX⟩
      obtain ⟨au, cu, rfl⟩ := hX.sl
      refine walk ?_
      refine s_call rfl (sReleaseA (p := p) (S := S) (k := k)) rfl ?_
      rintro _ _ ⟨rfl, rfl⟩
      refine walk ?_
      (first | (apply retRD2 (G := (SemAt p (relS S k).1 + (X + F))) (.inr rfl) rfl; (· first | (refine rv_tmp (v := .slice _ _ _) rfl) | exact rv_tmp rfl); (· first | (refine rv_tmp (v := .bool _) rfl) | exact rv_tmp rfl); (· exact Ent.auto)) | (apply retRD2 (G := (SemAt p (relS S k).1 + (X + F))) (.inl rfl) rfl; (· first | (refine rv_tmp (v := .slice _ _ _) rfl) | exact rv_tmp rfl); (· first | (refine rv_tmp (v := .bool _) rfl) | exact rv_tmp rfl); (· exact Ent.auto)))
      exact ⟨X, _, rfl, rfl, hX⟩
    · by_cases h3 : d = 3
      · subst h3
        have e : stepS S 3 k g = leaveS S g := rfl
        rw [e]
        refine walk ?_
        refine s_call rfl (leave16 (g := g) hr hE5 hS hb) rfl ?_
        rintro _ _ ⟨X, u, rfl, rfl, hX⟩
        obtain ⟨au, cu, rfl⟩ := hX.sl
        refine walk ?_
        refine s_call rfl (sLeaveA (p := p) (S := S) (g := g)) rfl ?_
        rintro _ _ ⟨rfl, rfl⟩
        refine walk ?_
        (first | (apply retRD2 (G := (SemAt p (leaveS S g) + (X + F))) (.inr rfl) rfl; (· first | (refine rv_tmp (v := .slice _ _ _) rfl) | exact rv_tmp rfl); (· first | (refine rv_tmp (v := .bool _) rfl) | exact rv_tmp rfl); (· exact Ent.auto)) | (apply retRD2 (G := (SemAt p (leaveS S g) + (X + F))) (.inl rfl) rfl; (· first | (refine rv_tmp (v := .slice _ _ _) rfl) | exact rv_tmp rfl); (· first | (refine rv_tmp (v := .bool _) rfl) | exact rv_tmp rfl); (· exact Ent.auto)))
        exact ⟨X, _, rfl, rfl, hX⟩
      · have e : stepS S d k g = S := by unfold stepS; rw [if_neg h0, if_neg h2, if_neg h3]
        rw [e]
        have e0 : d ≠ 0 := fun e => h0 (.inl e)
        have e1 : d ≠ 1 := fun e => h0 (.inr e)
        refine walk ?_
        refine QRet.ent (G := SemAt p S + (emp + F)) ?_ ?_
        · rw [HProp.emp_add]
          exact (Ent.drop_left _ _).trans (Ent.of_eq a.eq)
        (first | refine ret2 (v := .slice _ _ _) (x := .bool _) (.inr rfl) rfl rfl rfl ?_ | refine ret2  (.inr rfl) rfl rfl rfl ?_ | refine ret2 (v := .slice _ _ _) (x := .bool _) (.inl rfl) rfl rfl rfl ?_ | refine ret2  (.inl rfl) rfl rfl rfl ?_)
        exact ⟨emp, _, rfl, rfl, hr.emp⟩
theorem same_spec (hr : RefS B H r S) (hr' : RefS B H r' S') (hS : S.length ≤ 1000000) : Does Try.prog B 22 [r, r'] H fun v H' => H' = H ∧ v = .bool (decide (S = S')) := by
  obtain ⟨ao, cap, rfl⟩ := hr.sl
  obtain ⟨ao', cap', rfl⟩ := hr'.sl
  refine fn_intro 42 Try.func22 rfl rfl rfl ?_
  by_cases hlen : S.length = S'.length
  · refine walk ?_
    refine wp_loopR (α := Nat) [4, 5, 11, 12, 13, 14, 15, 16, 17, 18, 19, 20, 21, 22, 23, 24, 25, 26, 27, 28, 29, 30, 31, 32, 33, 34, 35, 36, 37, 38, 39, 40, 41] (fun i => [(5, .int .i64 (i : Nat))]) (fun i => i ≤ S.length ∧ S.take i = S'.take i) (fun i => S.length - i) 0 agreed ⟨Nat.zero_le _, rfl⟩ ?_
    rintro i f ⟨hi, hpre⟩
    simp only [putAll]
    by_cases hlt : i < S.length
    · obtain ⟨l, c, hs⟩ : ∃ l c, S[i]? = some (l, c) := ⟨_, _, List.getElem?_eq_getElem hlt⟩
      obtain ⟨l', c', hs'⟩ : ∃ l c, S'[i]? = some (l, c) := ⟨_, _, List.getElem?_eq_getElem (by omega)⟩
      have hne : (l, c) ≠ (l', c') → S ≠ S' := fun h e => by rw [e, hs'] at hs; exact h (Option.some.inj hs).symm
      have hlk : S[i] = (l, c) := by have := hs; rw [List.getElem?_eq_getElem hlt] at this; exact Option.some.inj this
      have hlk' : S'[i]'(by omega) = (l', c') := by have := hs'; rw [List.getElem?_eq_getElem (by omega)] at this; exact Option.some.inj this
      obtain ⟨lo, lc, bl, ol, _, e_, k0, k1, k2, hlc, hlrd⟩ := hr.at hs
      cases e_
      obtain ⟨lo', lc', bl', ol', _, e_, k0', k1', k2', hlc', hlrd'⟩ := hr'.at hs'
      cases e_
      by_cases hc : c = c'
      · subst hc
        by_cases hl : l = l'
        · have hd : decide (l = l') = true := decide_eq_true hl
          refine walk ?_
          (refine wp_draw [22] (.look 0 (.look 1 (.look 2 (.look 3 (.look 4 (.look 5 (.look 6 (.look 7 (.look 8 (.look 9 (.look 10 (.look 11 (.look 12 (.look 13 (.look 14 (.look 15 (.look 16 (.look 17 (.look 18 (.look 19 (.look 20 (.look 21 (.act 22 (.look 23 (.look 24 .nil)) .stop))))))))))))))))))))))) (by kernel_rfl) ?_; (apply dw_pure; (· exact rfl); (· exact rfl); (· (intro G; exact looked))); (apply dw_pure; (· exact rfl); (· exact rfl); (· (intro G; exact looked))); (apply dw_pure; (· exact rfl); (· exact rfl); (· (intro G; exact looked))); (apply dw_pure; (· exact rfl); (· exact rfl); (· (intro G; exact looked))); (apply dw_look; (· exact rfl); (· exact rfl); (· (exact looked))); (apply dw_pure; (· exact rfl); (· exact rfl); (· (intro G; exact looked))); (apply dw_pure; (· exact rfl); (· exact rfl); (· (intro G; exact looked))); (apply dw_pure; (· exact rfl); (· exact rfl); (· (intro G; exact looked))); (apply dw_pure; (· exact rfl); (· exact rfl); (· (intro G; exact looked))); (apply dw_look; (· exact rfl); (· exact rfl); (· (exact looked))); (apply dw_pure; (· exact rfl); (· exact rfl); (· (intro G; exact looked))); (apply dw_pure; (· exact rfl); (· exact rfl); (· (intro G; exact looked))); (apply dw_pure; (· exact rfl); (· exact rfl); (· (intro G; exact looked))); (apply dw_pure; (· exact rfl); (· exact rfl); (· (intro G; exact looked))); (apply dw_pure; (· exact rfl); (· exact rfl); (· (intro G; exact looked))); (apply dw_pure; (· exact rfl); (· exact rfl); (· (intro G; exact looked))); (apply dw_look; (· exact rfl); (· exact rfl); (· (exact looked))); (apply dw_pure; (· exact rfl); (· exact rfl); (· (intro G; exact looked))); (apply dw_pure; (· exact rfl); (· exact rfl); (· (intro G; exact looked))); (apply dw_pure; (· exact rfl); (· exact rfl); (· (intro G; exact looked))); (apply dw_pure; (· exact rfl); (· exact rfl); (· (intro G; exact looked))); (apply dw_look; (· exact rfl); (· exact rfl); (· (exact looked))); skip)
          refine dw_do rfl rfl ?_ dw_stop
          refine step_wanted rfl rfl ?_
          refine s_call rfl (sameInts_spec hlrd hlrd') rfl ?_
          rintro _ _ ⟨e_, rfl⟩
          obtain rfl := e_.symm
          rw [hd]
          refine wpl_nil (qone ⟨(by refine st_past (by kernel_rfl) ?_; refine st_past (by kernel_rfl) ?_; refine st_past (by kernel_rfl) ?_; refine st_past (by kernel_rfl) ?_; exact st_nil), ?_⟩)
          ((apply dw_pure; (· exact rfl); (· exact rfl); (· (intro G; exact looked))); (apply dw_pure; (· exact rfl); (· exact rfl); (· (intro G; exact looked))); refine dw_nil ?_; skip)
          refine walk ?_
          exact ⟨i + 1, asided, agreed, Ent.refl _, ⟨hlt, take_next hlt (by omega) hpre (by rw [hlk, hlk', hl])⟩, by omega⟩
        · have hd : decide (l = l') = false := decide_eq_false hl
          refine walk ?_
          (refine wp_draw [22] (.look 0 (.look 1 (.look 2 (.look 3 (.look 4 (.look 5 (.look 6 (.look 7 (.look 8 (.look 9 (.look 10 (.look 11 (.look 12 (.look 13 (.look 14 (.look 15 (.look 16 (.look 17 (.look 18 (.look 19 (.look 20 (.look 21 (.act 22 (.look 23 (.look 24 .nil)) .stop))))))))))))))))))))))) (by kernel_rfl) ?_; (apply dw_pure; (· exact rfl); (· exact rfl); (· (intro G; exact looked))); (apply dw_pure; (· exact rfl); (· exact rfl); (· (intro G; exact looked))); (apply dw_pure; (· exact rfl); (· exact rfl); (· (intro G; exact looked))); (apply dw_pure; (· exact rfl); (· exact rfl); (· (intro G; exact looked))); (apply dw_look; (· exact rfl); (· exact rfl); (· (exact looked))); (apply dw_pure; (· exact rfl); (· exact rfl); (· (intro G; exact looked))); (apply dw_pure; (· exact rfl); (· exact rfl); (· (intro G; exact looked))); (apply dw_pure; (· exact rfl); (· exact rfl); (· (intro G; exact looked))); (apply dw_pure; (· exact rfl); (· exact rfl); (· (intro G; exact looked))); (apply dw_look; (· exact rfl); (· exact rfl); (· (exact looked))); (apply dw_pure; (· exact rfl); (· exact rfl); (· (intro G; exact looked))); (apply dw_pure; (· exact rfl); (· exact rfl); (· (intro G; exact looked))); (apply dw_pure; (· exact rfl); (· exact rfl); (· (intro G; exact looked))); (apply dw_pure; (· exact rfl); (· exact rfl); (· (intro G; exact looked))); (apply dw_pure; (· exact rfl); (· exact rfl); (· (intro G; exact looked))); (apply dw_pure; (· exact rfl); (· exact rfl); (· (intro G; exact looked))); (apply dw_look; (· exact rfl); (· exact rfl); (· (exact looked))); (apply dw_pure; (· exact rfl); (· exact rfl); (· (intro G; exact looked))); (apply dw_pure; (· exact rfl); (· exact rfl); (· (intro G; exact looked))); (apply dw_pure; (· exact rfl); (· exact rfl); (· (intro G; exact looked))); (apply dw_pure; (· exact rfl); (· exact rfl); (· (intro G; exact looked))); (apply dw_look; (· exact rfl); (· exact rfl); (· (exact looked))); skip)
          refine dw_do rfl rfl ?_ dw_stop
          refine step_wanted rfl rfl ?_
          refine s_call rfl (sameInts_spec hlrd hlrd') rfl ?_
          rintro _ _ ⟨e_, rfl⟩
          obtain rfl := e_.symm
          rw [hd]
          refine wpl_nil (qone ⟨(by refine st_past (by kernel_rfl) ?_; refine st_past (by kernel_rfl) ?_; refine st_past (by kernel_rfl) ?_; refine st_past (by kernel_rfl) ?_; exact st_nil), ?_⟩)
          ((apply dw_pure; (· exact rfl); (· exact rfl); (· (intro G; exact looked))); (apply dw_pure; (· exact rfl); (· exact rfl); (· (intro G; exact looked))); refine dw_nil ?_; skip)
          refine walk ?_
          (first | refine ret1 (v := .bool _) (.inr rfl) rfl rfl ?_ | refine ret1  (.inr rfl) rfl rfl ?_ | refine ret1 (v := .bool _) (.inl rfl) rfl rfl ?_ | refine ret1  (.inl rfl) rfl rfl ?_)
          exact ⟨rfl, by rw [decide_eq_false (hne fun e => hl (congrArg Prod.fst e))]⟩
      · refine walk ?_
        (refine wp_draw [22] (.look 0 (.look 1 (.look 2 (.look 3 (.look 4 (.look 5 (.look 6 (.look 7 (.look 8 (.look 9 (.look 10 (.look 11 (.look 12 (.look 13 (.look 14 (.look 15 (.look 16 (.look 17 (.look 18 (.look 19 (.look 20 (.look 21 (.act 22 (.look 23 (.look 24 .nil)) .stop))))))))))))))))))))))) (by kernel_rfl) ?_; (apply dw_pure; (· exact rfl); (· exact rfl); (· (intro G; exact looked))); (apply dw_pure; (· exact rfl); (· exact rfl); (· (intro G; exact looked))); (apply dw_pure; (· exact rfl); (· exact rfl); (· (intro G; exact looked))); (apply dw_pure; (· exact rfl); (· exact rfl); (· (intro G; exact looked))); (apply dw_look; (· exact rfl); (· exact rfl); (· (exact looked))); (apply dw_pure; (· exact rfl); (· exact rfl); (· (intro G; exact looked))); (apply dw_pure; (· exact rfl); (· exact rfl); (· (intro G; exact looked))); (apply dw_pure; (· exact rfl); (· exact rfl); (· (intro G; exact looked))); (apply dw_pure; (· exact rfl); (· exact rfl); (· (intro G; exact looked))); (apply dw_look; (· exact rfl); (· exact rfl); (· (exact looked))); (apply dw_pure; (· exact rfl); (· exact rfl); (· (intro G; exact looked))); (apply dw_pure; (· exact rfl); (· exact rfl); (· (intro G; exact looked))); (apply dw_pure; (· exact rfl); (· exact rfl); (· (intro G; exact looked))); (apply dw_pure; (· exact rfl); (· exact rfl); (· (intro G; exact looked))); (apply dw_pure; (· exact rfl); (· exact rfl); (· (intro G; exact looked))); (apply dw_pure; (· exact rfl); (· exact rfl); (· (intro G; exact looked))); (apply dw_look; (· exact rfl); (· exact rfl); (· (exact looked))); (apply dw_pure; (· exact rfl); (· exact rfl); (· (intro G; exact looked))); (apply dw_pure; (· exact rfl); (· exact rfl); (· (intro G; exact looked))); (apply dw_pure; (· exact rfl); (· exact rfl); (· (intro G; exact looked))); (apply dw_pure; (· exact rfl); (· exact rfl); (· (intro G; exact looked))); (apply dw_look; (· exact rfl); (· exact rfl); (· (exact looked))); skip)
        refine dw_do rfl rfl ?_ dw_stop
        (first | refine step_unwanted rfl rfl rfl rfl ?_ | refine step_unwantedU rfl rfl rfl ?_ | refine step_unwanted0 rfl rfl rfl ?_ | refine step_unwantedU0 rfl rfl ?_)
        refine wpl_nil (qone ⟨(by refine st_past (by kernel_rfl) ?_; refine st_past (by kernel_rfl) ?_; refine st_past (by kernel_rfl) ?_; refine st_past (by kernel_rfl) ?_; exact st_nil), ?_⟩)
        ((apply dw_pure; (· exact rfl); (· exact rfl); (· (intro G; exact looked))); (apply dw_pure; (· exact rfl); (· exact rfl); (· (intro G; exact looked))); refine dw_nil ?_; skip)
        refine walk ?_
        (first | refine ret1 (v := .bool _) (.inr rfl) rfl rfl ?_ | refine ret1  (.inr rfl) rfl rfl ?_ | refine ret1 (v := .bool _) (.inl rfl) rfl rfl ?_ | refine ret1  (.inl rfl) rfl rfl ?_)
        exact ⟨rfl, by rw [decide_eq_false (hne fun e => hc (congrArg Prod.snd e))]⟩
    · have heq : S = S' := take_eq_of (show S.length = i by omega) hlen hpre
      refine walk ?_
      (first | refine ret1 (v := .bool _) (.inr rfl) rfl rfl ?_ | refine ret1  (.inr rfl) rfl rfl ?_ | refine ret1 (v := .bool _) (.inl rfl) rfl rfl ?_ | refine ret1  (.inl rfl) rfl rfl ?_)
      exact ⟨rfl, by rw [decide_eq_true heq]⟩
  · refine walk ?_
    (first | refine ret1 (v := .bool _) (.inr rfl) rfl rfl ?_ | refine ret1  (.inr rfl) rfl rfl ?_ | refine ret1 (v := .bool _) (.inl rfl) rfl rfl ?_ | refine ret1  (.inl rfl) rfl rfl ?_)
    exact ⟨rfl, by rw [decide_eq_false fun e => hlen (by rw [e])]⟩
theorem sAcquireE {b : Bool} {n : Int} (e : acqS S k g = (S', b, n)) [HasAt SemAt H p S F] : Does Try.prog B 11 [.pointer (some ⟨p, 0, none⟩), .int .i64 k, .int .i64 g] H fun r H' => H' = SemAt p S' + F ∧ r = .tuple #[.bool b, .int .i64 n] := by
  have := sAcquireA (B := B) (H := H) (p := p) (S := S) (k := k) (g := g)
  rwa [e] at this
theorem sReleaseE {b : Bool} {n h : Int} (e : relS S k = (S', h, b, n)) [HasAt SemAt H p S F] : Does Try.prog B 13 [.pointer (some ⟨p, 0, none⟩), .int .i64 k] H fun r H' => H' = SemAt p S' + F ∧ r = .tuple #[.int .i64 h, .bool b, .int .i64 n] := by
  have := sReleaseA (B := B) (H := H) (p := p) (S := S) (k := k)
  rwa [e] at this
theorem works_spec : Does Try.prog B 7 [] H fun r H' => H' = H ∧ r = .bool true := by
  have e1 : acqS [([], 1), ([], 1)] 0 7 = ([([], 0), ([], 1)], true, 0) := by decide
  have e2 : acqS [([], 0), ([], 1)] 0 8 = ([([8], 0), ([], 1)], false, 0) := by decide
  have e3 : acqS [([8], 0), ([], 1)] 0 9 = ([([8, 9], 0), ([], 1)], false, 0) := by decide
  have e4 : acqS [([8, 9], 0), ([], 1)] 1 8 = ([([8, 9], 0), ([], 1)], false, 140) := by decide
  have e5 : relS [([8, 9], 0), ([], 1)] 0 = ([([9], 0), ([], 1)], 8, true, 0) := by decide
  have e6 : relS [([9], 0), ([], 1)] 0 = ([([], 0), ([], 1)], 9, true, 0) := by decide
  have e7 : relS [([], 0), ([], 1)] 0 = ([([], 1), ([], 1)], 0, false, 0) := by decide
  refine fn_intro 108 Try.func7 rfl rfl rfl ?_
  refine walk ?_
  refine s_call rfl (sNew (n := 2) (c := 1) (by omega) (by omega) (by omega)) rfl ?_
  rintro _ _ ⟨p, rfl, rfl⟩
  rw [show newS (2 : Int).toNat 1 = [([], 1), ([], 1)] from rfl]
  refine walk ?_
  refine s_call rfl (sAcquireE (p := p) e1) rfl ?_
  rintro _ _ ⟨rfl, rfl⟩
  refine walk ?_
  refine s_call rfl (sAcquireE (p := p) e2) rfl ?_
  rintro _ _ ⟨rfl, rfl⟩
  refine walk ?_
  refine s_call rfl (sAcquireE (p := p) e3) rfl ?_
  rintro _ _ ⟨rfl, rfl⟩
  refine walk ?_
  refine s_call rfl (sAcquireE (p := p) e4) rfl ?_
  rintro _ _ ⟨rfl, rfl⟩
  refine walk ?_
  refine s_call rfl (sReleaseE (p := p) e5) rfl ?_
  rintro _ _ ⟨rfl, rfl⟩
  refine walk ?_
  refine s_call rfl (sReleaseE (p := p) e6) rfl ?_
  rintro _ _ ⟨rfl, rfl⟩
  refine walk ?_
  refine s_call rfl (sReleaseE (p := p) e7) rfl ?_
  rintro _ _ ⟨rfl, rfl⟩
  refine walk ?_
  refine s_call rfl (sCountI (p := p) (S := [([], 1), ([], 1)]) (i := 0) (l := []) (c := 1) rfl) rfl ?_
  rintro _ _ ⟨rfl, rfl⟩
  refine walk ?_
  (first | (apply retRD1 (G := H) (.inr rfl) rfl; (· first | (refine rv_tmp (v := .bool _) rfl) | exact rv_tmp rfl); (· exact Ent.auto)) | (apply retRD1 (G := H) (.inl rfl) rfl; (· first | (refine rv_tmp (v := .bool _) rfl) | exact rv_tmp rfl); (· exact Ent.auto)))
  exact ⟨rfl, rfl⟩
end
end Go.Proofs.Ytgdeemneijpeeaa
