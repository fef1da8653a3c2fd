/- The document's answer, walked: rows that nobody writes to. No condition. -/
import Derived.Test.YtcnpcmdcbafaeaaDLaw0
namespace Go.Proofs.Ytcnpcmdcbafaeaa
open Go Go.SL
set_option linter.unusedSimpArgs false
set_option linter.unusedVariables false
set_option maxRecDepth 10000
set_option maxHeartbeats 2000000
attribute [local irreducible] WP WPL QSeq QBlk QRet Does Cell Cells Rd Mine Ent Aside RV DqX DqAt Yield
/-- A deque of the document: its room and its row. -/
def RefQ (B : World) (G : HProp) (r : Value) (q : Int) (L : List Int) : Prop :=
  ∃ ao cap, r = .agg [.int .i64 q, .slice ao L.length cap].toArray ∧ L.length ≤ cap ∧ cap ≤ 9223372036854775807 ∧ Rd B G 1 (.slice ao L.length cap) L.length (zs L)
theorem RefQ.ent {B : World} {G H : HProp} {r : Value} {q : Int} {L : List Int} (h : RefQ B G r q L) (e : Ent H G) : RefQ B H r q L := by
  obtain ⟨ao, cap, h1, h2, h3, h4⟩ := h
  exact ⟨ao, cap, h1, h2, h3, h4.ent e⟩
section
variable {B : World} {F H G : HProp} {p : Nat} {x y L : List Int} {q g : Int} {r : Value}
theorem join_spec {a b : Value} (ha : Rd B H 1 a x.length (zs x)) (hb : Rd B H 1 b y.length (zs y)) (h1 : x.length ≤ 1000000) (h2 : y.length ≤ 1000000) :
    Does Try.prog B 38 [a, b] H fun r H' => H' = Mine 3 1 r (x ++ y).length (zs (x ++ y)) + H := by
  refine fn_intro 12 Try.func38 rfl rfl rfl ?_
  refine walk ?_
  refine WPL.ent (Ent.ac (show _ = Mine 3 1 (.slice none 0 0) 0 [] + H by rw [Mine.nil, HProp.emp_add])) ?_
  refine s_append (v := .slice none 0 0) rfl rfl ha.sub (zs_one _) rfl ?_ rfl ?_
  · simp only [maxLen]; omega
  intro v1
  simp only [Nat.zero_add, List.nil_append]
  refine walk ?_
  refine s_append (v := v1) rfl rfl hb.sub (zs_one _) rfl ?_ rfl ?_
  · simp only [maxLen]; omega
  intro v2
  rw [← zs_append, ← List.length_append]
  refine walk ?_
  exact ret1 (.inr rfl) rfl rfl rfl
theorem ahead_first {k : Nat} (hk : k < L.length) (hn : g ∉ L.take k) (he : L[k] = g) : ahead g L = k := by
  have e : L = L.take k ++ g :: L.drop (k + 1) := by rw [← he, ← List.drop_eq_getElem_cons hk, List.take_append_drop]
  have := aheadFrom_at (g := g) (L.take k) (L.drop (k + 1)) 0 hn
  rw [← e] at this
  unfold ahead
  rw [this, List.length_take]
  omega
theorem rAhead (hr : RefQ B H r q L) : Does Try.prog B 44 [r, .int .i64 g] H fun r H' => H' = H ∧ r = .int .i64 (ahead g L) := by
  obtain ⟨ao, cap, rfl, hc, hm, hs⟩ := hr
  unfold Rd at hs
  obtain ⟨_, _, hv, hl, _, ha⟩ := hs
  cases hv
  refine Does.frame0 ?_
  refine fn_intro 21 Try.func44 rfl rfl rfl ?_
  refine walk ?_
  refine s_box (cs := [.int .i64 q, .slice ao L.length cap]) rfl rfl rfl ?_
  intro b1
  refine walk ?_
  refine wp_loopR (α := Nat) [4, 5, 6, 7, 8, 9, 10, 11, 12, 13, 14, 15, 16, 17, 18, 19, 20] (fun k => [(5, .int .i64 k)]) (fun k => k ≤ L.length ∧ g ∉ L.take k) (fun k => L.length - k) 0 agreed ⟨Nat.zero_le _, by simp⟩ ?_
  rintro k g0 ⟨hk, hn⟩
  simp only [putAll]
  by_cases hlt : k < L.length
  · obtain ⟨bl, ol, rfl, hcl⟩ := Rd.addr hl ha hlt
    by_cases he : L[k] = g
    · refine walk ?_
      refine QRet.ent (Ent.drop_left _ _) (ret1 (v := .int _ _) (.inr rfl) rfl rfl ⟨Ent.refl _, ?_⟩)
      rw [ahead_first hlt hn he]
    · refine walk ?_
      refine ⟨k + 1, asided, agreed, Ent.refl _, ⟨hlt, ?_⟩, by omega⟩
      rw [List.take_succ_eq_append_getElem hlt, List.mem_append, List.mem_singleton]
      rintro (h | h)
      · exact hn h
      · exact he h.symm
  · refine walk ?_
    refine QRet.ent (Ent.drop_left _ _) (ret1 (v := .int _ _) (.inr rfl) rfl rfl ⟨Ent.refl _, ?_⟩)
    rw [List.take_of_length_le (by omega)] at hn
    unfold ahead
    rw [aheadFrom_none L 0 hn]
theorem rGet (hr : RefQ B G r q L) [InH G H] : Does Try.prog B 41 [r] H fun v H' => H' = H ∧
    ((L = [] ∧ v = .tuple #[r, .int .i64 0, .bool false]) ∨ ∃ y l r', L = y :: l ∧ v = .tuple #[r', .int .i64 y, .bool true] ∧ RefQ B G r' q l) := by
  obtain ⟨ao, cap, rfl, hc, hm, hs⟩ := hr
  have hs' := hs
  unfold Rd at hs'
  obtain ⟨_, _, hv, hl, _, ha⟩ := hs'
  cases hv
  refine Does.weak (R := fun v H' => Ent H' H ∧ ((L = [] ∧ v = .tuple #[.agg [.int .i64 q, .slice ao L.length cap].toArray, .int .i64 0, .bool false]) ∨ ∃ y l r', L = y :: l ∧ v = .tuple #[r', .int .i64 y, .bool true] ∧ RefQ B G r' q l)) ?_ fun v H1 ⟨e, hv⟩ => ⟨H, e, rfl, hv⟩
  refine fn_intro 20 Try.func41 rfl rfl rfl ?_
  refine walk ?_
  refine s_box (cs := [.int .i64 q, .slice ao L.length cap]) rfl rfl rfl ?_
  intro b1
  refine s_alloc rfl ?_
  intro b2
  cases L with
  | nil =>
    simp only [List.length_nil]
    refine walk ?_
    refine s_storeA (vs := [.int .i64 q, .slice ao 0 cap]) rfl rfl rfl rfl (Nat.le_refl _) rfl ?_
    refine walk ?_
    exact retR3 (.inr rfl) rfl (rv_cellA rfl Cells.blk0 rfl) (rv_tmp (v := .int _ _) rfl) (rv_tmp (v := .bool _) rfl) ⟨Ent.auto, .inl ⟨trivial, rfl⟩⟩
  | cons y l =>
    simp only [List.length_cons]
    simp only [List.length_cons] at hc
    obtain ⟨bl, ol, rfl, hcl⟩ := Rd.addr hl ha (show 0 < (y :: l).length by simp)
    have hcell := hcl.cell (zs_get (y :: l) 0 (by simp))
    rw [Nat.add_zero] at hcell
    refine walk ?_
    (refine wp_draw [10] (.look 0 (.look 1 (.look 2 (.look 3 (.look 4 (.look 5 (.look 6 (.look 7 (.look 8 (.look 9 (.act 10 (.look 11 (.look 12 .nil)) .stop))))))))))) (by kernel_rfl) ?_; (apply dw_pure; (· exact rfl); (· exact rfl); (· (intro G; exact looked))); (apply dw_look; (· exact rfl); (· exact rfl); (· exact looked)); (apply dw_pure; (· exact rfl); (· exact rfl); (· (intro G; exact looked))); (apply dw_look; (· exact rfl); (· exact rfl); (· exact looked)); (apply dw_pure; (· exact rfl); (· exact rfl); (· (intro G; (apply s_sliceL (l := 1); (· exact rfl); (· exact rfl); (· omega); (· omega); (· exact rfl)); exact looked))); (apply dw_pure; (· exact rfl); (· exact rfl); (· (intro G; refine s_build (cs := [.int .i64 q, .slice (partAddr (some ⟨bl, ol, none⟩) cap 1 1) (l.length + 1 - 1) (cap - 1)]) rfl rfl ?_; exact looked))); (apply dw_pure; (· exact rfl); (· exact rfl); (· (intro G; exact looked))); (apply dw_look; (· exact rfl); (· exact rfl); (· exact looked)); (apply dw_pure; (· exact rfl); (· exact rfl); (· (intro G; (apply s_indexAddr (j := 0) (o' := ol); (· exact rfl); (· exact rfl); (· omega); (· omega); (· omega); (· exact rfl)); exact looked))); (apply dw_look; (· exact rfl); (· exact rfl); (· exact looked)); skip)
    refine dw_do0 rfl rfl ?_ dw_stop
    refine s_storeA (vs := [.int .i64 q, .slice (partAddr (some ⟨bl, ol, none⟩) cap 1 1) (l.length + 1 - 1) (cap - 1)]) rfl rfl rfl rfl (Nat.le_refl _) rfl ?_
    refine wpl_nil (qone0 ⟨(by (refine st_again ?_ ?_; (· exact looked)); (refine st_again ?_ ?_; (· exact looked)); refine st_past (by kernel_rfl) ?_; refine st_past (by kernel_rfl) ?_; exact st_nil), ?_⟩)
    ((apply dw_pure; (· exact rfl); (· exact rfl); (· (intro G; exact looked))); (apply dw_pure; (· exact rfl); (· exact rfl); (· (intro G; exact looked))); refine dw_nil ?_; skip)
    refine walk ?_
    refine retR3 (.inr rfl) rfl (rv_cellA rfl Cells.blk0 rfl) (rv_tmp (v := .int _ _) rfl) (rv_tmp (v := .bool _) rfl) ⟨Ent.auto, .inr ⟨y, l, _, rfl, rfl, _, _, rfl, ?_, ?_, ?_⟩⟩
    · show l.length ≤ cap - 1; omega
    · show cap - 1 ≤ _; omega
    · have h := Rd.sliceL 1 hs (by simp) (by simp; omega)
      exact h
theorem rSteal (hr : RefQ B G r q L) [InH G H] : Does Try.prog B 42 [r] H fun v H' => H' = H ∧
    ∃ r' ao cap, v = .tuple #[r', .slice ao (older L) cap] ∧ older L ≤ cap ∧ cap ≤ 9223372036854775807 ∧ RefQ B G r' q (L.drop (older L)) ∧ Rd B G 1 (.slice ao (older L) cap) (older L) (zs (L.take (older L))) := by
  obtain ⟨ao, cap, rfl, hc, hm, hs⟩ := hr
  have hold : older L ≤ L.length := by unfold older; omega
  have hold2 : (L.length : Int) - (L.length : Int) / 2 = (older L : Nat) := by unfold older; omega
  refine Does.weak (R := fun v H' => Ent H' H ∧ ∃ r' ao cap, v = .tuple #[r', .slice ao (older L) cap] ∧ older L ≤ cap ∧ cap ≤ 9223372036854775807 ∧ RefQ B G r' q (L.drop (older L)) ∧ Rd B G 1 (.slice ao (older L) cap) (older L) (zs (L.take (older L)))) ?_ fun v H1 ⟨e, hv⟩ => ⟨H, e, rfl, hv⟩
  refine fn_intro 24 Try.func42 rfl rfl rfl ?_
  refine walk ?_
  refine s_box (cs := [.int .i64 q, .slice ao L.length cap]) rfl rfl rfl ?_
  intro b1
  refine s_alloc rfl ?_
  intro b2
  refine walk ?_
  rw [hold2]
  (refine wp_draw [11] (.look 0 (.look 1 (.look 2 (.look 3 (.look 4 (.look 5 (.look 6 (.look 7 (.look 8 (.look 9 (.look 10 (.act 11 (.look 12 .nil) .stop)))))))))))) (by kernel_rfl) ?_; (apply dw_pure; (· exact rfl); (· exact rfl); (· (intro G; exact looked))); (apply dw_look; (· exact rfl); (· exact rfl); (· exact looked)); (apply dw_pure; (· exact rfl); (· exact rfl); (· (intro G; exact looked))); (apply dw_look; (· exact rfl); (· exact rfl); (· exact looked)); (apply dw_pure; (· exact rfl); (· exact rfl); (· (intro G; exact looked))); (apply dw_pure; (· exact rfl); (· exact rfl); (· (intro G; (apply s_sliceL (l := older L); (· exact rfl); (· exact rfl); (· omega); (· omega); (· exact rfl)); exact looked))); (apply dw_pure; (· exact rfl); (· exact rfl); (· (intro G; refine s_build (cs := [.int .i64 q, .slice (partAddr ao cap (older L) 1) (L.length - older L) (cap - older L)]) rfl rfl ?_; exact looked))); (apply dw_pure; (· exact rfl); (· exact rfl); (· (intro G; exact looked))); (apply dw_look; (· exact rfl); (· exact rfl); (· exact looked)); (apply dw_pure; (· exact rfl); (· exact rfl); (· (intro G; exact looked))); (apply dw_pure; (· exact rfl); (· exact rfl); (· (intro G; (apply s_sliceH (h := older L); (· exact rfl); (· exact rfl); (· omega); (· omega); (· exact rfl)); exact looked))); skip)
  refine dw_do0 rfl rfl ?_ dw_stop
  refine s_storeA (vs := [.int .i64 q, .slice (partAddr ao cap (older L) 1) (L.length - older L) (cap - older L)]) rfl rfl rfl rfl (Nat.le_refl _) rfl ?_
  refine wpl_nil (qone0 ⟨(by (refine st_again ?_ ?_; (· exact looked)); refine st_past (by kernel_rfl) ?_; refine st_past (by kernel_rfl) ?_; exact st_nil), ?_⟩)
  ((apply dw_pure; (· exact rfl); (· exact rfl); (· (intro G; exact looked))); refine dw_nil ?_; skip)
  refine walk ?_
  have hd := Rd.sliceL (older L) hs hold hc
  rw [Nat.mul_one, zs_drop] at hd
  have ht := Rd.sliceH (older L) hs hold
  rw [Nat.mul_one, zs_take] at ht
  refine retR2 (.inr rfl) rfl (rv_cellA rfl Cells.blk0 rfl) (rv_tmp (v := .slice _ _ _) rfl) ⟨Ent.auto, _, _, _, rfl, by omega, hm, ⟨_, _, by rw [List.length_drop]; rfl, ?_, ?_, by rw [List.length_drop]; exact hd⟩, ht⟩
  · rw [List.length_drop]; omega
  · omega
theorem rPut {q : Nat} (hr : RefQ B G r q L) [InH G H] (hq : q ≤ 65536) (hlen : L.length ≤ q) (heven : q = q / 2 + q / 2) : Does Try.prog B 39 [r, .int .i64 g] H fun v H' =>
    ∃ X r' s, H' = X + H ∧ v = .tuple #[r', s] ∧ RefQ B (X + G) r' q (putD q L g).2 ∧ Rd B (X + G) 1 s (putD q L g).1.length (zs (putD q L g).1) := by
  obtain ⟨ao, cap, rfl, hc, hm, hs⟩ := hr
  refine Does.weak (R := fun v H' => ∃ X r' s, Ent H' (X + H) ∧ v = .tuple #[r', s] ∧ RefQ B (X + G) r' q (putD q L g).2 ∧ Rd B (X + G) 1 s (putD q L g).1.length (zs (putD q L g).1)) ?_
    fun v H1 ⟨X, r', s, e, hv⟩ => ⟨X + H, e, X, r', s, rfl, hv⟩
  refine fn_intro 42 Try.func39 rfl rfl rfl ?_
  refine walk ?_
  refine s_box (cs := [.int .i64 q, .slice ao L.length cap]) rfl rfl rfl ?_
  intro b1
  refine s_alloc rfl ?_
  intro b2
  by_cases hlt : L.length < q
  · have e : putD q L g = ([], L ++ [g]) := by unfold putD; rw [if_pos hlt]
    rw [e]
    refine walk ?_
    (refine wp_draw [5, 6, 8] (.look 0 (.look 1 (.look 2 (.look 3 (.look 4 (.act 5 (.act 6 (.look 7 (.act 8 (.look 9 .nil) .stop)) .stop) .stop)))))) (by kernel_rfl) ?_; (apply dw_pure; (· exact rfl); (· exact rfl); (· (intro G; exact looked))); (apply dw_look; (· exact rfl); (· exact rfl); (· exact looked)); (apply dw_pure; (· exact rfl); (· exact rfl); (· (intro G; exact looked))); (apply dw_look; (· exact rfl); (· exact rfl); (· exact looked)); (apply dw_pure; (· exact rfl); (· exact rfl); (· (intro G; exact looked))); skip)
    refine dw_do rfl rfl ?_ dw_stop
    refine s_buildInts (cs := zs [g]) rfl rfl rfl rfl rfl ?_
    intro b3
    refine wpl_nil (qone ⟨(by (refine st_again ?_ ?_; (· exact looked)); (refine st_again ?_ ?_; (· exact looked)); exact st_nil), ?_⟩)
    (skip)
    refine dw_do rfl rfl ?_ dw_stop
    refine s_call rfl (join_spec (x := L) (y := [g]) hs.sub (Rd.blk0 rfl (by simp [maxLen])) (by omega) (by simp)) rfl ?_
    rintro _ _ rfl
    refine WPL.shape ?_
    rintro ao2 cap2 rfl _ hc2 hm2
    refine WPL.rd fun rd2 => ?_
    refine wpl_nil (qone ⟨(by refine st_past (by kernel_rfl) ?_; (refine st_again ?_ ?_; (· exact looked)); exact st_nil), ?_⟩)
    ((apply dw_pure; (· exact rfl); (· exact rfl); (· (intro G; refine s_build (cs := [.int .i64 q, .slice ao2 (L ++ [g]).length cap2]) rfl rfl ?_; exact looked))); skip)
    refine dw_do0 rfl rfl ?_ dw_stop
    refine s_storeA (vs := [.int .i64 q, .slice ao2 (L ++ [g]).length cap2]) rfl rfl rfl rfl (Nat.le_refl _) rfl ?_
    refine wpl_nil (qone0 ⟨(by refine st_past (by kernel_rfl) ?_; refine st_past (by kernel_rfl) ?_; exact st_nil), ?_⟩)
    ((apply dw_pure; (· exact rfl); (· exact rfl); (· (intro G; exact looked))); refine dw_nil ?_; skip)
    refine walk ?_
    refine retR2 (.inr rfl) rfl (rv_cellA rfl Cells.blk0 rfl) (rv_tmp (v := .slice _ _ _) rfl) ⟨_, _, _, ?_, rfl, ⟨ao2, cap2, rfl, hc2, by simpa [maxLen] using hm2, rd2.ent (Ent.drop_right _ _)⟩, Rd.nil⟩
    exact Ent.auto
  · have hle : L.length = q := by omega
    have e : putD q L g = (L.drop (q / 2) ++ [g], L.take (q / 2)) := by unfold putD; rw [if_neg hlt]
    have hk : (L.length : Int) - (q : Int) / 2 = ((q / 2 : Nat) : Int) := by omega
    have hh : q / 2 ≤ L.length := by omega
    have hd := Rd.sliceL (q / 2) hs hh hc
    rw [Nat.mul_one, zs_drop] at hd
    have ht := Rd.sliceH (q / 2) hs hh
    rw [Nat.mul_one, zs_take] at ht
    have hdl : (L.drop (q / 2)).length = L.length - q / 2 := List.length_drop ..
    have htl : (L.take (q / 2)).length = q / 2 := by rw [List.length_take]; omega
    rw [e]
    refine walk ?_
    rw [hk]
    rw [← hdl] at hd
    (refine wp_draw [12, 13, 14] (.look 0 (.look 1 (.look 2 (.look 3 (.look 4 (.look 5 (.look 6 (.look 7 (.look 8 (.look 9 (.look 10 (.look 11 (.act 12 (.act 13 (.act 14 (.look 15 .nil) .stop) .stop) .stop))))))))))))) (by kernel_rfl) ?_; (apply dw_pure; (· exact rfl); (· exact rfl); (· (intro G; exact looked))); (apply dw_look; (· exact rfl); (· exact rfl); (· exact looked)); (apply dw_pure; (· exact rfl); (· exact rfl); (· (intro G; exact looked))); (apply dw_look; (· exact rfl); (· exact rfl); (· exact looked)); (apply dw_pure; (· exact rfl); (· exact rfl); (· (intro G; exact looked))); (apply dw_pure; (· exact rfl); (· exact rfl); (· (intro G; (apply s_sliceH (h := q / 2); (· exact rfl); (· exact rfl); (· omega); (· omega); (· exact rfl)); exact looked))); (apply dw_pure; (· exact rfl); (· exact rfl); (· (intro G; refine s_build (cs := [.int .i64 q, .slice ao (q / 2) cap]) rfl rfl ?_; exact looked))); (apply dw_pure; (· exact rfl); (· exact rfl); (· (intro G; exact looked))); (apply dw_look; (· exact rfl); (· exact rfl); (· exact looked)); (apply dw_pure; (· exact rfl); (· exact rfl); (· (intro G; exact looked))); (apply dw_pure; (· exact rfl); (· exact rfl); (· (intro G; (apply s_sliceL (l := q / 2); (· exact rfl); (· exact rfl); (· omega); (· omega); (· exact rfl)); exact looked))); (apply dw_pure; (· exact rfl); (· exact rfl); (· (intro G; exact looked))); skip)
    refine dw_do rfl rfl ?_ dw_stop
    refine s_buildInts (cs := zs [g]) rfl rfl rfl rfl rfl ?_
    intro b3
    refine wpl_nil (qone ⟨(by (refine st_again ?_ ?_; (· exact looked)); (refine st_again ?_ ?_; (· exact looked)); (refine st_again ?_ ?_; (· exact looked)); exact st_nil), ?_⟩)
    (skip)
    refine dw_do rfl rfl ?_ dw_stop
    refine s_call rfl (join_spec (x := L.drop (q / 2)) (y := [g]) (hdl ▸ hd.sub) (Rd.blk0 rfl (by simp [maxLen])) (by omega) (by simp)) rfl ?_
    rintro _ _ rfl
    refine WPL.shape ?_
    rintro ao2 cap2 rfl _ hc2 hm2
    refine WPL.rd fun rd2 => ?_
    refine wpl_nil (qone ⟨(by refine st_past (by kernel_rfl) ?_; (refine st_again ?_ ?_; (· exact looked)); (refine st_again ?_ ?_; (· exact looked)); exact st_nil), ?_⟩)
    (skip)
    refine dw_do0 rfl rfl ?_ dw_stop
    refine s_storeA (vs := [.int .i64 q, .slice ao (q / 2) cap]) rfl rfl rfl rfl (Nat.le_refl _) rfl ?_
    refine wpl_nil (qone0 ⟨(by refine st_past (by kernel_rfl) ?_; refine st_past (by kernel_rfl) ?_; refine st_past (by kernel_rfl) ?_; exact st_nil), ?_⟩)
    ((apply dw_pure; (· exact rfl); (· exact rfl); (· (intro G; exact looked))); refine dw_nil ?_; skip)
    refine walk ?_
    refine retR2 (.inr rfl) rfl (rv_cellA rfl Cells.blk0 rfl) (rv_tmp (v := .slice _ _ _) rfl) ⟨_, _, _, ?_, rfl, ⟨ao, cap, by rw [htl]; rfl, by show (L.take (q / 2)).length ≤ cap; omega, hm, by rw [htl]; exact ht.ent (Ent.drop_left _ _)⟩, rd2.ent (Ent.drop_right _ _)⟩
    exact Ent.auto
theorem rLay {q : Nat} {lo : Option Addr} {lcap : Nat} {l : List Int} (hr : RefQ B G r q L) (hs2 : Rd B G 1 (.slice lo l.length lcap) l.length (zs l)) [InH G H] (hq : q ≤ 65536) (hlen : L.length ≤ q) (hlc : l.length ≤ lcap) : Does Try.prog B 40 [r, .slice lo l.length lcap] H fun v H' =>
    ∃ X r', H' = X + H ∧ v = .tuple #[r', .int .i64 (min l.length (q - L.length) : Nat)] ∧ RefQ B (X + G) r' q (L ++ l.take (q - L.length)) := by
  obtain ⟨ao, cap, rfl, hc, hm, hs⟩ := hr
  refine Does.weak (R := fun v H' => ∃ X r', Ent H' (X + H) ∧ v = .tuple #[r', .int .i64 (min l.length (q - L.length) : Nat)] ∧ RefQ B (X + G) r' q (L ++ l.take (q - L.length))) ?_
    fun v H1 ⟨X, r', e, hv⟩ => ⟨X + H, e, X, r', rfl, hv⟩
  have hml : l.length ≤ 9223372036854775807 := by
    have h := hs2
    unfold Rd at h
    obtain ⟨_, _, _, _, h, _⟩ := h
    simpa [maxLen] using h
  refine fn_intro 26 Try.func40 rfl rfl rfl ?_
  refine walk ?_
  refine s_box (cs := [.int .i64 q, .slice ao L.length cap]) rfl rfl rfl ?_
  intro b1
  refine s_alloc rfl ?_
  intro b2
  refine walk ?_
  have hmin : min (l.length : Int) ((q : Int) - (L.length : Int)) = ((min l.length (q - L.length) : Nat) : Int) := by omega
  refine s_min2 rfl rfl hmin rfl ?_
  have ht := Rd.sliceH (min l.length (q - L.length)) hs2 (Nat.min_le_left _ _)
  rw [Nat.mul_one, zs_take] at ht
  have etake : l.take (min l.length (q - L.length)) = l.take (q - L.length) := by rw [Nat.min_comm, ← List.take_take, List.take_length]
  have hn : min l.length (q - L.length) = (l.take (q - L.length)).length := by rw [List.length_take, Nat.min_comm]
  rw [etake] at ht
  have hnn : min l.length (q - L.length) ≤ l.length := Nat.min_le_left _ _
  have hnq : min l.length (q - L.length) ≤ q := by omega
  generalize min l.length (q - L.length) = m at ht hn hnn hnq
  generalize l.take (q - L.length) = l2 at ht hn
  subst hn
  refine walk ?_
  (refine wp_draw [7, 10] (.look 0 (.look 1 (.look 2 (.look 3 (.look 4 (.look 5 (.look 6 (.look 9 (.act 7 (.look 8 (.act 10 (.look 11 .nil) .stop)) .stop))))))))) (by kernel_rfl) ?_; (apply dw_pure; (· exact rfl); (· exact rfl); (· (intro G; exact looked))); (apply dw_look; (· exact rfl); (· exact rfl); (· exact looked)); (apply dw_pure; (· exact rfl); (· exact rfl); (· (intro G; exact looked))); (apply dw_look; (· exact rfl); (· exact rfl); (· exact looked)); (apply dw_pure; (· exact rfl); (· exact rfl); (· (intro G; exact looked))); (apply dw_pure; (· exact rfl); (· exact rfl); (· (intro G; exact looked))); (apply dw_pure; (· exact rfl); (· exact rfl); (· (intro G; (apply s_sliceH (h := l2.length); (· exact rfl); (· exact rfl); (· omega); (· omega); (· exact rfl)); exact looked))); (apply dw_pure; (· exact rfl); (· exact rfl); (· (intro G; exact looked))); skip)
  refine dw_do rfl rfl ?_ dw_stop
  refine s_call rfl (join_spec (x := L) (y := l2) hs.sub ht.sub (by omega) (by omega)) rfl ?_
  rintro _ _ rfl
  refine WPL.shape ?_
  rintro ao2 cap2 rfl _ hc2 hm2
  refine WPL.rd fun rd2 => ?_
  refine wpl_nil (qone ⟨(by refine st_past (by kernel_rfl) ?_; (refine st_again ?_ ?_; (· exact looked)); exact st_nil), ?_⟩)
  ((apply dw_pure; (· exact rfl); (· exact rfl); (· (intro G; refine s_build (cs := [.int .i64 q, .slice ao2 (L ++ l2).length cap2]) rfl rfl ?_; exact looked))); skip)
  refine dw_do0 rfl rfl ?_ dw_stop
  refine s_storeA (vs := [.int .i64 q, .slice ao2 (L ++ l2).length cap2]) rfl rfl rfl rfl (Nat.le_refl _) rfl ?_
  refine wpl_nil (qone0 ⟨(by refine st_past (by kernel_rfl) ?_; refine st_past (by kernel_rfl) ?_; exact st_nil), ?_⟩)
  ((apply dw_pure; (· exact rfl); (· exact rfl); (· (intro G; exact looked))); refine dw_nil ?_; skip)
  refine walk ?_
  refine retR2 (.inr rfl) rfl (rv_cellA rfl Cells.blk0 rfl) (rv_tmp (v := .int _ _) rfl) ⟨_, _, ?_, rfl, ⟨ao2, cap2, rfl, hc2, by simpa [maxLen] using hm2, rd2.ent (Ent.drop_right _ _)⟩⟩
  exact Ent.auto
theorem rNew {q : Nat} {lo : Option Addr} {lcap : Nat} {l : List Int} (hs2 : Rd B G 1 (.slice lo l.length lcap) l.length (zs l)) [InH G H] (hq : q ≤ 65536) (hlc : l.length ≤ lcap) : Does Try.prog B 20 [.int .i64 q, .slice lo l.length lcap] H fun v H' =>
    ∃ X, H' = X + H ∧ RefQ B (X + G) v q (l.take q) := by
  refine Does.weak (R := fun v H' => ∃ X, Ent H' (X + H) ∧ RefQ B (X + G) v q (l.take q)) ?_
    fun v H1 ⟨X, e, hv⟩ => ⟨X + H, e, X, rfl, hv⟩
  refine fn_intro 14 Try.func20 rfl rfl rfl ?_
  refine walk ?_
  refine s_alloc rfl ?_
  intro b2
  refine walk ?_
  have hmin : min (l.length : Int) (q : Int) = ((min l.length q : Nat) : Int) := by omega
  refine s_min2 rfl rfl hmin rfl ?_
  have ht := Rd.sliceH (min l.length q) hs2 (Nat.min_le_left _ _)
  rw [Nat.mul_one, zs_take] at ht
  have etake : l.take (min l.length q) = l.take q := by rw [Nat.min_comm, ← List.take_take, List.take_length]
  have hn : min l.length q = (l.take q).length := by rw [List.length_take, Nat.min_comm]
  rw [etake] at ht
  have hnn : min l.length q ≤ l.length := Nat.min_le_left _ _
  have hnq : min l.length q ≤ q := Nat.min_le_right _ _
  generalize min l.length q = m at ht hn hnn hnq
  generalize l.take q = l2 at ht hn
  subst hn
  refine walk ?_
  (apply s_sliceH (h := l2.length); (· exact rfl); (· exact rfl); (· omega); (· omega); (· exact rfl))
  refine walk ?_
  refine s_call rfl (join_spec (x := []) (y := l2) Rd.nil ht.sub (by simp) (by omega)) rfl ?_
  rintro _ _ rfl
  rw [List.nil_append]
  refine WPL.shape ?_
  rintro ao2 cap2 rfl _ hc2 hm2
  refine WPL.rd fun rd2 => ?_
  refine walk ?_
  refine s_build (cs := [.int .i64 q, .slice ao2 l2.length cap2]) rfl rfl ?_
  refine s_storeA (vs := [.int .i64 q, .slice ao2 l2.length cap2]) rfl rfl rfl rfl (Nat.le_refl _) rfl ?_
  refine walk ?_
  refine retR1 (.inr rfl) rfl (rv_cellA rfl Cells.blk0 rfl) ⟨_, ?_, ao2, cap2, rfl, hc2, by simpa [maxLen] using hm2, rd2.ent (Ent.drop_right _ _)⟩
  exact Ent.auto
end
end Go.Proofs.Ytcnpcmdcbafaeaa
