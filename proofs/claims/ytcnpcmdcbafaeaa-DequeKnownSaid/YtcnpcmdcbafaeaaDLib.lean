/- The library's functions on rows of numbers, and the kit's. No condition. -/
import Derived.Test.YtcnpcmdcbafaeaaDInst
import Derived.Test.YtcnpcmdcbafaeaaSLRange
namespace Go.Proofs.Ytcnpcmdcbafaeaa
open Go Go.SL
set_option linter.unusedSimpArgs false
set_option linter.unusedVariables false
set_option maxRecDepth 10000
set_option maxHeartbeats 1000000
attribute [local irreducible] WP WPL QSeq QBlk QRet Does Cell Cells Rd Mine Ent Aside RV
theorem take_eq_of {α : Type} {xs ys : List α} {k : Nat} (hk : xs.length = k) (hl : xs.length = ys.length) (h : xs.take k = ys.take k) : xs = ys := by
  rw [List.take_of_length_le (by omega), List.take_of_length_le (by omega)] at h; exact h
theorem take_next {α : Type} {xs ys : List α} {k : Nat} (h1 : k < xs.length) (h2 : k < ys.length) (h : xs.take k = ys.take k) (hx : xs[k] = ys[k]) : xs.take (k + 1) = ys.take (k + 1) := by
  rw [List.take_succ_eq_append_getElem h1, List.take_succ_eq_append_getElem h2, h, hx]
theorem sameInts_spec {B : World} {H : HProp} {s u : Value} {xs ys : List Int} (hs : Rd B H 1 s xs.length (zs xs)) (hu : Rd B H 1 u ys.length (zs ys)) :
    Does Try.prog B 24 [s, u] H (fun r H' => H' = H ∧ r = .bool (decide (xs = ys))) := by
  unfold Rd at hs hu
  obtain ⟨ao, cap, rfl, hl, hm, hc⟩ := hs
  obtain ⟨ao2, cap2, rfl, hl2, hm2, hc2⟩ := hu
  unfold maxLen at hm hm2
  refine fn_intro 26 Try.func24 rfl rfl rfl ?_
  by_cases hlen : xs.length = ys.length
  · refine walk ?_
    refine wp_loopR (α := Nat) [4, 5, 11, 12, 13, 14, 15, 16, 17, 18, 19, 20, 21, 22, 23, 24, 25] (fun k => [(5, .int .i64 k)]) (fun k => k ≤ xs.length ∧ xs.take k = ys.take k) (fun k => xs.length - k) 0 agreed ⟨Nat.zero_le _, rfl⟩ ?_
    rintro k g ⟨hk, hi⟩
    simp only [putAll]
    by_cases hlt : k < xs.length
    · obtain ⟨b, o, rfl, hcs⟩ := Rd.addr hl hc hlt
      have hlt2 : k < ys.length := by omega
      obtain ⟨b2, o2, rfl, hcs2⟩ := Rd.addr hl2 hc2 hlt2
      have hcell := hcs.cell (zs_get xs k hlt)
      have hcell2 := hcs2.cell (zs_get ys k hlt2)
      by_cases hx : xs[k] = ys[k]
      · refine walk ?_
        (refine wp_draw [] (.look 0 (.look 1 (.look 2 (.look 3 (.look 4 (.look 5 (.look 6 (.look 7 (.look 8 .nil))))))))) (by kernel_rfl) ?_; (apply dw_pure; (· exact rfl); (· exact rfl); (· (intro G; exact looked))); (apply dw_pure; (· exact rfl); (· exact rfl); (· (intro G; exact looked))); (apply dw_pure; (· exact rfl); (· exact rfl); (· (intro G; exact looked))); (apply dw_look; (· exact rfl); (· exact rfl); (· exact looked)); (apply dw_pure; (· exact rfl); (· exact rfl); (· (intro G; exact looked))); (apply dw_pure; (· exact rfl); (· exact rfl); (· (intro G; exact looked))); (apply dw_pure; (· exact rfl); (· exact rfl); (· (intro G; exact looked))); (apply dw_look; (· exact rfl); (· exact rfl); (· exact looked)); (apply dw_pure; (· exact rfl); (· exact rfl); (· (intro G; exact looked))); refine dw_nil ?_)
        refine walk ?_
        exact ⟨k + 1, asided, agreed, Ent.refl _, ⟨hlt, take_next hlt hlt2 hi hx⟩, by omega⟩
      · have hne : ¬ xs = ys := by rintro rfl; exact hx rfl
        refine walk ?_
        (refine wp_draw [] (.look 0 (.look 1 (.look 2 (.look 3 (.look 4 (.look 5 (.look 6 (.look 7 (.look 8 .nil))))))))) (by kernel_rfl) ?_; (apply dw_pure; (· exact rfl); (· exact rfl); (· (intro G; exact looked))); (apply dw_pure; (· exact rfl); (· exact rfl); (· (intro G; exact looked))); (apply dw_pure; (· exact rfl); (· exact rfl); (· (intro G; exact looked))); (apply dw_look; (· exact rfl); (· exact rfl); (· exact looked)); (apply dw_pure; (· exact rfl); (· exact rfl); (· (intro G; exact looked))); (apply dw_pure; (· exact rfl); (· exact rfl); (· (intro G; exact looked))); (apply dw_pure; (· exact rfl); (· exact rfl); (· (intro G; exact looked))); (apply dw_look; (· exact rfl); (· exact rfl); (· exact looked)); (apply dw_pure; (· exact rfl); (· exact rfl); (· (intro G; exact looked))); refine dw_nil ?_)
        refine walk ?_
        exact ret1 (v := .bool _) (.inr rfl) rfl rfl ⟨rfl, by simp [hne]⟩
    · have heq := take_eq_of (show xs.length = k by omega) hlen hi
      refine walk ?_
      exact ret1 (v := .bool _) (.inr rfl) rfl rfl ⟨rfl, by simp [heq]⟩
  · have hne : ¬ xs = ys := by rintro rfl; exact hlen rfl
    refine walk ?_
    exact ret1 (v := .bool _) (.inr rfl) rfl rfl ⟨rfl, by simp [hne]⟩
theorem equalInts_spec {B : World} {H : HProp} {s u : Value} {xs ys : List Int} (hs : Rd B H 1 s xs.length (zs xs)) (hu : Rd B H 1 u ys.length (zs ys)) :
    Does Try.prog B 45 [s, u] H (fun r H' => H' = H ∧ r = .bool (decide (xs = ys))) := by
  unfold Rd at hs hu
  obtain ⟨ao, cap, rfl, hl, hm, hc⟩ := hs
  obtain ⟨ao2, cap2, rfl, hl2, hm2, hc2⟩ := hu
  unfold maxLen at hm hm2
  refine fn_intro 26 Try.func45 rfl rfl rfl ?_
  by_cases hlen : xs.length = ys.length
  · refine walk ?_
    refine wp_loopR (α := Nat) [4, 5, 13, 14, 15, 16, 17, 18, 19, 20, 21, 22, 23, 24, 25] (fun k => [(13, .int .i64 k)]) (fun k => k ≤ xs.length ∧ xs.take k = ys.take k) (fun k => xs.length - k) 0 agreed ⟨Nat.zero_le _, rfl⟩ ?_
    rintro k g ⟨hk, hi⟩
    simp only [putAll]
    by_cases hlt : k < xs.length
    · obtain ⟨b, o, rfl, hcs⟩ := Rd.addr hl hc hlt
      have hlt2 : k < ys.length := by omega
      obtain ⟨b2, o2, rfl, hcs2⟩ := Rd.addr hl2 hc2 hlt2
      have hcell := hcs.cell (zs_get xs k hlt)
      have hcell2 := hcs2.cell (zs_get ys k hlt2)
      by_cases hx : xs[k] = ys[k]
      · refine walk ?_
        (refine wp_draw [] (.look 0 (.look 1 (.look 2 (.look 3 (.look 4 (.look 5 (.look 6 (.look 7 (.look 8 .nil))))))))) (by kernel_rfl) ?_; (apply dw_pure; (· exact rfl); (· exact rfl); (· (intro G; exact looked))); (apply dw_pure; (· exact rfl); (· exact rfl); (· (intro G; exact looked))); (apply dw_pure; (· exact rfl); (· exact rfl); (· (intro G; exact looked))); (apply dw_look; (· exact rfl); (· exact rfl); (· exact looked)); (apply dw_pure; (· exact rfl); (· exact rfl); (· (intro G; exact looked))); (apply dw_pure; (· exact rfl); (· exact rfl); (· (intro G; exact looked))); (apply dw_pure; (· exact rfl); (· exact rfl); (· (intro G; exact looked))); (apply dw_look; (· exact rfl); (· exact rfl); (· exact looked)); (apply dw_pure; (· exact rfl); (· exact rfl); (· (intro G; exact looked))); refine dw_nil ?_)
        refine walk ?_
        exact ⟨k + 1, asided, agreed, Ent.refl _, ⟨hlt, take_next hlt hlt2 hi hx⟩, by omega⟩
      · have hne : ¬ xs = ys := by rintro rfl; exact hx rfl
        refine walk ?_
        (refine wp_draw [] (.look 0 (.look 1 (.look 2 (.look 3 (.look 4 (.look 5 (.look 6 (.look 7 (.look 8 .nil))))))))) (by kernel_rfl) ?_; (apply dw_pure; (· exact rfl); (· exact rfl); (· (intro G; exact looked))); (apply dw_pure; (· exact rfl); (· exact rfl); (· (intro G; exact looked))); (apply dw_pure; (· exact rfl); (· exact rfl); (· (intro G; exact looked))); (apply dw_look; (· exact rfl); (· exact rfl); (· exact looked)); (apply dw_pure; (· exact rfl); (· exact rfl); (· (intro G; exact looked))); (apply dw_pure; (· exact rfl); (· exact rfl); (· (intro G; exact looked))); (apply dw_pure; (· exact rfl); (· exact rfl); (· (intro G; exact looked))); (apply dw_look; (· exact rfl); (· exact rfl); (· exact looked)); (apply dw_pure; (· exact rfl); (· exact rfl); (· (intro G; exact looked))); refine dw_nil ?_)
        refine walk ?_
        exact ret1 (v := .bool _) (.inr rfl) rfl rfl ⟨rfl, by simp [hne]⟩
    · have heq := take_eq_of (show xs.length = k by omega) hlen hi
      refine walk ?_
      exact ret1 (v := .bool _) (.inr rfl) rfl rfl ⟨rfl, by simp [heq]⟩
  · have hne : ¬ xs = ys := by rintro rfl; exact hlen rfl
    refine walk ?_
    exact ret1 (v := .bool _) (.inr rfl) rfl rfl ⟨rfl, by simp [hne]⟩
theorem cloneInts_spec {B : World} {H : HProp} {s : Value} {m : Nat} {cs : List Value} (hs : Rd B H 1 s m cs) (h1 : cs.all Value.oneCell' = true) (hb : m ≤ 1000000000000) :
    Does Try.prog B 36 [s] H (fun r H' => H' = Mine 3 1 r m cs + H) := by
  have hs' := hs
  unfold Rd at hs
  obtain ⟨ao, cap, rfl, hl, hm, hc⟩ := hs
  refine fn_intro 8 Try.func36 rfl rfl rfl ?_
  cases ao with
  | none =>
    have : cs = [] := by
      rcases hc with h | ⟨b, o, h, _⟩
      · exact h
      · cases h
    subst this
    have : m = 0 := by simp at hl; omega
    subst this
    refine walk ?_
    refine s_eqnilS rfl rfl (b := true) rfl rfl ?_
    refine walk ?_
    refine ret1 (v := .slice none 0 0) (.inr rfl) rfl rfl ?_
    rw [Mine.nil, HProp.emp_add]
  | some a =>
    refine walk ?_
    refine s_eqnilS rfl rfl (b := false) rfl rfl ?_
    refine walk ?_
    refine s_buildInts (cs := []) rfl rfl rfl rfl rfl ?_
    intro b
    refine walk ?_
    refine WPL.ent ((Mine.of_blk (sz := 1) (n := 0) (cap := 0) (cs := []) (spare := []) rfl rfl (Nat.le_refl _) (by simp [maxLen]) rfl).frame_right _) ?_
    refine s_append (v := .slice _ _ _) rfl rfl hs' h1 rfl ?_ rfl ?_
    · simp only [maxLen]; omega
    intro v'
    simp only [Nat.zero_add, List.nil_append]
    refine walk ?_
    exact ret1 (.inr rfl) rfl rfl rfl
end Go.Proofs.Ytcnpcmdcbafaeaa
