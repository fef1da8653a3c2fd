/- Rows of texts, held against each other. No condition. -/
import Derived.Test.YtoheplamhocloaaDoorCfInst
import Derived.Test.YtoheplamhocloaaDoorSL3
import Derived.Test.YtoheplamhocloaaDoorSL4
namespace Go.Proofs.YtoheplamhocloaaDoor
open Go Go.SL
set_option linter.unusedSimpArgs false
set_option linter.unusedVariables false
set_option maxRecDepth 10000
set_option maxHeartbeats 1000000
attribute [local irreducible] WP WPL QSeq QBlk QRet Does Cell Cells Rd Mine Ent Aside RV Yield
theorem takeT_eq {α : Type} {xs ys : List α} {k : Nat} (hk : xs.length = k) (hl : xs.length = ys.length) (h : xs.take k = ys.take k) : xs = ys := by
  rw [List.take_of_length_le (by omega), List.take_of_length_le (by omega)] at h; exact h
theorem takeT_next {α : Type} {xs ys : List α} {k : Nat} (h1 : k < xs.length) (h2 : k < ys.length) (h : xs.take k = ys.take k) (hx : xs[k] = ys[k]) : xs.take (k + 1) = ys.take (k + 1) := by
  rw [List.take_succ_eq_append_getElem h1, List.take_succ_eq_append_getElem h2, h, hx]
section
variable {B : World} {F H G : HProp} {s u : Value} {xs ys : List (List UInt8)}
theorem equalS_spec (hs : Rd B H 1 s xs.length (ss xs)) (hu : Rd B H 1 u ys.length (ss ys)) :
    Does Tryd.prog B 40 [s, u] H (fun r H' => H' = H ∧ r = .bool (decide (xs = ys))) := by
  unfold Rd at hs hu
  obtain ⟨ao, cap, rfl, hl, hm, hc⟩ := hs
  obtain ⟨ao2, cap2, rfl, hl2, hm2, hc2⟩ := hu
  unfold maxLen at hm hm2
  refine fn_intro 26 Tryd.func40 rfl rfl rfl ?_
  by_cases hlen : xs.length = ys.length
  · refine walk ?_
    refine wp_loopR (α := Nat) [4, 5, 13, 14, 15, 16, 17, 18, 19, 20, 21, 22, 23, 24, 25] (fun k => [(13, .int .i64 k)]) (fun k => k ≤ xs.length ∧ xs.take k = ys.take k) (fun k => xs.length - k) 0 agreed ⟨Nat.zero_le _, rfl⟩ ?_
    rintro k g ⟨hk, hi⟩
    simp only [putAll]
    by_cases hlt : k < xs.length
    · obtain ⟨b, o, rfl, hcs⟩ := Rd.addr hl hc hlt
      have hlt2 : k < ys.length := by omega
      obtain ⟨b2, o2, rfl, hcs2⟩ := Rd.addr hl2 hc2 hlt2
      have hcell := hcs.cell (ss_get xs k hlt)
      have hcell2 := hcs2.cell (ss_get ys k hlt2)
      by_cases hx : xs[k] = ys[k]
      · refine walk ?_
        (refine wp_draw [] (.look 0 (.look 1 (.look 2 (.look 3 (.look 4 (.look 5 (.look 6 (.look 7 (.look 8 .nil))))))))) (by kernel_rfl) ?_; (apply dw_pure; (· exact rfl); (· exact rfl); (· (intro G; exact looked))); (apply dw_pure; (· exact rfl); (· exact rfl); (· (intro G; exact looked))); (apply dw_pure; (· exact rfl); (· exact rfl); (· (intro G; exact looked))); (apply dw_look; (· exact rfl); (· exact rfl); (· (exact looked))); (apply dw_pure; (· exact rfl); (· exact rfl); (· (intro G; exact looked))); (apply dw_pure; (· exact rfl); (· exact rfl); (· (intro G; exact looked))); (apply dw_pure; (· exact rfl); (· exact rfl); (· (intro G; exact looked))); (apply dw_look; (· exact rfl); (· exact rfl); (· (exact looked))); (apply dw_pure; (· exact rfl); (· exact rfl); (· (intro G; (first | refine s_nestr rfl rfl (b := false) (by rw [hx]; simp) rfl ?_ | refine s_nestr rfl rfl (b := true) (by simp [hx]) rfl ?_); exact looked))); refine dw_nil ?_)
        refine walk ?_
        exact ⟨k + 1, asided, agreed, Ent.refl _, ⟨hlt, takeT_next hlt hlt2 hi hx⟩, by omega⟩
      · have hne : ¬ xs = ys := by rintro rfl; exact hx rfl
        refine walk ?_
        (refine wp_draw [] (.look 0 (.look 1 (.look 2 (.look 3 (.look 4 (.look 5 (.look 6 (.look 7 (.look 8 .nil))))))))) (by kernel_rfl) ?_; (apply dw_pure; (· exact rfl); (· exact rfl); (· (intro G; exact looked))); (apply dw_pure; (· exact rfl); (· exact rfl); (· (intro G; exact looked))); (apply dw_pure; (· exact rfl); (· exact rfl); (· (intro G; exact looked))); (apply dw_look; (· exact rfl); (· exact rfl); (· (exact looked))); (apply dw_pure; (· exact rfl); (· exact rfl); (· (intro G; exact looked))); (apply dw_pure; (· exact rfl); (· exact rfl); (· (intro G; exact looked))); (apply dw_pure; (· exact rfl); (· exact rfl); (· (intro G; exact looked))); (apply dw_look; (· exact rfl); (· exact rfl); (· (exact looked))); (apply dw_pure; (· exact rfl); (· exact rfl); (· (intro G; (first | refine s_nestr rfl rfl (b := false) (by rw [hx]; simp) rfl ?_ | refine s_nestr rfl rfl (b := true) (by simp [hx]) rfl ?_); exact looked))); refine dw_nil ?_)
        refine walk ?_
        exact ret1 (v := .bool _) (.inr rfl) rfl rfl ⟨rfl, by simp [hne]⟩
    · have heq := takeT_eq (show xs.length = k by omega) hlen hi
      refine walk ?_
      exact ret1 (v := .bool _) (.inr rfl) rfl rfl ⟨rfl, by simp [heq]⟩
  · have hne : ¬ xs = ys := by rintro rfl; exact hlen rfl
    refine walk ?_
    exact ret1 (v := .bool _) (.inr rfl) rfl rfl ⟨rfl, by simp [hne]⟩
end
end Go.Proofs.YtoheplamhocloaaDoor
