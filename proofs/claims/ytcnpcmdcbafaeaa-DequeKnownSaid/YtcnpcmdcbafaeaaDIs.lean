/- Is the deque what the document says? No condition. -/
import Derived.Test.YtcnpcmdcbafaeaaDRef2
import Derived.Test.YtcnpcmdcbafaeaaDLaw4
namespace Go.Proofs.Ytcnpcmdcbafaeaa
open Go Go.SL
set_option linter.unusedSimpArgs false
set_option linter.unusedVariables false
set_option maxRecDepth 10000
set_option maxHeartbeats 2000000
attribute [local irreducible] WP WPL QSeq QBlk QRet Does Cell Cells Rd Mine Ent Aside RV DqX DqAt Yield
section
variable {B : World} {F H G : HProp} {p : Nat} {x y L : List Int} {g : Int} {r : Value} {q : Nat}
theorem dAllL [HasAt DqAt H p ⟨q, L⟩ F] : Does Try.prog B 14 [ptr p] H fun r H' => H' = Mine 3 1 r L.length (zs L) + H := dAll (p := p) (x := ⟨q, L⟩)
theorem dLenL [HasAt DqAt H p ⟨q, L⟩ F] : Does Try.prog B 26 [ptr p] H fun r H' => H' = H ∧ r = .int .i64 L.length := dLen (p := p) (x := ⟨q, L⟩)
theorem dRoomL [HasAt DqAt H p ⟨q, L⟩ F] : Does Try.prog B 25 [ptr p] H fun r H' => H' = H ∧ r = .int .i64 q := dRoom (p := p) (x := ⟨q, L⟩)
theorem is_spec (hr : RefQ B G r q L) [InH G H] [HasAt DqAt H p ⟨q, L⟩ F] : Does Try.prog B 22 [ptr p, r, .int .i64 g] H fun v H' => H' = H ∧ v = .bool true := by
  have hr' := hr
  obtain ⟨ao, cap, rfl, hc, hm, hs⟩ := hr
  refine Does.frame0 ?_
  refine fn_intro 40 Try.func22 rfl rfl rfl ?_
  refine walk ?_
  refine s_box (cs := [.int .i64 q, .slice ao L.length cap]) rfl rfl rfl ?_
  intro b1
  refine walk ?_
  refine wp_loopR (α := Nat) [6, 7, 8, 9, 10, 11, 12, 13, 14, 15, 16, 17] (fun k => [(7, .int .i64 k)]) (fun k => k ≤ 2) (fun k => 2 - k) 0 agreed (Nat.zero_le _) ?_
  rintro k g0 hk
  simp only [putAll]
  by_cases hlt : k < 2
  · refine walk ?_
    (refine wp_draw [1, 4] (.look 0 (.look 2 (.look 3 (.act 1 (.act 4 (.look 5 .nil) .stop) .stop)))) (by kernel_rfl) ?_; (apply dw_pure; (· exact rfl); (· exact rfl); (· (intro G; exact looked))); (apply dw_pure; (· exact rfl); (· exact rfl); (· (intro G; exact looked))); (apply dw_look; (· exact rfl); (· exact rfl); (· exact looked)); skip)
    refine dw_do rfl rfl ?_ dw_stop
    refine s_call rfl (dAllL (p := p) (q := q) (L := L)) rfl ?_
    rintro v1 _ rfl
    refine wpl_nil (qone ⟨(by (refine st_again ?_ ?_; (· exact looked)); exact st_nil), ?_⟩)
    (skip)
    refine dw_do rfl rfl ?_ dw_stop
    refine s_call rfl (row_same (s := v1) (xs := L) hs.sub) rfl ?_
    rintro _ _ ⟨e_, rfl⟩
    obtain rfl := e_.symm
    refine wpl_nil (qone ⟨(by refine st_past (by kernel_rfl) ?_; exact st_nil), ?_⟩)
    ((apply dw_pure; (· exact rfl); (· exact rfl); (· (intro G; exact looked))); refine dw_nil ?_; skip)
    refine walk ?_
    exact ⟨k + 1, asided, agreed, Ent.refl _, by omega, by omega⟩
  · refine walk ?_
    (refine wp_draw [1, 8, 16, 19] (.look 0 (.look 2 (.look 3 (.look 4 (.act 1 (.look 5 (.look 6 (.look 7 (.look 9 (.look 10 (.act 8 (.look 11 (.look 12 (.look 13 (.look 14 (.look 15 (.look 17 (.look 18 (.act 16 (.act 19 (.look 20 (.look 21 (.look 22 .nil))) .stop) .stop)))))))) .stop)))))) .stop))))) (by kernel_rfl) ?_; (apply dw_pure; (· exact rfl); (· exact rfl); (· (intro G; exact looked))); (apply dw_pure; (· exact rfl); (· exact rfl); (· (intro G; exact looked))); (apply dw_look; (· exact rfl); (· exact rfl); (· exact looked)); (apply dw_pure; (· exact rfl); (· exact rfl); (· (intro G; exact looked))); skip)
    refine dw_do rfl rfl ?_ dw_stop
    refine s_call rfl (dLenL (p := p) (q := q) (L := L)) rfl ?_
    rintro _ _ ⟨e_, rfl⟩
    obtain rfl := e_.symm
    refine wpl_nil (qone ⟨(by (refine st_again ?_ ?_; (· exact looked)); exact st_nil), ?_⟩)
    ((apply dw_pure; (· exact rfl); (· exact rfl); (· (intro G; exact looked))); (apply dw_pure; (· exact rfl); (· exact rfl); (· (intro G; exact looked))); (apply dw_pure; (· exact rfl); (· exact rfl); (· (intro G; exact looked))); (apply dw_pure; (· exact rfl); (· exact rfl); (· (intro G; exact looked))); (apply dw_look; (· exact rfl); (· exact rfl); (· exact looked)); skip)
    refine dw_do rfl rfl ?_ dw_stop
    refine walk ?_
    refine s_call rfl (dRoomL (p := p) (q := q) (L := L)) rfl ?_
    rintro _ _ ⟨e_, rfl⟩
    obtain rfl := e_.symm
    refine wpl_nil (qone ⟨(by (refine st_again ?_ ?_; (· exact looked)); refine st_past (by kernel_rfl) ?_; exact st_nil), ?_⟩)
    ((apply dw_pure; (· exact rfl); (· exact rfl); (· (intro G; exact looked))); (apply dw_pure; (· exact rfl); (· exact rfl); (· (intro G; exact looked))); (apply dw_pure; (· exact rfl); (· exact rfl); (· (intro G; exact looked))); (apply dw_pure; (· exact rfl); (· exact rfl); (· (intro G; exact looked))); (apply dw_pure; (· exact rfl); (· exact rfl); (· (intro G; exact looked))); (apply dw_look; (· exact rfl); (· exact rfl); (· exact looked)); (apply dw_pure; (· exact rfl); (· exact rfl); (· (intro G; exact looked))); skip)
    refine dw_do rfl rfl ?_ dw_stop
    refine walk ?_
    refine s_call rfl (dAheadL (p := p) (q := q) (L := L)) rfl ?_
    rintro _ _ ⟨e_, rfl⟩
    obtain rfl := e_.symm
    refine wpl_nil (qone ⟨(by (refine st_again ?_ ?_; (· exact looked)); refine st_past (by kernel_rfl) ?_; refine st_past (by kernel_rfl) ?_; exact st_nil), ?_⟩)
    (skip)
    refine dw_do rfl rfl ?_ dw_stop
    refine walk ?_
    refine s_call rfl (rAhead (hr'.ent InH.ent)) rfl ?_
    rintro _ _ ⟨e_, rfl⟩
    obtain rfl := e_.symm
    refine wpl_nil (qone ⟨(by refine st_past (by kernel_rfl) ?_; refine st_past (by kernel_rfl) ?_; refine st_past (by kernel_rfl) ?_; exact st_nil), ?_⟩)
    ((apply dw_pure; (· exact rfl); (· exact rfl); (· (intro G; exact looked))); (apply dw_pure; (· exact rfl); (· exact rfl); (· (intro G; exact looked))); (apply dw_pure; (· exact rfl); (· exact rfl); (· (intro G; exact looked))); refine dw_nil ?_; skip)
    refine walk ?_
    exact ret1 (v := .bool _) (.inr rfl) rfl rfl ⟨Ent.drop_left _ _, rfl⟩
end
end Go.Proofs.Ytcnpcmdcbafaeaa
