/- A clock's laps; its copy. No condition. -/
import Derived.Test.YtipbcccjhaommaaDoorCkClk1
namespace Go.Proofs.YtipbcccjhaommaaDoor
open Go Go.SL Go.SL.Flo
set_option linter.unusedSimpArgs false
set_option linter.unusedVariables false
set_option maxRecDepth 10000
set_option maxHeartbeats 4000000
/-- The time is marked; the last 64 marks are kept. -/
def markC (c : Clk) : Clk := ⟨c.now, (c.laps ++ [c.now]).drop (c.laps.length + 1 - 64)⟩
theorem mark_len (c : Clk) : (markC c).laps.length = c.laps.length + 1 - (c.laps.length + 1 - 64) := by
  unfold markC
  simp
theorem zs_drop1 (l : List Int) (k : Nat) : (zs l).drop k = zs (l.drop k) := zs_drop l k
attribute [local irreducible] WP WPL QSeq QBlk QRet Does Cell Cells Rd Mine Ent Aside RV e0 Slid QScp
section
variable {B : World} {F H : HProp} {b : Nat} {n t d now : Int} {c : Clk} {s : Value} {e : TypeId} {ao : Option Addr} {cap : Nat} {f : FuncId} {args : List Value} {R : Value → HProp → Prop}
theorem cloneI {m : Nat} {cs : List Value} (hs : Rd B H 1 s m cs) (h1 : cs.all Value.oneCell' = true) (hb : m ≤ 1000000000) :
    Does Tryd.prog B 25 [s] H (fun r H' => H' = Mine 2 1 r m cs + H) := by
  have hs' := hs
  unfold Rd at hs
  obtain ⟨ao, cap, rfl, hl, hm, hc⟩ := hs
  refine fn_intro 8 Tryd.func25 rfl rfl rfl ?_
  cases ao with
  | none =>
    have : cs = [] := by
      rcases hc with h | ⟨b, o, h, _⟩
      · exact h
      · cases h
    subst this
    have : m = 0 := by simp at hl; omega
    subst this
    refine walk ?_
    refine s_eqnilS rfl rfl (b := true) rfl rfl ?_
    refine walk ?_
    refine ret1 (v := .slice none 0 0) (.inr rfl) rfl rfl ?_
    rw [Mine.nil, HProp.emp_add]
  | some a =>
    refine walk ?_
    refine s_eqnilS rfl rfl (b := false) rfl rfl ?_
    refine walk ?_
    refine s_buildInts (cs := []) rfl rfl rfl rfl rfl ?_
    intro b
    refine walk ?_
    refine WPL.ent ((Mine.of_blk (sz := 1) (n := 0) (cap := 0) (cs := []) (spare := []) rfl rfl (Nat.le_refl _) (by simp [maxLen]) rfl).frame_right _) ?_
    refine s_append (v := .slice _ _ _) rfl rfl hs' h1 rfl ?_ rfl ?_
    · simp only [maxLen]; omega
    intro v'
    simp only [Nat.zero_add, List.nil_append]
    refine walk ?_
    exact ret1 (.inr rfl) rfl rfl rfl
theorem cMark (hl : c.laps.length ≤ 100000) [i : HasAt ClkAt H b c F] : Does Tryd.prog B 10 [.pointer (some ⟨b, 0, none⟩)] H fun r H' => H' = ClkAt b (markC c) + F ∧ r = .int .i64 ((markC c).laps.length : Nat) := by
  refine Does.weak (R := fun r H' => Ent H' (ClkAt b (markC c) + F) ∧ r = .int .i64 ((markC c).laps.length : Nat)) ?_ fun v H1 ⟨e, h⟩ => ⟨_, e, rfl, h⟩
  rw [i.eq]
  refine Does.clk fun ao cap h1 h2 => ?_
  have hlen := mark_len c
  have hmax : max (0 : Int) (((c.laps.length + 1 : Nat) : Int) - 64) = ((c.laps.length + 1 - 64 : Nat) : Int) := by omega
  refine fn_intro 39 Tryd.func10 rfl rfl rfl ?_
  refine walk ?_
  (refine wp_draw [10, 11, 14] (.look 0 (.look 1 (.look 2 (.look 3 (.look 4 (.look 5 (.look 6 (.look 7 (.look 8 (.look 9 (.act 10 (.act 11 (.look 12 (.look 13 (.act 14 .nil .stop))) .stop) .stop))))))))))) (by kernel_rfl) ?_; (apply dw_pure; (· exact rfl); (· exact rfl); (· (intro G; exact looked))); (apply dw_pure; (· exact rfl); (· exact rfl); (· (intro G; exact looked))); (apply dw_pure; (· exact rfl); (· exact rfl); (· (intro G; exact looked))); (apply dw_pure; (· exact rfl); (· exact rfl); (· (intro G; exact looked))); (apply dw_look; (· exact rfl); (· exact rfl); (· (exact looked))); (apply dw_pure; (· exact rfl); (· exact rfl); (· (intro G; exact looked))); (apply dw_pure; (· exact rfl); (· exact rfl); (· (intro G; exact looked))); (apply dw_pure; (· exact rfl); (· exact rfl); (· (intro G; exact looked))); (apply dw_pure; (· exact rfl); (· exact rfl); (· (intro G; exact looked))); (apply dw_look; (· exact rfl); (· exact rfl); (· (exact looked))); skip)
  refine dw_do rfl rfl ?_ dw_stop
  refine s_buildInts (cs := [.int .i64 c.now]) rfl rfl rfl rfl rfl ?_
  intro b10
  refine wpl_nil (qone ⟨(by refine st_past (by kernel_rfl) ?_; (refine st_again ?_ ?_; (· exact looked)); exact st_nil), ?_⟩)
  (skip)
  refine dw_do rfl rfl ?_ dw_stop
  refine s_appendO (v := .slice _ _ _) (u := .int .i64 c.now) rfl rfl (Rd.blk0 (e := 2) rfl (by simp [maxLen])) rfl ?_ rfl ?_
  · simp only [maxLen]; omega
  intro v11
  refine WPL.slidShape fun ao' cap' hv hk1 hk2 => ?_
  subst hv
  refine wpl_nil (qone ⟨(by refine st_past (by kernel_rfl) ?_; refine st_past (by kernel_rfl) ?_; exact st_nil), ?_⟩)
  ((apply dw_pure; (· exact rfl); (· exact rfl); (· (intro G; exact looked))); (apply dw_pure; (· exact rfl); (· exact rfl); (· (intro G; exact looked))); skip)
  refine dw_do0 rfl rfl ?_ dw_stop
  refine s_store1 (v := .slice _ _ _) rfl rfl rfl rfl ?_
  refine wpl_nil (qone0 ⟨(by refine st_past (by kernel_rfl) ?_; refine st_past (by kernel_rfl) ?_; exact st_nil), ?_⟩)
  (refine dw_nil ?_; skip)
  unfold maxLen at hk2
  refine walk ?_
  (refine wp_draw [15] (.look 0 (.look 1 (.look 2 (.look 3 (.look 4 (.look 5 (.look 6 (.look 7 (.look 8 (.look 9 (.look 10 (.look 11 (.look 12 (.look 13 (.look 14 (.act 15 .nil .stop)))))))))))))))) (by kernel_rfl) ?_; (apply dw_pure; (· exact rfl); (· exact rfl); (· (intro G; exact looked))); (apply dw_pure; (· exact rfl); (· exact rfl); (· (intro G; exact looked))); (apply dw_pure; (· exact rfl); (· exact rfl); (· (intro G; exact looked))); (apply dw_pure; (· exact rfl); (· exact rfl); (· (intro G; exact looked))); (apply dw_look; (· exact rfl); (· exact rfl); (· (exact looked))); (apply dw_pure; (· exact rfl); (· exact rfl); (· (intro G; exact looked))); (apply dw_pure; (· exact rfl); (· exact rfl); (· (intro G; exact looked))); (apply dw_pure; (· exact rfl); (· exact rfl); (· (intro G; exact looked))); (apply dw_look; (· exact rfl); (· exact rfl); (· (exact looked))); (apply dw_pure; (· exact rfl); (· exact rfl); (· (intro G; exact looked))); (apply dw_pure; (· exact rfl); (· exact rfl); (· (intro G; (refine s_sub rfl rfl rfl ?_ rfl ?_; (· omega)); exact looked))); (apply dw_pure; (· exact rfl); (· exact rfl); (· (intro G; refine s_max2 rfl rfl hmax rfl ?_; exact looked))); (apply dw_pure; (· exact rfl); (· exact rfl); (· (intro G; (apply s_sliceL (l := (c.laps.length + 1 - 64)); (· exact rfl); (· exact rfl); (· omega); (· omega); (· exact rfl)); exact looked))); (apply dw_pure; (· exact rfl); (· exact rfl); (· (intro G; exact looked))); (apply dw_pure; (· exact rfl); (· exact rfl); (· (intro G; exact looked))); skip)
  refine dw_do0 rfl rfl ?_ dw_stop
  refine s_store1 (v := .slice _ _ _) rfl rfl rfl rfl ?_
  refine wpl_nil (qone0 ⟨(by refine st_past (by kernel_rfl) ?_; refine st_past (by kernel_rfl) ?_; exact st_nil), ?_⟩)
  (refine dw_nil ?_; skip)
  refine walk ?_
  have hcut := Slid.cut (e := 2) (ao := ao') (cap := cap') (cs := zs (c.laps ++ [c.now])) (n := c.laps.length + 1) (l := c.laps.length + 1 - 64) (by omega)
  rw [zs_drop, zs_push] at hcut
  (first | refine ret1 (v := .int _ _) (.inr rfl) rfl rfl ?_ | refine ret1  (.inr rfl) rfl rfl ?_ | refine ret1 (v := .int _ _) (.inl rfl) rfl rfl ?_ | refine ret1  (.inl rfl) rfl rfl ?_)
  refine ⟨Ent.trans ?_ (clk_back (c := markC c) (ao := partAddr ao' cap' (c.laps.length + 1 - 64) 1) (cap := cap' - (c.laps.length + 1 - 64)) ⟨by rw [hlen]; omega, by unfold maxLen; omega⟩), by rw [hlen]⟩
  rw [hlen]
  exact Ent.step (Ent.refl (blk b [.int .i64 c.now, .slice (partAddr ao' cap' (c.laps.length + 1 - 64) 1) (c.laps.length + 1 - (c.laps.length + 1 - 64)) (cap' - (c.laps.length + 1 - 64))] 28)) (Ent.step hcut Ent.auto)
theorem cLaps (hl : c.laps.length ≤ 100000) [i : HasAt ClkAt H b c F] : Does Tryd.prog B 13 [.pointer (some ⟨b, 0, none⟩)] H fun r H' => H' = Mine 2 1 r c.laps.length (zs c.laps) + H := by
  refine Does.weak (R := fun r H' => Ent H' (Mine 2 1 r c.laps.length (zs c.laps) + H)) ?_ fun v H1 e => ⟨_, e, rfl⟩
  rw [i.eq]
  refine Does.clk fun ao cap h1 h2 => ?_
  have hrd : ∀ w, Holds B (blk b [.int .i64 c.now, .slice ao c.laps.length cap] 28 + (Slid 2 (.slice ao c.laps.length cap) c.laps.length (zs c.laps) + F)) w → Rd B (Slid 2 (.slice ao c.laps.length cap) c.laps.length (zs c.laps)) 1 (.slice ao c.laps.length cap) c.laps.length (zs c.laps) := fun w hw => Slid.rd ⟨w, hw.drop_left.drop_right⟩
  refine Does.know hrd fun rd => ?_
  refine fn_intro 10 Tryd.func13 rfl rfl rfl ?_
  refine walk ?_
  refine s_call rfl (cloneI (rd.ent InH.ent) (zs_one _) (by omega)) rfl ?_
  rintro r _ rfl
  refine walk ?_
  exact ret1 (.inr rfl) rfl rfl ((clk_back ⟨h1, h2⟩).frame_left _)
theorem cCopy (hl : c.laps.length ≤ 100000) [i : HasAt ClkAt H b c F] : Does Tryd.prog B 16 [.pointer (some ⟨b, 0, none⟩)] H fun r H' => ∃ b', r = .pointer (some ⟨b', 0, none⟩) ∧ H' = ClkAt b' c + H := by
  refine Does.weak (R := fun r H' => ∃ b', r = .pointer (some ⟨b', 0, none⟩) ∧ Ent H' (ClkAt b' c + H)) ?_ fun v H1 ⟨b', e, h⟩ => ⟨_, h, b', e, rfl⟩
  rw [i.eq]
  refine Does.clk fun ao cap h1 h2 => ?_
  have hrd : ∀ w, Holds B (blk b [.int .i64 c.now, .slice ao c.laps.length cap] 28 + (Slid 2 (.slice ao c.laps.length cap) c.laps.length (zs c.laps) + F)) w → Rd B (Slid 2 (.slice ao c.laps.length cap) c.laps.length (zs c.laps)) 1 (.slice ao c.laps.length cap) c.laps.length (zs c.laps) := fun w hw => Slid.rd ⟨w, hw.drop_left.drop_right⟩
  refine Does.know hrd fun rd => ?_
  have hct : Cells B (blk b [.int .i64 c.now, .slice ao c.laps.length cap] 28 + (Slid 2 (.slice ao c.laps.length cap) c.laps.length (zs c.laps) + F)) b 0 [.int .i64 c.now] := Cells.blk fun j v h => by
    match j, h with
    | 0, h => exact h
    | j + 1, h => simp at h
  refine fn_intro 16 Tryd.func16 rfl rfl rfl ?_
  refine walk ?_
  (refine wp_draw [8, 10] (.look 0 (.look 1 (.look 2 (.look 3 (.look 4 (.look 5 (.look 6 (.look 7 (.act 8 (.look 9 (.act 10 (.look 11 .nil) .stop)) .stop))))))))) (by kernel_rfl) ?_; (apply dw_pure; (· exact rfl); (· exact rfl); (· (intro G; exact looked))); (apply dw_pure; (· exact rfl); (· exact rfl); (· (intro G; exact looked))); (apply dw_pure; (· exact rfl); (· exact rfl); (· (intro G; exact looked))); (apply dw_look; (· exact rfl); (· exact rfl); (· (exact looked))); (apply dw_pure; (· exact rfl); (· exact rfl); (· (intro G; exact looked))); (apply dw_pure; (· exact rfl); (· exact rfl); (· (intro G; exact looked))); (apply dw_pure; (· exact rfl); (· exact rfl); (· (intro G; exact looked))); (apply dw_look; (· exact rfl); (· exact rfl); (· (exact looked))); skip)
  refine dw_do rfl rfl ?_ dw_stop
  refine s_call rfl (cloneI (rd.ent InH.ent) (zs_one _) (by omega)) rfl ?_
  rintro r _ rfl
  refine WPL.shape fun ao2 cap2 hv _ hk1 hk2 => ?_
  subst hv
  refine wpl_nil (qone ⟨(by refine st_past (by kernel_rfl) ?_; (refine st_again ?_ ?_; (· exact looked)); exact st_nil), ?_⟩)
  ((apply dw_pure; (· exact rfl); (· exact rfl); (· (intro G; refine s_build (cs := [.int .i64 c.now, .slice ao2 c.laps.length cap2]) ?_ rfl ?_; (· kernel_rfl); exact looked))); skip)
  refine dw_do rfl rfl ?_ dw_stop
  refine s_box (cs := [.int .i64 c.now, .slice ao2 c.laps.length cap2]) rfl rfl rfl ?_
  intro b'
  refine wpl_nil (qone ⟨(by refine st_past (by kernel_rfl) ?_; refine st_past (by kernel_rfl) ?_; exact st_nil), ?_⟩)
  ((apply dw_pure; (· exact rfl); (· exact rfl); (· (intro G; exact looked))); refine dw_nil ?_; skip)
  refine walk ?_
  (first | refine ret1 (v := .pointer _) (.inr rfl) rfl rfl ?_ | refine ret1  (.inr rfl) rfl rfl ?_ | refine ret1 (v := .pointer _) (.inl rfl) rfl rfl ?_ | refine ret1  (.inl rfl) rfl rfl ?_)
  refine ⟨b', rfl, Ent.trans ?_ (clk_back (b := b') (c := c) (ao := ao2) (cap := cap2) (F := ClkAt b c + F) ⟨hk1, hk2⟩)⟩
  refine Ent.step (Ent.refl (blk b' [.int .i64 c.now, .slice ao2 c.laps.length cap2] 28)) (Ent.step (Slid.of_mine (e := 2) (v := .slice ao2 c.laps.length cap2) (n := c.laps.length) (cs := zs c.laps)) ?_)
  exact clk_back ⟨h1, h2⟩
end
end Go.Proofs.YtipbcccjhaommaaDoor
