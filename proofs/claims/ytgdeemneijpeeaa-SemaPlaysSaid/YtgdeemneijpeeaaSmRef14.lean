/- The document's line of numbers. No condition. -/
import Derived.Test.YtgdeemneijpeeaaSmInst
import Derived.Test.YtgdeemneijpeeaaSLRange
import Derived.Test.YtgdeemneijpeeaaSLArr
import Derived.Test.YtgdeemneijpeeaaSLWalk2
namespace Go.Proofs.Ytgdeemneijpeeaa
open Go Go.SL
set_option linter.unusedSimpArgs false
set_option linter.unusedVariables false
set_option maxRecDepth 10000
set_option maxHeartbeats 1000000
attribute [local irreducible] WP WPL QSeq QBlk QRet Does Cell Cells Rd Mine Ent Aside RV Yield
section
variable {B : World} {F H G : HProp} {L x y : List Int} {g : Int} {r : Value}
theorem join14 {a b : Value} (ha : Rd B H 1 a x.length (zs x)) (hb : Rd B H 1 b y.length (zs y)) (h1 : x.length ≤ 1000000) (h2 : y.length ≤ 1000000) :
    Does Try.prog B 32 [a, b] H fun r H' => H' = Mine 3 1 r (x ++ y).length (zs (x ++ y)) + H := by
  refine fn_intro 12 Try.func32 rfl rfl rfl ?_
  refine walk ?_
  refine WPL.ent (Ent.ac (show _ = Mine 3 1 (.slice none 0 0) 0 [] + H by rw [Mine.nil, HProp.emp_add])) ?_
  refine s_append (v := .slice none 0 0) rfl rfl ha.sub (zs_one _) rfl ?_ rfl ?_
  · simp only [maxLen]; omega
  intro v1
  simp only [Nat.zero_add, List.nil_append]
  refine walk ?_
  refine s_append (v := v1) rfl rfl hb.sub (zs_one _) rfl ?_ rfl ?_
  · simp only [maxLen]; omega
  intro v2
  rw [← zs_append, ← List.length_append]
  refine walk ?_
  exact ret1 (.inr rfl) rfl rfl rfl
/-- Where a number lies; -1: nowhere. -/
def posI (g : Int) (L : List Int) : Int := match L.findIdx? fun y => decide (y = g) with
  | some i => (i : Nat)
  | none => -1
theorem pos_none (h : g ∉ L) : posI g L = -1 := by
  unfold posI
  rw [List.findIdx?_eq_none_iff.2 fun y hy => by simp only [decide_eq_false_iff_not]; exact fun e => h (e ▸ hy)]
theorem pos_at {k : Nat} (hk : k < L.length) (hn : g ∉ L.take k) (he : L[k] = g) : posI g L = k := by
  unfold posI
  rw [List.findIdx?_eq_some_iff_getElem.2 ⟨hk, by simpa using he, fun j hj => by
    simp only [decide_eq_true_eq]
    intro e
    exact hn (List.mem_iff_getElem?.2 ⟨j, by rw [List.getElem?_take, if_pos hj, List.getElem?_eq_getElem (by omega), e]⟩)⟩]
theorem ahead14 (hr : Rd B H 1 r L.length (zs L)) : Does Try.prog B 31 [r, .int .i64 g] H fun v H' => H' = H ∧ v = .int .i64 (posI g L) := by
  unfold Rd at hr
  obtain ⟨ao, cap, rfl, hl, hm, ha⟩ := hr
  unfold maxLen at hm
  refine fn_intro 19 Try.func31 rfl rfl rfl ?_
  refine walk ?_
  refine wp_loopR (α := Nat) [4, 5, 6, 7, 8, 9, 10, 11, 12, 13, 14, 15, 16, 17, 18] (fun i => [(5, .int .i64 (i : Nat))]) (fun i => i ≤ L.length ∧ g ∉ L.take i) (fun i => L.length - i) 0 agreed ⟨Nat.zero_le _, by simp⟩ ?_
  rintro i f ⟨hi, hn⟩
  simp only [putAll]
  by_cases hlt : i < L.length
  · obtain ⟨bl, ol, rfl, hcl⟩ := Rd.addr hl ha hlt
    by_cases he : L[i] = g
    · refine walk ?_
      (first | refine ret1 (v := .int _ _) (.inr rfl) rfl rfl ?_ | refine ret1  (.inr rfl) rfl rfl ?_ | refine ret1 (v := .int _ _) (.inl rfl) rfl rfl ?_ | refine ret1  (.inl rfl) rfl rfl ?_)
      exact ⟨rfl, by rw [pos_at hlt hn he]⟩
    · refine walk ?_
      refine ⟨i + 1, asided, agreed, Ent.refl _, ⟨hlt, ?_⟩, by omega⟩
      rw [List.take_succ_eq_append_getElem hlt, List.mem_append, List.mem_singleton]
      rintro (h | h)
      · exact hn h
      · exact he h.symm
  · have hie : i = L.length := by omega
    subst hie
    rw [List.take_length] at hn
    refine walk ?_
    (first | refine ret1 (v := .int _ _) (.inr rfl) rfl rfl ?_ | refine ret1  (.inr rfl) rfl rfl ?_ | refine ret1 (v := .int _ _) (.inl rfl) rfl rfl ?_ | refine ret1  (.inl rfl) rfl rfl ?_)
    exact ⟨rfl, by rw [pos_none hn]⟩
theorem push14 {bo : Option Addr} {bc : Nat} (ha : Rd B H 1 r L.length (zs L)) (hb : Rd B H 1 (.slice bo 1 bc) 1 (zs [g])) (hbc : 1 ≤ bc) (hg : g ∉ L) (hL : L.length ≤ 1000000) : Does Try.prog B 16 [r, .slice bo 1 bc] H fun v H' => ∃ u, H' = Mine 3 1 u (L ++ [g]).length (zs (L ++ [g])) + H ∧ v = .tuple #[u, .int .i64 0] := by
  have ha' := ha
  unfold Rd at ha'
  obtain ⟨ao, ac, rfl, hal, ham, haa⟩ := ha'
  have hb' := hb
  unfold Rd at hb'
  obtain ⟨_, _, e_, hl, hm, hbb⟩ := hb'
  cases e_
  obtain ⟨bl, ol, rfl, hcl⟩ := Rd.addr hl hbb (k := 0) (by omega)
  have hcell : Cell B H bl ol (.int .i64 g) := hcl.cell (j := 0) rfl
  refine fn_intro 31 Try.func16 rfl rfl rfl ?_
  refine walk ?_
  refine wp_loopF (α := Option Value) [4, 5, 6, 7, 9, 10, 11, 12, 13, 14, 15, 16, 17, 18, 19, 20, 21, 22, 23, 24, 25, 26, 27, 28, 29] (fun k => match k with | none => [(7, .int .i64 ((0 : Nat) : Int)), (6, .slice ao L.length ac)] | some v => [(7, .int .i64 ((1 : Nat) : Int)), (6, v)]) (fun k => match k with | none => H | some v => Mine 3 1 v (L ++ [g]).length (zs (L ++ [g])) + H) (fun _ => True) (fun k => if k.isNone then 1 else 0) none agreed (Ent.refl _) trivial ?_
  rintro (_ | v) f _
  · simp only [putAll]
    refine walk ?_
    refine s_call rfl (ahead14 (g := g) ha) rfl ?_
    rintro _ _ ⟨e_, rfl⟩
    obtain rfl := e_.symm
    refine walk ?_
    rw [pos_none hg]
    refine walk ?_
    (apply s_sliceLH (l := 0) (h := 1); (· exact rfl); (· exact rfl); (· exact rfl); (· omega); (· omega); (· omega); (· exact rfl))
    refine walk ?_
    have hb1 := hb.sliceLH 0 1 (by omega) (by omega) hbc
    refine s_call rfl (join14 (y := [g]) ha hb1 hL (by simp)) rfl ?_
    rintro v _ rfl
    refine walk ?_
    exact ⟨some v, asided, agreed, Ent.refl _, trivial, by simp⟩
  · simp only [putAll]
    refine walk ?_
    (first | refine ret2 (v := .slice _ _ _) (x := .int _ _) (.inr rfl) rfl rfl rfl ?_ | refine ret2  (.inr rfl) rfl rfl rfl ?_ | refine ret2 (v := .slice _ _ _) (x := .int _ _) (.inl rfl) rfl rfl rfl ?_ | refine ret2  (.inl rfl) rfl rfl rfl ?_)
    exact ⟨v, rfl, rfl⟩
theorem remove14 (hr : Rd B H 1 r L.length (zs L)) (hg : g ∉ L) : Does Try.prog B 44 [r, .int .i64 g] H fun v H' => H' = H ∧ v = .tuple #[r, .bool false] := by
  have ha' := hr
  unfold Rd at ha'
  obtain ⟨ao, ac, rfl, hal, ham, haa⟩ := ha'
  refine fn_intro 21 Try.func44 rfl rfl rfl ?_
  refine walk ?_
  refine s_call rfl (ahead14 (g := g) hr) rfl ?_
  rintro _ _ ⟨e_, rfl⟩
  obtain rfl := e_.symm
  refine walk ?_
  rw [pos_none hg]
  refine walk ?_
  (first | refine ret2 (v := .slice _ _ _) (x := .bool _) (.inr rfl) rfl rfl rfl ?_ | refine ret2  (.inr rfl) rfl rfl rfl ?_ | refine ret2 (v := .slice _ _ _) (x := .bool _) (.inl rfl) rfl rfl rfl ?_ | refine ret2  (.inl rfl) rfl rfl rfl ?_)
  exact ⟨rfl, rfl⟩
theorem remove14_at {ao : Option Addr} {ac k : Nat} (hr : Rd B H 1 (.slice ao L.length ac) L.length (zs L)) (hac : L.length ≤ ac) (hk : k < L.length) (hn : g ∉ L.take k) (he : L[k] = g) (hL : L.length ≤ 1000000) :
    Does Try.prog B 44 [.slice ao L.length ac, .int .i64 g] H fun v H' => ∃ u, H' = Mine 3 1 u (L.eraseIdx k).length (zs (L.eraseIdx k)) + H ∧ v = .tuple #[u, .bool true] := by
  have e1 : L.eraseIdx k = L.take k ++ L.drop (k + 1) := List.eraseIdx_eq_take_drop_succ L k
  have hA : Rd B H 1 (.slice ao k ac) (L.take k).length (zs (L.take k)) := by
    have := hr.sliceH k (by omega)
    rw [Nat.mul_one, zs_take] at this
    rwa [List.length_take, Nat.min_eq_left (by omega)]
  have hB : Rd B H 1 (.slice (partAddr ao ac (k + 1) 1) (L.length - (k + 1)) (ac - (k + 1))) (L.drop (k + 1)).length (zs (L.drop (k + 1))) := by
    have := hr.sliceL (k + 1) (by omega) hac
    rw [Nat.mul_one, zs_drop] at this
    rwa [List.length_drop]
  have hu := hr
  unfold Rd at hu
  obtain ⟨_, _, e_, hl, hm, _⟩ := hu
  unfold maxLen at hm
  refine fn_intro 21 Try.func44 rfl rfl rfl ?_
  refine walk ?_
  refine s_call rfl (ahead14 (g := g) hr) rfl ?_
  rintro _ _ ⟨e_, rfl⟩
  obtain rfl := e_.symm
  refine walk ?_
  rw [pos_at hk hn he]
  refine walk ?_
  (refine wp_draw [7] (.look 0 (.look 1 (.look 2 (.look 3 (.look 4 (.look 5 (.look 6 (.act 7 (.look 8 (.look 9 .nil)) .stop)))))))) (by kernel_rfl) ?_; (apply dw_pure; (· exact rfl); (· exact rfl); (· (intro G; exact looked))); (apply dw_pure; (· exact rfl); (· exact rfl); (· (intro G; exact looked))); (apply dw_pure; (· exact rfl); (· exact rfl); (· (intro G; (apply s_sliceH (h := k); (· exact rfl); (· exact rfl); (· omega); (· omega); (· exact rfl)); exact looked))); (apply dw_pure; (· exact rfl); (· exact rfl); (· (intro G; exact looked))); (apply dw_pure; (· exact rfl); (· exact rfl); (· (intro G; exact looked))); (apply dw_pure; (· exact rfl); (· exact rfl); (· (intro G; exact looked))); (apply dw_pure; (· exact rfl); (· exact rfl); (· (intro G; (apply s_sliceL (l := k + 1); (· exact rfl); (· exact rfl); (· omega); (· omega); (· exact rfl)); exact looked))); skip)
  refine dw_do rfl rfl ?_ dw_stop
  refine s_call rfl (join14 hA hB (by rw [List.length_take]; omega) (by rw [List.length_drop]; omega)) rfl ?_
  rintro v _ rfl
  refine wpl_nil (qone ⟨(by exact st_nil), ?_⟩)
  ((apply dw_pure; (· exact rfl); (· exact rfl); (· (intro G; exact looked))); (apply dw_pure; (· exact rfl); (· exact rfl); (· (intro G; exact looked))); refine dw_nil ?_; skip)
  rw [← e1]
  refine walk ?_
  (first | refine ret2 (v := .slice _ _ _) (x := .bool _) (.inr rfl) rfl rfl rfl ?_ | refine ret2  (.inr rfl) rfl rfl rfl ?_ | refine ret2 (v := .slice _ _ _) (x := .bool _) (.inl rfl) rfl rfl rfl ?_ | refine ret2  (.inl rfl) rfl rfl rfl ?_)
  exact ⟨_, rfl, rfl⟩
end
end Go.Proofs.Ytgdeemneijpeeaa
