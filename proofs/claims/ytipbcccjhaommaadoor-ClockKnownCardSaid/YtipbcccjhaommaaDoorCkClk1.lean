/- A clock: how it lies, what is added, what is told. No condition. -/
import Derived.Test.YtipbcccjhaommaaDoorCkSpan3
import Derived.Test.YtipbcccjhaommaaDoorSL4
namespace Go.Proofs.YtipbcccjhaommaaDoor
open Go Go.SL Go.SL.Flo
set_option linter.unusedSimpArgs false
set_option linter.unusedVariables false
set_option maxRecDepth 10000
set_option maxHeartbeats 2000000
structure Clk where
  now : Int
  laps : List Int
def ClkX (b : Nat) (s : Value) (c : Clk) : HProp := blk b [.int .i64 c.now, s] 28 + Slid 2 s c.laps.length (zs c.laps)
/-- A clock. -/
def ClkAt (b : Nat) (c : Clk) : HProp := ex fun x : Option Addr × Nat => fact (c.laps.length ≤ x.2 ∧ x.2 ≤ maxLen) (ClkX b (.slice x.1 c.laps.length x.2) c)
def addC (c : Clk) (n : Int) : Clk := ⟨sumI [c.now, n], c.laps⟩
instance (w : Nat) : Decidable (FGood w) := inferInstanceAs (Decidable (_ ∨ _))
/-- Milliseconds are added up to the first that have no span. -/
def milGo : Clk → Nat → List Nat → Clk × Nat × Int
  | c, k, [] => (c, k, 0)
  | c, k, f :: fs => if FGood f then milGo (addC c (nanosR (f % 2 ^ 63) : Nat)) (k + 1) fs else (c, k, 10)
def sinceC (c : Clk) (t : Int) : Int := max 0 (c.now - max 0 t)
theorem milGo_laps : ∀ (fs : List Nat) (c : Clk) (k : Nat), (milGo c k fs).1.laps = c.laps
  | [], c, k => rfl
  | f :: fs, c, k => by
    unfold milGo
    split
    · rw [milGo_laps fs]; rfl
    · rfl
theorem sum_two (a b : Int) : sumI [a, b] = min (min (clampI a) 4611686018427387904 + clampI b) 4611686018427387904 := by
  rw [sum_all]
  have := clampI_range a
  have := clampI_range b
  simp only [List.map_cons, List.map_nil, List.foldl_cons, List.foldl_nil]
  omega
attribute [local irreducible] WP WPL QSeq QBlk QRet Does Cell Cells Rd Mine Ent Aside RV e0 Slid QScp
section
variable {B : World} {F H : HProp} {b : Nat} {n t d now : Int} {c : Clk} {s : Value} {e : TypeId} {ao : Option Addr} {cap : Nat} {f : FuncId} {args : List Value} {R : Value → HProp → Prop}
theorem clk_shut (h : c.laps.length ≤ cap ∧ cap ≤ maxLen) : Ent (ClkX b (.slice ao c.laps.length cap) c) (ClkAt b c) :=
  (Ent.fact_in h).trans (Ent.ex_in (G := fun x : Option Addr × Nat => fact (c.laps.length ≤ x.2 ∧ x.2 ≤ maxLen) (ClkX b (.slice x.1 c.laps.length x.2) c)) (ao, cap))
theorem clk_back (h : c.laps.length ≤ cap ∧ cap ≤ maxLen) : Ent (blk b [.int .i64 c.now, .slice ao c.laps.length cap] 28 + (Slid 2 (.slice ao c.laps.length cap) c.laps.length (zs c.laps) + F)) (ClkAt b c + F) := by
  rw [← HProp.add_assoc]
  exact (clk_shut h).frame_right F
theorem Does.clk (k : ∀ ao cap, c.laps.length ≤ cap → cap ≤ maxLen → Does Tryd.prog B f args (blk b [.int .i64 c.now, .slice ao c.laps.length cap] 28 + (Slid 2 (.slice ao c.laps.length cap) c.laps.length (zs c.laps) + F)) R) : Does Tryd.prog B f args (ClkAt b c + F) R := by
  unfold ClkAt
  refine Does.ex fun y => Does.fact fun hy => ?_
  have e : ClkX b (.slice y.1 c.laps.length y.2) c + F = blk b [.int .i64 c.now, .slice y.1 c.laps.length y.2] 28 + (Slid 2 (.slice y.1 c.laps.length y.2) c.laps.length (zs c.laps) + F) := by unfold ClkX; rw [HProp.add_assoc]
  rw [e]
  exact k y.1 y.2 hy.1 hy.2
theorem clk_new : Ent (blk b [.int .i64 0, .slice none 0 0] 28 + F) (ClkAt b ⟨0, []⟩ + F) := by
  refine Ent.trans ?_ (clk_back (c := ⟨0, []⟩) (ao := none) (cap := 0) ⟨Nat.le_refl _, Nat.zero_le _⟩)
  show Ent _ (blk b [.int .i64 0, .slice none 0 0] 28 + (Slid 2 (.slice none 0 0) 0 [] + F))
  rw [Slid.nil, HProp.emp_add]
  exact Ent.refl _
theorem timeOn : Does Tryd.prog B 23 [.pointer (some ⟨b, 0, none⟩), .int .i64 n] (blk b [.int .i64 now, s] e + F) fun r H' => H' = blk b [.int .i64 (sumI [now, n]), s] e + F := by
  refine Does.weak (R := fun r H' => Ent H' (blk b [.int .i64 (sumI [now, n]), s] e + F)) ?_ fun v H1 e => ⟨_, e, rfl⟩
  refine fn_intro 14 Tryd.func23 rfl rfl rfl ?_
  refine walk ?_
  refine s_buildInts (cs := zs [now, n]) rfl rfl rfl rfl rfl ?_
  intro b2
  refine s_call rfl (sumP (l := [now, n]) (Rd.blk0 (e := 2) rfl (by simp [maxLen]))) rfl ?_
  rintro _ _ ⟨e_, rfl⟩
  obtain rfl := e_.symm
  refine walk ?_
  refine s_store1 (v := .int .i64 _) rfl rfl rfl rfl ?_
  refine walk ?_
  (first | exact ret0 (.inl rfl) rfl Ent.auto | exact ret0 (.inr rfl) rfl Ent.auto)
theorem timeGone (hn : 0 ≤ now ∧ now ≤ 4611686018427387904) (ht : t < 9223372036854775808) : Does Tryd.prog B 24 [.pointer (some ⟨b, 0, none⟩), .int .i64 t] (blk b [.int .i64 now, s] e + F) fun r H' => H' = blk b [.int .i64 now, s] e + F ∧ r = .int .i64 (max 0 (now - max 0 t)) := by
  refine fn_intro 13 Tryd.func24 rfl rfl rfl ?_
  refine walk ?_
  refine s_max2 rfl rfl rfl rfl ?_
  refine walk ?_
  refine s_max2 rfl rfl rfl rfl ?_
  refine walk ?_
  (first | refine ret1 (v := .int _ _) (.inr rfl) rfl rfl ?_ | refine ret1  (.inr rfl) rfl rfl ?_ | refine ret1 (v := .int _ _) (.inl rfl) rfl rfl ?_ | refine ret1  (.inl rfl) rfl rfl ?_)
  exact ⟨rfl, rfl⟩
theorem cNow [i : HasAt ClkAt H b c F] : Does Tryd.prog B 8 [.pointer (some ⟨b, 0, none⟩)] H fun r H' => H' = H ∧ r = .int .i64 c.now := by
  refine Does.atSame (A := ClkAt) (i := b) (x := c) (Does.clk fun ao cap h1 h2 => ?_)
  refine fn_intro 10 Tryd.func8 rfl rfl rfl ?_
  refine walk ?_
  (first | refine ret1 (v := .int _ _) (.inr rfl) rfl rfl ?_ | refine ret1  (.inr rfl) rfl rfl ?_ | refine ret1 (v := .int _ _) (.inl rfl) rfl rfl ?_ | refine ret1  (.inl rfl) rfl rfl ?_)
  exact ⟨clk_back ⟨h1, h2⟩, rfl⟩
theorem cText (T : Tab B) [i : HasAt ClkAt H b c F] : Does Tryd.prog B 21 [.pointer (some ⟨b, 0, none⟩)] H fun r H' => H' = H ∧ r = str (textS c.now) := by
  refine Does.atSame (A := ClkAt) (i := b) (x := c) (Does.clk fun ao cap h1 h2 => ?_)
  refine fn_intro 11 Tryd.func21 rfl rfl rfl ?_
  refine walk ?_
  refine s_call rfl (textP T (n := c.now)) rfl ?_
  rintro _ _ ⟨e_, rfl⟩
  obtain rfl := e_.symm
  refine walk ?_
  (first | refine ret1 (v := .string _) (.inr rfl) rfl rfl ?_ | refine ret1  (.inr rfl) rfl rfl ?_ | refine ret1 (v := .string _) (.inl rfl) rfl rfl ?_ | refine ret1  (.inl rfl) rfl rfl ?_)
  exact ⟨clk_back ⟨h1, h2⟩, rfl⟩
theorem cFull [i : HasAt ClkAt H b c F] : Does Tryd.prog B 12 [.pointer (some ⟨b, 0, none⟩)] H fun r H' => H' = H ∧ r = .bool (decide (c.now = 4611686018427387904)) := by
  refine Does.atSame (A := ClkAt) (i := b) (x := c) (Does.clk fun ao cap h1 h2 => ?_)
  by_cases h : c.now = 4611686018427387904
  · rw [decide_eq_true h]
    refine fn_intro 13 Tryd.func12 rfl rfl rfl ?_
    refine walk ?_
    (first | refine ret1 (v := .bool _) (.inr rfl) rfl rfl ?_ | refine ret1  (.inr rfl) rfl rfl ?_ | refine ret1 (v := .bool _) (.inl rfl) rfl rfl ?_ | refine ret1  (.inl rfl) rfl rfl ?_)
    exact ⟨clk_back ⟨h1, h2⟩, rfl⟩
  · rw [decide_eq_false h]
    refine fn_intro 13 Tryd.func12 rfl rfl rfl ?_
    refine walk ?_
    (first | refine ret1 (v := .bool _) (.inr rfl) rfl rfl ?_ | refine ret1  (.inr rfl) rfl rfl ?_ | refine ret1 (v := .bool _) (.inl rfl) rfl rfl ?_ | refine ret1  (.inl rfl) rfl rfl ?_)
    exact ⟨clk_back ⟨h1, h2⟩, rfl⟩
theorem cAdd [i : HasAt ClkAt H b c F] : Does Tryd.prog B 9 [.pointer (some ⟨b, 0, none⟩), .int .i64 n] H fun r H' => H' = ClkAt b (if n < 0 then c else addC c n) + F ∧ r = .int .i64 (if n < 0 then 2 else 0) := by
  refine Does.weak (R := fun r H' => Ent H' (ClkAt b (if n < 0 then c else addC c n) + F) ∧ r = .int .i64 (if n < 0 then 2 else 0)) ?_ fun v H1 ⟨e, h⟩ => ⟨_, e, rfl, h⟩
  rw [i.eq]
  refine Does.clk fun ao cap h1 h2 => ?_
  by_cases h : n < 0
  · rw [if_pos h, if_pos h]
    refine fn_intro 16 Tryd.func9 rfl rfl rfl ?_
    refine walk ?_
    (first | refine ret1 (v := .int _ _) (.inr rfl) rfl rfl ?_ | refine ret1  (.inr rfl) rfl rfl ?_ | refine ret1 (v := .int _ _) (.inl rfl) rfl rfl ?_ | refine ret1  (.inl rfl) rfl rfl ?_)
    exact ⟨clk_back ⟨h1, h2⟩, rfl⟩
  · rw [if_neg h, if_neg h]
    refine fn_intro 16 Tryd.func9 rfl rfl rfl ?_
    refine walk ?_
    refine s_call rfl (timeOn (n := n)) rfl ?_
    rintro _ _ rfl
    refine walk ?_
    (first | refine ret1 (v := .int _ _) (.inr rfl) rfl rfl ?_ | refine ret1  (.inr rfl) rfl rfl ?_ | refine ret1 (v := .int _ _) (.inl rfl) rfl rfl ?_ | refine ret1  (.inl rfl) rfl rfl ?_)
    exact ⟨clk_back (c := addC c n) ⟨h1, h2⟩, rfl⟩
theorem cSince (hn : 0 ≤ c.now ∧ c.now ≤ 4611686018427387904) (ht : t < 9223372036854775808) [i : HasAt ClkAt H b c F] : Does Tryd.prog B 20 [.pointer (some ⟨b, 0, none⟩), .int .i64 t] H fun r H' => H' = H ∧ r = .int .i64 (sinceC c t) := by
  refine Does.atSame (A := ClkAt) (i := b) (x := c) (Does.clk fun ao cap h1 h2 => ?_)
  refine fn_intro 12 Tryd.func20 rfl rfl rfl ?_
  refine walk ?_
  refine s_call rfl (timeGone hn ht) rfl ?_
  rintro _ _ ⟨rfl, rfl⟩
  refine walk ?_
  (first | refine ret1 (v := .int _ _) (.inr rfl) rfl rfl ?_ | refine ret1  (.inr rfl) rfl rfl ?_ | refine ret1 (v := .int _ _) (.inl rfl) rfl rfl ?_ | refine ret1  (.inl rfl) rfl rfl ?_)
  exact ⟨clk_back ⟨h1, h2⟩, rfl⟩
theorem cDue (hn : 0 ≤ c.now ∧ c.now ≤ 4611686018427387904) (ht : t < 9223372036854775808) [i : HasAt ClkAt H b c F] : Does Tryd.prog B 11 [.pointer (some ⟨b, 0, none⟩), .int .i64 t, .int .i64 d] H fun r H' => H' = H ∧ r = .bool (decide (d ≤ sinceC c t)) := by
  refine Does.atSame (A := ClkAt) (i := b) (x := c) (Does.clk fun ao cap h1 h2 => ?_)
  by_cases h : d ≤ sinceC c t
  · rw [decide_eq_true h]
    refine fn_intro 18 Tryd.func11 rfl rfl rfl ?_
    refine walk ?_
    refine s_call rfl (timeGone hn ht) rfl ?_
    rintro _ _ ⟨rfl, rfl⟩
    rw [show max 0 (c.now - max 0 t) = sinceC c t from rfl]
    refine walk ?_
    (first | refine ret1 (v := .bool _) (.inr rfl) rfl rfl ?_ | refine ret1  (.inr rfl) rfl rfl ?_ | refine ret1 (v := .bool _) (.inl rfl) rfl rfl ?_ | refine ret1  (.inl rfl) rfl rfl ?_)
    exact ⟨clk_back ⟨h1, h2⟩, rfl⟩
  · rw [decide_eq_false h]
    refine fn_intro 18 Tryd.func11 rfl rfl rfl ?_
    refine walk ?_
    refine s_call rfl (timeGone hn ht) rfl ?_
    rintro _ _ ⟨rfl, rfl⟩
    rw [show max 0 (c.now - max 0 t) = sinceC c t from rfl]
    refine walk ?_
    (first | refine ret1 (v := .bool _) (.inr rfl) rfl rfl ?_ | refine ret1  (.inr rfl) rfl rfl ?_ | refine ret1 (v := .bool _) (.inl rfl) rfl rfl ?_ | refine ret1  (.inl rfl) rfl rfl ?_)
    exact ⟨clk_back ⟨h1, h2⟩, rfl⟩
theorem milGo_step {f : Nat} {fs : List Nat} {k : Nat} (h : FGood f) : milGo c k (f :: fs) = milGo (addC c (nanosR (f % 2 ^ 63) : Nat)) (k + 1) fs := by
  rw [milGo, if_pos h]
theorem cMillis {fs : List Nat} [i : HasAt ClkAt H b c F] (hs : Rd B F 1 s fs.length (fs.map flt)) (hf : ∀ f ∈ fs, f < 2 ^ 64) (hl : fs.length ≤ 1000000) :
    Does Tryd.prog B 19 [.pointer (some ⟨b, 0, none⟩), s] H fun r H' => H' = ClkAt b (milGo c 0 fs).1 + F ∧ r = .tuple #[.int .i64 ((milGo c 0 fs).2.1 : Nat), .int .i64 (milGo c 0 fs).2.2] := by
  refine Does.weak (R := fun r H' => Ent H' (ClkAt b (milGo c 0 fs).1 + F) ∧ r = .tuple #[.int .i64 ((milGo c 0 fs).2.1 : Nat), .int .i64 (milGo c 0 fs).2.2]) ?_ fun v H1 ⟨e, h⟩ => ⟨_, e, rfl, h⟩
  rw [i.eq]
  refine Does.clk fun ao cap h1 h2 => ?_
  unfold Rd at hs
  obtain ⟨ao2, cap2, rfl, hln, hm, hc⟩ := hs
  unfold maxLen at hm
  refine fn_intro 35 Tryd.func19 rfl rfl rfl ?_
  refine walk ?_
  refine wp_scope' ?_
  refine walk ?_
  refine wp_label' ?_
  refine walk ?_
  refine wp_loopF (α := Nat × Int) [4, 5, 7, 8, 13, 14, 15, 16, 17, 18, 19, 20, 21, 22, 23, 24, 25, 26, 27, 28, 29, 30, 31, 32] (fun x => [(13, .int .i64 x.1), (4, .int .i64 x.1), (5, .int .i64 0)]) (fun x => blk b [.int .i64 x.2, .slice ao c.laps.length cap] 28 + (Slid 2 (.slice ao c.laps.length cap) c.laps.length (zs c.laps) + F)) (fun x => x.1 ≤ fs.length ∧ milGo c 0 fs = milGo ⟨x.2, c.laps⟩ x.1 (fs.drop x.1)) (fun x => fs.length - x.1) (0, c.now) agreed (Ent.refl _) ⟨Nat.zero_le _, by simp⟩ ?_
  rintro ⟨k, now⟩ g ⟨hk, hmil⟩
  simp only at hk hmil
  simp only [putAll]
  by_cases hlt : k < fs.length
  · obtain ⟨bl, o, rfl, hcs⟩ := Rd.addr hln hc (by omega : k < fs.length)
    have hcell := hcs.cell (j := k) (v := flt fs[k]) (by rw [List.getElem?_map, List.getElem?_eq_getElem hlt]; rfl)
    have hb64 := hf fs[k] (List.getElem_mem hlt)
    have hdrop : fs.drop k = fs[k] :: fs.drop (k + 1) := List.drop_eq_getElem_cons hlt
    rw [hdrop] at hmil
    by_cases hg : FGood fs[k]
    · have hnv := nanV_good hg
      rw [milGo_step hg] at hmil
      refine walk ?_
      refine s_call rfl (nanos_spec hb64) rfl ?_
      rintro _ _ ⟨e_, rfl⟩
      obtain rfl := e_.symm
      refine walk ?_
      rw [hnv]
      refine walk ?_
      refine s_call rfl (timeOn (n := ((nanosR (fs[k] % 2 ^ 63) : Nat) : Int))) rfl ?_
      rintro _ _ rfl
      refine walk ?_
      exact ⟨(k + 1, sumI [now, ((nanosR (fs[k] % 2 ^ 63) : Nat) : Int)]), asided, agreed, Ent.refl _, ⟨hlt, hmil⟩, by simp only; omega⟩
    · have hnv := nanV_bad hg
      rw [milGo, if_neg hg] at hmil
      rw [hmil]
      refine walk ?_
      refine s_call rfl (nanos_spec hb64) rfl ?_
      rintro _ _ ⟨e_, rfl⟩
      obtain rfl := e_.symm
      refine walk ?_
      rw [hnv]
      refine walk ?_
      refine q_scp_ret ?_
      (first | refine ret2 (v := .int _ _) (x := .int _ _) (.inr rfl) rfl rfl rfl ?_ | refine ret2  (.inr rfl) rfl rfl rfl ?_ | refine ret2 (v := .int _ _) (x := .int _ _) (.inl rfl) rfl rfl rfl ?_ | refine ret2  (.inl rfl) rfl rfl rfl ?_)
      exact ⟨clk_back (c := ⟨now, c.laps⟩) ⟨h1, h2⟩, rfl⟩
  · obtain rfl : k = fs.length := by omega
    rw [List.drop_length, milGo] at hmil
    rw [hmil]
    refine walk ?_
    refine q_scp_ret ?_
    (first | refine ret2 (v := .int _ _) (x := .int _ _) (.inr rfl) rfl rfl rfl ?_ | refine ret2  (.inr rfl) rfl rfl rfl ?_ | refine ret2 (v := .int _ _) (x := .int _ _) (.inl rfl) rfl rfl rfl ?_ | refine ret2  (.inl rfl) rfl rfl rfl ?_)
    exact ⟨clk_back (c := ⟨now, c.laps⟩) ⟨h1, h2⟩, rfl⟩
theorem nilNow : Does Tryd.prog B 8 [.pointer none] H fun r H' => H' = H ∧ r = .int .i64 0 := by
  refine fn_intro 10 Tryd.func8 rfl rfl rfl ?_
  refine walk ?_
  (first | refine ret1 (v := .int _ _) (.inr rfl) rfl rfl ?_ | refine ret1  (.inr rfl) rfl rfl ?_ | refine ret1 (v := .int _ _) (.inl rfl) rfl rfl ?_ | refine ret1  (.inl rfl) rfl rfl ?_)
  exact ⟨rfl, rfl⟩
theorem nilAdd : Does Tryd.prog B 9 [.pointer none, .int .i64 n] H fun r H' => H' = H ∧ r = .int .i64 1 := by
  refine fn_intro 16 Tryd.func9 rfl rfl rfl ?_
  refine walk ?_
  (first | refine ret1 (v := .int _ _) (.inr rfl) rfl rfl ?_ | refine ret1  (.inr rfl) rfl rfl ?_ | refine ret1 (v := .int _ _) (.inl rfl) rfl rfl ?_ | refine ret1  (.inl rfl) rfl rfl ?_)
  exact ⟨rfl, rfl⟩
theorem nilMark : Does Tryd.prog B 10 [.pointer none] H fun r H' => H' = H ∧ r = .int .i64 0 := by
  refine fn_intro 39 Tryd.func10 rfl rfl rfl ?_
  refine walk ?_
  (first | refine ret1 (v := .int _ _) (.inr rfl) rfl rfl ?_ | refine ret1  (.inr rfl) rfl rfl ?_ | refine ret1 (v := .int _ _) (.inl rfl) rfl rfl ?_ | refine ret1  (.inl rfl) rfl rfl ?_)
  exact ⟨rfl, rfl⟩
theorem nilDue : Does Tryd.prog B 11 [.pointer none, .int .i64 t, .int .i64 d] H fun r H' => H' = H ∧ r = .bool false := by
  refine fn_intro 18 Tryd.func11 rfl rfl rfl ?_
  refine walk ?_
  (first | refine ret1 (v := .bool _) (.inr rfl) rfl rfl ?_ | refine ret1  (.inr rfl) rfl rfl ?_ | refine ret1 (v := .bool _) (.inl rfl) rfl rfl ?_ | refine ret1  (.inl rfl) rfl rfl ?_)
  exact ⟨rfl, rfl⟩
theorem nilFull : Does Tryd.prog B 12 [.pointer none] H fun r H' => H' = H ∧ r = .bool false := by
  refine fn_intro 13 Tryd.func12 rfl rfl rfl ?_
  refine walk ?_
  (first | refine ret1 (v := .bool _) (.inr rfl) rfl rfl ?_ | refine ret1  (.inr rfl) rfl rfl ?_ | refine ret1 (v := .bool _) (.inl rfl) rfl rfl ?_ | refine ret1  (.inl rfl) rfl rfl ?_)
  exact ⟨rfl, rfl⟩
theorem nilLaps : Does Tryd.prog B 13 [.pointer none] H fun r H' => H' = H ∧ r = .slice none 0 0 := by
  refine fn_intro 10 Tryd.func13 rfl rfl rfl ?_
  refine walk ?_
  (first | refine ret1 (v := .slice _ _ _) (.inr rfl) rfl rfl ?_ | refine ret1  (.inr rfl) rfl rfl ?_ | refine ret1 (v := .slice _ _ _) (.inl rfl) rfl rfl ?_ | refine ret1  (.inl rfl) rfl rfl ?_)
  exact ⟨rfl, rfl⟩
theorem nilCopy : Does Tryd.prog B 16 [.pointer none] H fun r H' => H' = H ∧ r = .pointer none := by
  refine fn_intro 16 Tryd.func16 rfl rfl rfl ?_
  refine walk ?_
  (first | refine ret1 (v := .pointer _) (.inr rfl) rfl rfl ?_ | refine ret1  (.inr rfl) rfl rfl ?_ | refine ret1 (v := .pointer _) (.inl rfl) rfl rfl ?_ | refine ret1  (.inl rfl) rfl rfl ?_)
  exact ⟨rfl, rfl⟩
theorem nilSince : Does Tryd.prog B 20 [.pointer none, .int .i64 t] H fun r H' => H' = H ∧ r = .int .i64 0 := by
  refine fn_intro 12 Tryd.func20 rfl rfl rfl ?_
  refine walk ?_
  (first | refine ret1 (v := .int _ _) (.inr rfl) rfl rfl ?_ | refine ret1  (.inr rfl) rfl rfl ?_ | refine ret1 (v := .int _ _) (.inl rfl) rfl rfl ?_ | refine ret1  (.inl rfl) rfl rfl ?_)
  exact ⟨rfl, rfl⟩
theorem nilText : Does Tryd.prog B 21 [.pointer none] H fun r H' => H' = H ∧ r = str [] := by
  refine fn_intro 11 Tryd.func21 rfl rfl rfl ?_
  refine walk ?_
  (first | refine ret1 (v := .string _) (.inr rfl) rfl rfl ?_ | refine ret1  (.inr rfl) rfl rfl ?_ | refine ret1 (v := .string _) (.inl rfl) rfl rfl ?_ | refine ret1  (.inl rfl) rfl rfl ?_)
  exact ⟨rfl, rfl⟩
theorem nilMillis : Does Tryd.prog B 19 [.pointer none, s] H fun r H' => H' = H ∧ r = .tuple #[.int .i64 0, .int .i64 1] := by
  refine fn_intro 35 Tryd.func19 rfl rfl rfl ?_
  refine walk ?_
  refine wp_scope' ?_
  refine walk ?_
  refine q_scp_ret ?_
  (first | refine ret2 (v := .int _ _) (x := .int _ _) (.inr rfl) rfl rfl rfl ?_ | refine ret2  (.inr rfl) rfl rfl rfl ?_ | refine ret2 (v := .int _ _) (x := .int _ _) (.inl rfl) rfl rfl rfl ?_ | refine ret2  (.inl rfl) rfl rfl rfl ?_)
  exact ⟨rfl, rfl⟩
end
end Go.Proofs.YtipbcccjhaommaaDoor
