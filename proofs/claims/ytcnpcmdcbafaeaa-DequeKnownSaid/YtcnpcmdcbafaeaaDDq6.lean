/- Are two deques alike? Moving from one to another one. No condition. -/
import Derived.Test.YtcnpcmdcbafaeaaDDq5
namespace Go.Proofs.Ytcnpcmdcbafaeaa
open Go Go.SL
set_option linter.unusedSimpArgs false
set_option linter.unusedVariables false
set_option maxRecDepth 10000
set_option maxHeartbeats 1000000

section
variable {B : World} {F H G : HProp} {p p' q : Nat} {L S : List Int} {g : Int} {x y : DqS}
theorem DqAt.there [i : HasAt DqAt H p x F] : There B H p := fun w hw => by
  have h2 : Holds B (DqAt p x + F) w := i.eq ▸ hw
  unfold DqAt at h2
  rw [ex_add] at h2
  obtain ⟨z, hz⟩ := h2.ex_out
  rw [fact_add] at hz
  obtain ⟨_, hz⟩ := hz.fact_out
  unfold DqX at hz
  rw [HProp.add_assoc] at hz
  exact ⟨_, _, hz.obj.1⟩
theorem DqAt.ne [i : HasAt DqAt H p x F] [j : HasAt DqAt F p' y G] {w : World} (hw : Holds B H w) : p ≠ p' := by
  have h2 : Holds B (DqAt p x + (DqAt p' y + G)) w := by rw [← j.eq, ← i.eq]; exact hw
  unfold DqAt at h2
  rw [ex_add] at h2
  obtain ⟨z, hz⟩ := h2.ex_out
  rw [fact_add] at hz
  obtain ⟨_, hz⟩ := hz.fact_out
  rw [HProp.add_left_comm, ex_add] at hz
  obtain ⟨z2, hz⟩ := hz.ex_out
  rw [fact_add] at hz
  obtain ⟨_, hz⟩ := hz.fact_out
  unfold DqX at hz
  have e : blk p' [wd z2.1 z2.2.1, .slice (some ⟨z2.2.2.1.b, 0, none⟩) y.q z2.2.2.1.cap] 58 + blk z2.2.2.1.b (zs z2.2.2.2 ++ z2.2.2.1.sp) 3 + (blk p [wd z.1 z.2.1, .slice (some ⟨z.2.2.1.b, 0, none⟩) x.q z.2.2.1.cap] 58 + blk z.2.2.1.b (zs z.2.2.2 ++ z.2.2.1.sp) 3 + G)
      = blk p [wd z.1 z.2.1, .slice (some ⟨z.2.2.1.b, 0, none⟩) x.q z.2.2.1.cap] 58 + (blk p' [wd z2.1 z2.2.1, .slice (some ⟨z2.2.2.1.b, 0, none⟩) y.q z2.2.2.1.cap] 58 + (blk z2.2.2.1.b (zs z2.2.2.2 ++ z2.2.2.1.sp) 3 + (blk z.2.2.1.b (zs z.2.2.2 ++ z.2.2.1.sp) 3 + G))) := by ac_rfl
  rw [e] at hz
  exact hz.ne
end
attribute [local irreducible] WP WPL QSeq QBlk QRet Does Cell Cells Rd Mine Ent Aside RV DqX DqAt Yield
section
variable {B : World} {F H G : HProp} {p p' q : Nat} {L S : List Int} {g : Int} {x y : DqS}
theorem dSame [i : HasAt DqAt H p x F] [j : HasAt DqAt F p' y G] : Does Try.prog B 23 [ptr p, ptr p'] H fun r H' => H' = H ∧ r = .bool (decide (x.q = y.q ∧ x.l = y.l)) := by
  have e : H = DqAt p x + (DqAt p' y + G) := by rw [← j.eq, ← i.eq]
  subst e
  clear i j
  refine fn_intro 26 Try.func23 rfl rfl rfl ?_
  refine walk ?_
  refine s_call rfl (dRoom) rfl ?_
  rintro _ _ ⟨e_, rfl⟩
  obtain rfl := e_.symm
  refine walk ?_
  refine s_call rfl (dRoom (p := p')) rfl ?_
  rintro _ _ ⟨e_, rfl⟩
  obtain rfl := e_.symm
  refine walk ?_
  by_cases hq : x.q = y.q
  · refine walk ?_
    refine s_call rfl (dAll) rfl ?_
    rintro _ _ rfl
    refine walk ?_
    refine WPL.shape ?_
    rintro a1 c1 rfl _ _ _
    refine WPL.rd fun rd1 => ?_
    refine walk ?_
    refine s_call rfl (dAll (p := p')) rfl ?_
    rintro _ _ rfl
    refine walk ?_
    refine WPL.shape ?_
    rintro a2 c2 rfl _ _ _
    refine WPL.rd fun rd2 => ?_
    refine walk ?_
    refine s_call rfl (equalInts_spec (rd1.ent InH.ent) (rd2.ent InH.ent)) rfl ?_
    rintro _ _ ⟨e_, rfl⟩
    obtain rfl := e_.symm
    refine walk ?_
    by_cases hl : x.l = y.l
    · rw [decide_eq_true hl]
      refine walk ?_
      exact QRet.ent Ent.auto (ret1 (v := .bool _) (.inr rfl) rfl rfl ⟨rfl, by simp [hq, hl]⟩)
    · rw [decide_eq_false hl]
      refine walk ?_
      exact QRet.ent Ent.auto (ret1 (v := .bool _) (.inr rfl) rfl rfl ⟨rfl, by simp [hl]⟩)
  · refine walk ?_
    exact ret1 (v := .bool _) (.inr rfl) rfl rfl ⟨rfl, by simp [hq]⟩
theorem dSame_nil : Does Try.prog B 23 [.pointer none, .pointer none] H fun r H' => H' = H ∧ r = .bool true := by
  refine fn_intro 26 Try.func23 rfl rfl rfl ?_
  refine walk ?_
  exact ret1 (v := .bool _) (.inr rfl) rfl rfl ⟨rfl, rfl⟩
theorem dMove_no [i : HasAt DqAt H p x F] [j : HasAt DqAt F p' y G] (h : x.l = [] ∨ y.l ≠ []) : Does Try.prog B 16 [ptr p, ptr p'] H fun r H' => H' = H ∧ r = .tuple #[.int .i64 0, .bool false] := by
  have e : H = DqAt p x + (DqAt p' y + G) := by rw [← j.eq, ← i.eq]
  subst e
  clear i j
  refine Does.know (φ := p ≠ p') (fun w hw => DqAt.ne (H := DqAt p x + (DqAt p' y + G)) (F := DqAt p' y + G) (G := G) (x := x) (y := y) hw) fun hne => ?_
  refine fn_intro 37 Try.func16 rfl rfl rfl ?_
  refine walk ?_
  refine s_eqptr_other rfl rfl hne DqAt.there DqAt.there rfl ?_
  refine walk ?_
  refine s_call rfl (dLen) rfl ?_
  rintro _ _ ⟨e_, rfl⟩
  obtain rfl := e_.symm
  refine walk ?_
  by_cases h0 : x.l.length = 0
  · refine walk ?_
    exact ret2 (v := .int _ _) (x := .bool _) (.inr rfl) rfl rfl rfl ⟨rfl, rfl⟩
  · have h1 : ¬ y.l.length = 0 := by
      intro e
      rcases h with h | h
      · rw [h] at h0; exact h0 rfl
      · exact h (List.eq_nil_of_length_eq_zero e)
    refine walk ?_
    refine s_call rfl (dLen (p := p')) rfl ?_
    rintro _ _ ⟨e_, rfl⟩
    obtain rfl := e_.symm
    refine walk ?_
    exact ret2 (v := .int _ _) (x := .bool _) (.inr rfl) rfl rfl rfl ⟨rfl, rfl⟩
theorem dMove_self [i : HasAt DqAt H p x F] : Does Try.prog B 16 [ptr p, ptr p] H fun r H' => H' = H ∧ r = .tuple #[.int .i64 0, .bool false] := by
  refine fn_intro 37 Try.func16 rfl rfl rfl ?_
  refine walk ?_
  refine s_eqptr_same rfl rfl rfl ?_
  refine walk ?_
  exact ret2 (v := .int _ _) (x := .bool _) (.inr rfl) rfl rfl rfl ⟨rfl, rfl⟩
theorem dMove_nil : Does Try.prog B 16 [.pointer none, .pointer none] H fun r H' => H' = H ∧ r = .tuple #[.int .i64 0, .bool false] := by
  refine fn_intro 37 Try.func16 rfl rfl rfl ?_
  refine walk ?_
  exact ret2 (v := .int _ _) (x := .bool _) (.inr rfl) rfl rfl rfl ⟨rfl, rfl⟩
theorem dMove [i : HasAt DqAt H p x F] [j : HasAt DqAt F p' y G] {rest : List Int} (h : x.l = g :: rest) (hy : y.l = []) : Does Try.prog B 16 [ptr p, ptr p'] H
    fun r H' => H' = DqAt p ⟨x.q, x.l.drop (older x.l)⟩ + (DqAt p' ⟨y.q, ((x.l.take (older x.l)).drop 1).take y.q⟩ + G) ∧ r = .tuple #[.int .i64 g, .bool true] := by
  have e : H = DqAt p x + (DqAt p' y + G) := by rw [← j.eq, ← i.eq]
  subst e
  clear i j
  have hl : x.l.length = rest.length + 1 := by rw [h]; rfl
  have hyl : y.l.length = 0 := by rw [hy]; rfl
  have ho : 1 ≤ older x.l ∧ older x.l ≤ x.l.length := by unfold older; omega
  have hol : (x.l.take (older x.l)).length = older x.l := by simp; omega
  refine Does.know (φ := p ≠ p') (fun w hw => DqAt.ne (H := DqAt p x + (DqAt p' y + G)) (F := DqAt p' y + G) (G := G) (x := x) (y := y) hw) fun hne => ?_
  refine fn_intro 37 Try.func16 rfl rfl rfl ?_
  refine walk ?_
  refine s_eqptr_other rfl rfl hne DqAt.there DqAt.there rfl ?_
  refine walk ?_
  refine s_call rfl (dLen) rfl ?_
  rintro _ _ ⟨e_, rfl⟩
  obtain rfl := e_.symm
  refine walk ?_
  refine s_call rfl (dLen (p := p')) rfl ?_
  rintro _ _ ⟨e_, rfl⟩
  obtain rfl := e_.symm
  refine walk ?_
  refine s_call rfl (dSteal) rfl ?_
  rintro _ _ rfl
  refine walk ?_
  refine WPL.shape ?_
  rintro ao cap rfl _ hc hm
  refine WPL.rd fun rd => ?_
  refine walk ?_
  (apply s_sliceL (l := 1); (· exact rfl); (· exact rfl); (· omega); (· omega); (· exact rfl))
  have rd1 := Rd.sliceL 1 rd ho.1 hc
  rw [Nat.mul_one, zs_drop] at rd1
  have hdl : ((x.l.take (older x.l)).drop 1).length = older x.l - 1 := by rw [List.length_drop, hol]
  rw [← hdl] at rd1 ⊢
  refine s_call rfl (dLay (p := p') (rd1.ent InH.ent) (by omega)) rfl ?_
  rintro _ _ ⟨rfl, rfl⟩
  have ho2 : older x.l = 0 + older x.l := by omega
  refine WPL.split (Mine 3 1 (.slice ao (older x.l) cap) (older x.l) (zs (x.l.take (older x.l)))) ?_
  refine WPL.open (by omega) ?_
  rintro bo sp rfl hsp
  have e1 : zs (x.l.take (older x.l)) = .int .i64 g :: zs (rest.take (older x.l - 1)) := by
    rw [h, show older (g :: rest) = (older (g :: rest) - 1) + 1 by rw [← h]; omega, List.take_succ_cons]
    rfl
  rw [e1]
  refine walk ?_
  (apply s_indexAddr (j := 0) (o' := 0); (· exact rfl); (· exact rfl); (· omega); (· omega); (· omega); (· exact rfl))
  refine s_load (v := .int .i64 g) rfl (Cell.blk rfl) rfl ?_
  refine walk ?_
  refine QRet.ent ?_ (ret2 (v := .int _ _) (x := .bool _) (.inr rfl) rfl rfl rfl ⟨rfl, rfl⟩)
  rw [hy, List.nil_append, List.length_nil, Nat.sub_zero]
  exact Ent.auto

theorem dGet_nil : Does Try.prog B 12 [.pointer none] H fun r H' => H' = H ∧ r = .tuple #[.int .i64 0, .bool false] := by
  refine fn_intro 11 Try.func12 rfl rfl rfl ?_
  refine walk ?_
  refine s_call rfl (dLen_nil) rfl ?_
  rintro _ _ ⟨e_, rfl⟩
  obtain rfl := e_.symm
  refine walk ?_
  exact ret2 (v := .int _ _) (x := .bool _) (.inr rfl) rfl rfl rfl ⟨rfl, rfl⟩
theorem dSteal_nil : Does Try.prog B 13 [.pointer none] H fun r H' => H' = H ∧ r = .slice none 0 0 := by
  refine fn_intro 16 Try.func13 rfl rfl rfl ?_
  refine walk ?_
  refine s_call rfl (dLen_nil) rfl ?_
  rintro _ _ ⟨e_, rfl⟩
  obtain rfl := e_.symm
  refine walk ?_
  exact ret1 (v := .slice _ _ _) (.inr rfl) rfl rfl ⟨rfl, rfl⟩
theorem dPut_nil : Does Try.prog B 10 [.pointer none, .int .i64 g] H fun r H' => H' = H ∧ r = .slice none 0 0 := by
  refine fn_intro 48 Try.func10 rfl rfl rfl ?_
  refine walk ?_
  exact ret1 (v := .slice _ _ _) (.inr rfl) rfl rfl ⟨rfl, rfl⟩
theorem dCopy_nil : Does Try.prog B 15 [.pointer none] H fun r H' => H' = H ∧ r = .pointer none := by
  refine fn_intro 16 Try.func15 rfl rfl rfl ?_
  refine walk ?_
  exact ret1 (v := .pointer _) (.inr rfl) rfl rfl ⟨rfl, rfl⟩
end
end Go.Proofs.Ytcnpcmdcbafaeaa
