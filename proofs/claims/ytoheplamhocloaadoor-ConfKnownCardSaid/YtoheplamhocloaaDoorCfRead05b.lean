/- What is read of a text: the config that is told so. Plain. -/
import Derived.Test.YtoheplamhocloaaDoorCfRead05a
import Derived.Test.YtoheplamhocloaaDoorSL4
namespace Go.Proofs.YtoheplamhocloaaDoor
open Go Go.SL
set_option linter.unusedSimpArgs false
set_option linter.unusedVariables false
set_option maxRecDepth 10000
/-- The config that a text tells. -/
def Told (s : List UInt8) (c : Cfg) : Prop := RightP c ∧ textC c = s
open Classical in
noncomputable def readC (s : List UInt8) : Option Cfg := if h : ∃ c, Told s c then some h.choose else none
theorem told_one {s : List UInt8} {c d : Cfg} (hc : Told s c) (hd : Told s d) : c = d := text_inj hc.1 hd.1 (hc.2.trans hd.2.symm)
theorem readC_some {s : List UInt8} {c : Cfg} (h : Told s c) : readC s = some c := by
  unfold readC
  rw [dif_pos ⟨c, h⟩]
  exact congrArg some (told_one (Exists.choose_spec (⟨c, h⟩ : ∃ c, Told s c)) h)
theorem readC_none {s : List UInt8} (h : ¬ ∃ c, Told s c) : readC s = none := by unfold readC; rw [dif_neg h]
theorem readC_told {s : List UInt8} {c : Cfg} (h : readC s = some c) : Told s c := by
  by_cases hx : ∃ c, Told s c
  · obtain ⟨d, hd⟩ := hx
    rw [readC_some hd] at h
    cases h
    exact hd
  · rw [readC_none hx] at h; cases h
/-- The number at a place of the pieces. -/
def tokAt (l : List (List UInt8)) (i : Nat) : Int := match l[2 * i + 1]? with
  | some x => atoiV x
  | none => 0
def cfgOf (l : List (List UInt8)) : Cfg := ⟨tokAt l 0, tokAt l 1, tokAt l 2, tokAt l 3, tokAt l 4, tokAt l 5⟩
theorem text_wrong {c : Cfg} (h : ¬ RightP c) : textC c = [] := by unfold textC; rw [if_neg h]
theorem text_ne {c : Cfg} (h : RightP c) : textC c ≠ [] := by
  unfold textC
  rw [if_pos h, join6]
  simp
theorem told_ne {s : List UInt8} {c : Cfg} (h : Told s c) : s ≠ [] := by rw [← h.2]; exact text_ne h.1
theorem cfg_toks {c : Cfg} (h : RightP c) : cfgOf (toks c 6) = c := by
  have key : ∀ i, i < 6 → tokAt (toks c 6) i = (nums c).getD i 0 := by
    intro i hi
    obtain ⟨h1, h2⟩ := nums_ok h i hi
    have e : (toks c 6)[2 * i + 1]? = some (dg (numAt c i)) := by
      rw [toks6]
      match i, hi with
      | 0, _ => rfl
      | 1, _ => rfl
      | 2, _ => rfl
      | 3, _ => rfl
      | 4, _ => rfl
      | 5, _ => rfl
    unfold tokAt
    rw [e]
    show atoiV (dg (numAt c i)) = _
    rw [atoiV_dec (by omega), List.getD_eq_getElem?_getD, h1]; rfl
  unfold cfgOf
  rw [key 0 (by omega), key 1 (by omega), key 2 (by omega), key 3 (by omega), key 4 (by omega), key 5 (by omega)]
  rfl
theorem read_yes {s : List UInt8} (h : cutAt 32 s = cutAt 32 (textC (cfgOf (cutAt 32 s)))) (hs : s ≠ []) : readC s = some (cfgOf (cutAt 32 s)) := by
  refine readC_some ⟨?_, (cutAt_inj h).symm⟩
  refine Classical.byContradiction fun hn => hs ?_
  have := cutAt_inj h
  rw [text_wrong hn] at this
  exact this
theorem read_no {s : List UInt8} (h : cutAt 32 s ≠ cutAt 32 (textC (cfgOf (cutAt 32 s))) ∨ s = []) : readC s = none := by
  refine readC_none ?_
  rintro ⟨c, hc⟩
  rcases h with h | h
  · have e : cutAt 32 s = toks c 6 := by rw [← hc.2, cut_text hc.1]
    rw [e, cfg_toks hc.1, cut_text hc.1] at h
    exact h rfl
  · exact told_ne hc h
/-- The numbers of the digits' runs. -/
abbrev runs5 (s : List UInt8) : List Int := runs 1000000 s (-1)
theorem runs_text {c : Cfg} (h : RightP c) : runs5 (textC c) = nums c := by
  unfold textC
  rw [if_pos h, join6]
  simp only [List.append_assoc, List.cons_append, List.nil_append]
  have hn := fun i (hi : i < 6) => (nums_ok h i hi).2
  have hv := fun i (hi : i < 6) => (nums_ok h i hi).1
  have n32 : ¬ isDig 32 := by decide
  have h0 := hn 0 (by omega)
  have h1 := hn 1 (by omega)
  have h2 := hn 2 (by omega)
  have h3 := hn 3 (by omega)
  have h4 := hn 4 (by omega)
  have h5 := hn 5 (by omega)
  have R : ∀ n t, n ≤ 1000 → runs 1000000 (dg n ++ 32 :: t) (-1) = (n : Int) :: runs 1000000 t (-1) := fun n t hle => runs_run (top := 1000000) (by omega) n32
  have E : ∀ n, n ≤ 1000 → runs 1000000 (dg n) (-1) = [(n : Int)] := fun n hle => runs_end (top := 1000000) (by omega)
  have S : ∀ b t, ¬ isDig b → runs 1000000 (b :: t) (-1) = runs 1000000 t (-1) := fun b t hb => runs_blank hb
  unfold runs5
  rw [S 110 _ (by decide), S 32 _ n32, R _ _ h0, S 113 _ (by decide), S 32 _ n32, R _ _ h1, S 103 _ (by decide), S 32 _ n32, R _ _ h2, S 109 _ (by decide), S 32 _ n32, R _ _ h3, S 116 _ (by decide), S 32 _ n32, R _ _ h4, S 115 _ (by decide), S 32 _ n32, E _ h5]
  have e0 := hv 0 (by omega)
  have e1 := hv 1 (by omega)
  have e2 := hv 2 (by omega)
  have e3 := hv 3 (by omega)
  have e4 := hv 4 (by omega)
  have e5 := hv 5 (by omega)
  simp only [List.getElem?_cons_zero, List.getElem?_cons_succ, Option.some.injEq] at e0 e1 e2 e3 e4 e5
  rw [← e0, ← e1, ← e2, ← e3, ← e4, ← e5]
theorem runs_not6 {s : List UInt8} (h : (runs5 s).length ≠ 6) : readC s = none := by
  refine readC_none ?_
  rintro ⟨c, hc⟩
  rw [← hc.2, runs_text hc.1] at h
  exact h rfl
theorem runs_six {s : List UInt8} {c : Cfg} (h : runs5 s = nums c) : readC s = if textC c = s then some c else none := by
  by_cases ht : textC c = s
  · rw [if_pos ht]
    have hs : s ≠ [] := by
      rintro rfl
      rw [runs5, runs, if_neg (by omega)] at h
      cases h
    refine readC_some ⟨Classical.byContradiction fun hn => hs ?_, ht⟩
    rw [← ht, text_wrong hn]
  · rw [if_neg ht]
    refine readC_none ?_
    rintro ⟨d, hd⟩
    rw [← hd.2, runs_text hd.1] at h
    obtain ⟨n, q, g, m, t, s'⟩ := c
    obtain ⟨n', q', g', m', t', s''⟩ := d
    simp only [List.cons.injEq, and_true] at h
    obtain ⟨rfl, rfl, rfl, rfl, rfl, rfl⟩ := h
    exact ht hd.2
end Go.Proofs.YtoheplamhocloaaDoor
