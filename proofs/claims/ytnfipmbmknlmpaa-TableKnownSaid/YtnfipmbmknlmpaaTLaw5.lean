/- The law on acts that are played side by side. No condition. -/
import Derived.Test.YtnfipmbmknlmpaaTRef6
namespace Go.Proofs.Ytnfipmbmknlmpaa
open Go Go.SL
set_option linter.unusedSimpArgs false
set_option linter.unusedVariables false
set_option maxRecDepth 10000
attribute [local irreducible] WP WPL QSeq QBlk QRet Does Cell Cells Rd Own Ent Aside RV TabX TabAt

/-- An act: is it a making; who; the new status. -/
structure TAct where
  isMk : Bool
  g : Int
  st : Int
def actCells (l : List TAct) : List Value := l.flatMap fun a => [.bool a.isMk, .int .i64 a.g, .int .i64 a.st]
theorem actCells_length (l : List TAct) : (actCells l).length = l.length * 3 := by
  induction l with
  | nil => rfl
  | cons a l ih => simp only [actCells, List.flatMap_cons, List.length_append, List.length_cons, List.length_nil] at ih ⊢; omega
theorem actCells_get (l : List TAct) : ∀ (k : Nat) (h : k < l.length), (actCells l)[k * 3]? = some (.bool l[k].isMk) ∧ (actCells l)[k * 3 + 1]? = some (.int .i64 l[k].g) ∧ (actCells l)[k * 3 + 2]? = some (.int .i64 l[k].st) := by
  induction l with
  | nil => intro k h; simp at h
  | cons a l ih =>
    intro k h
    cases k with
    | zero => simp [actCells]
    | succ k =>
      have h2 := ih k (by simpa using h)
      have e1 : (k + 1) * 3 = k * 3 + 1 + 1 + 1 := by omega
      simp only [actCells, List.flatMap_cons, List.cons_append, List.nil_append, List.getElem_cons_succ, e1, List.getElem?_cons_succ] at h2 ⊢
      exact h2
/-- A table behind an act. -/
def Tab.act (T : Tab) (a : TAct) : Tab := if a.isMk then T.make.2.2 else (T.set a.g a.st).2
theorem Tab.ok.act {T : Tab} {K : Int} (ok : T.ok K) (a : TAct) : (T.act a).ok (K + 1) := by
  unfold Tab.act
  split
  · exact ok.make
  · exact ok.set _ _
theorem Tab.act_all (T : Tab) (a : TAct) : (T.act a).all.length = T.all.length := by
  unfold Tab.act Tab.make Tab.set
  (repeat' split) <;> simp
/-- Two tables within bounds are alike if what they hold is. -/
theorem sameTab_eq {T U : Tab} {K L : Int} (h : T.ok K) (k : U.ok L) (hl : T.all.length = U.all.length) : sameTab T U = decide (T.all = U.all ∧ T.row = U.row) := by
  unfold sameTab
  by_cases h0 : T.all.length = 0
  · have e1 : T.all = [] := by simpa using h0
    have e2 : U.all = [] := by simpa using (hl ▸ h0 : U.all.length = 0)
    have r1 : T.row = [] := by
      cases hr : T.row with
      | nil => rfl
      | cons g rest => have := h.row g (by simp [hr]); omega
    have r2 : U.row = [] := by
      cases hr : U.row with
      | nil => rfl
      | cons g rest => have := k.row g (by simp [hr]); omega
    rw [if_pos (.inl h0)]
    simp [e1, e2, r1, r2]
  · rw [if_neg (by omega)]

section
variable {B : World} {F H : HProp} {p : Nat} {T U : Tab}
/-- An act's cells. -/
theorem act_at {sv : Option Addr} {l : List TAct} (h : actCells l = [] ∨ ∃ b o, sv = some ⟨b, o, none⟩ ∧ Cells B H b o (actCells l)) {k : Nat} (hk : k < l.length) :
    ∃ b o, sv = some ⟨b, o, none⟩ ∧ Cell B H b (o + k * 3) (.bool l[k].isMk) ∧ Cell B H b (o + k * 3 + 1) (.int .i64 l[k].g) ∧ Cell B H b (o + k * 3 + 2) (.int .i64 l[k].st) := by
  rcases h with h | ⟨b, o, h, hc⟩
  · have := actCells_length l; rw [h] at this; simp at this; omega
  · obtain ⟨g1, g2, g3⟩ := actCells_get l k hk
    have d1 := hc.cell g1
    have d2 := hc.cell g2
    have d3 := hc.cell g3
    exact ⟨b, o, h, d1, by rwa [show o + (k * 3 + 1) = o + k * 3 + 1 by omega] at d2, by rwa [show o + (k * 3 + 2) = o + k * 3 + 2 by omega] at d3⟩

theorem refMake_spec {r : Value} {K : Int} (hr : RefV B H r T) (ok : T.ok K) (hK : K ≤ 100000) : Does Try.prog B 11 [r] H fun v H' => ∃ X r', Ent H' (X + H) ∧ (∀ G, RefV B G r T → RefV B (X + G) r' T.make.2.2) ∧ v = .tuple #[r', .int .i64 T.make.1, .int .i64 T.make.2.1] := by
  have hl := ok.long
  have hz := ok.size
  unfold Tab.make
  cases hrow : T.row with
  | nil => exact (refMake_none hr hrow).mono fun v H' ⟨e, h⟩ => ⟨emp, r, by rw [HProp.emp_add]; exact e, fun G hG => by rw [HProp.emp_add]; exact hG, h⟩
  | cons g rest =>
    have hg := ok.row g (by simp [hrow])
    obtain ⟨k, rfl⟩ := Int.eq_ofNat_of_zero_le hg.1
    have hk : k < T.all.length := by omega
    have ha := ok.all T.all[k] (List.getElem_mem hk)
    have h := refMake_some hr hrow hk (by omega) (by omega) (by omega)
    simpa [hk] using h
theorem refSet_spec {r : Value} {K g x : Int} (hr : RefV B H r T) (ok : T.ok K) (hK : K ≤ 100000) : Does Try.prog B 13 [r, .int .i64 g, .int .i64 x] H fun v H' => ∃ X r', Ent H' (X + H) ∧ (∀ G, RefV B G r T → RefV B (X + G) r' (T.set g x).2) ∧ v = .tuple #[r', .int .i64 (T.set g x).1] := by
  have hl := ok.long
  have hz := ok.size
  by_cases hg : 0 ≤ g ∧ g < T.all.length
  · obtain ⟨k, rfl⟩ := Int.eq_ofNat_of_zero_le hg.1
    have hk : k < T.all.length := by omega
    exact refSet_in hr hk (by omega) (by omega)
  · have e : T.set g x = (5, T) := by unfold Tab.set; rw [if_neg hg]
    rw [e]
    exact (refSet_out hr hg).mono fun v H' ⟨e, h⟩ => ⟨emp, r, by rw [HProp.emp_add]; exact e, fun G hG => by rw [HProp.emp_add]; exact hG, h⟩

theorem plays_early {s : Value} {n : Int} {l : List TAct} (hs : Rd B F 3 s l.length (actCells l)) (h : (40 < n ∧ n ≤ 256) ∨ 80 < l.length) : Does Try.prog B 5 [.int .i64 n, s] F fun r H' => Ent H' F ∧ r = .bool true := by
  have hs' := hs
  unfold Rd at hs
  obtain ⟨ao, cap, rfl, _, _, _⟩ := hs
  refine fn_intro 143 Try.func5 rfl rfl rfl ?_
  by_cases h1 : 40 < n
  · by_cases h2 : n ≤ 256
    · refine walk ?_
      refine s_call rfl works_spec rfl ?_
      rintro _ H' ⟨he, rfl⟩
      refine WPL.ent he ?_
      refine walk ?_
      exact ret1 (v := .bool _) (.inr rfl) rfl rfl ⟨Ent.refl _, rfl⟩
    · have h3 : 80 < l.length := by omega
      refine walk ?_
      refine s_call rfl works_spec rfl ?_
      rintro _ H' ⟨he, rfl⟩
      refine WPL.ent he ?_
      refine walk ?_
      exact ret1 (v := .bool _) (.inr rfl) rfl rfl ⟨Ent.refl _, rfl⟩
  · have h3 : 80 < l.length := by omega
    refine walk ?_
    refine s_call rfl works_spec rfl ?_
    rintro _ H' ⟨he, rfl⟩
    refine WPL.ent he ?_
    refine walk ?_
    exact ret1 (v := .bool _) (.inr rfl) rfl rfl ⟨Ent.refl _, rfl⟩
theorem plays_large {s : Value} {n : Int} {l : List TAct} (hs : Rd B F 3 s l.length (actCells l)) (h : 256 < n) (h2 : l.length ≤ 80) : Does Try.prog B 5 [.int .i64 n, s] F fun r H' => Ent H' F ∧ r = .bool true := by
  have hs' := hs
  unfold Rd at hs
  obtain ⟨ao, cap, rfl, _, _, _⟩ := hs
  refine fn_intro 143 Try.func5 rfl rfl rfl ?_
  refine walk ?_
  refine s_call rfl (new_spec (m := 256) (by omega)) rfl ?_
  rintro _ H' ⟨q, rfl, he⟩
  refine WPL.ent he ?_
  refine walk ?_
  refine s_call rfl len_spec rfl ?_
  rintro _ H' ⟨he, rfl⟩
  refine WPL.ent he ?_
  have e : (Tab.new 256).all.length = 256 := by simp [Tab.new]
  rw [e]
  refine walk ?_
  refine s_call rfl works_spec rfl ?_
  rintro _ H' ⟨he, rfl⟩
  refine WPL.ent he ?_
  refine walk ?_
  exact ret1 (v := .bool _) (.inr rfl) rfl rfl ⟨Ent.drop_left _ _, rfl⟩
end
end Go.Proofs.Ytnfipmbmknlmpaa
