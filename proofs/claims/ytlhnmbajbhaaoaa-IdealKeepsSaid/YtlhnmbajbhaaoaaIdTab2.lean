/- The table, as a thing of lists: what the program's functions do. No condition. -/
import Derived.Test.YtlhnmbajbhaaoaaIdTab1
import Derived.Test.YtlhnmbajbhaaoaaSL2
namespace Go.Proofs.Ytlhnmbajbhaaoaa
open Go Go.SL
set_option linter.unusedSimpArgs false
set_option linter.unusedVariables false
set_option maxRecDepth 10000
attribute [local irreducible] WP WPL QSeq QBlk QRet Does Cell Cells Rd Mine Ent Aside RV

structure Tab where
  all : List (Int × Int)
  row : List Int
def goros (l : List (Int × Int)) : List Value := l.flatMap fun p => [.int .i64 p.1, .int .i64 p.2]
theorem goros_length (l : List (Int × Int)) : (goros l).length = l.length * 2 := by
  induction l with
  | nil => rfl
  | cons p l ih => simp only [goros, List.flatMap_cons, List.length_append, List.length_cons, List.length_nil] at ih ⊢; omega
theorem goros_get (l : List (Int × Int)) : ∀ (k : Nat) (h : k < l.length), (goros l)[k * 2]? = some (.int .i64 l[k].1) ∧ (goros l)[k * 2 + 1]? = some (.int .i64 l[k].2) := by
  induction l with
  | nil => intro k h; simp at h
  | cons p l ih =>
    intro k h
    cases k with
    | zero => simp [goros]
    | succ k =>
      have h2 := ih k (by simpa using h)
      have e1 : (k + 1) * 2 = k * 2 + 1 + 1 := by omega
      simp only [goros, List.flatMap_cons, List.cons_append, List.nil_append, List.getElem_cons_succ, e1, List.getElem?_cons_succ] at h2 ⊢
      exact h2
theorem goros_set (l : List (Int × Int)) : ∀ (k : Nat) (h : k < l.length) (x y : Int), (goros l).set (k * 2) (.int .i64 x) = goros (l.set k (x, l[k].2)) ∧ (goros l).set (k * 2 + 1) (.int .i64 y) = goros (l.set k (l[k].1, y)) := by
  induction l with
  | nil => intro k h; simp at h
  | cons p l ih =>
    intro k h x y
    cases k with
    | zero => simp [goros]
    | succ k =>
      have h2 := ih k (by simpa using h) x y
      have e1 : (k + 1) * 2 = k * 2 + 1 + 1 := by omega
      simp only [goros, List.flatMap_cons, List.cons_append, List.nil_append, List.getElem_cons_succ, e1, List.set_cons_succ] at h2 ⊢
      exact ⟨by rw [h2.1], by rw [h2.2]⟩
theorem goros_one (l : List (Int × Int)) : (goros l).all Value.oneCell' = true := by
  induction l with
  | nil => rfl
  | cons p l ih => simp only [goros, List.flatMap_cons, List.all_append] at ih ⊢; simp [ih, Value.oneCell']

/-- A table in memory. -/
def TabAt (p : Nat) (T : Tab) : HProp := ex fun av => ex fun fv => blk p [av, fv] 76 + (Mine 90 2 av T.all.length (goros T.all) + Mine 3 1 fv T.row.length (zs T.row.reverse))
/-- The same, laid open. -/
def TabX (p : Nat) (T : Tab) (ao : Option Addr) (cap : Nat) (fo : Option Addr) (cap2 : Nat) : HProp :=
  blk p [.slice ao T.all.length cap, .slice fo T.row.length cap2] 76 + (Mine 90 2 (.slice ao T.all.length cap) T.all.length (goros T.all) + Mine 3 1 (.slice fo T.row.length cap2) T.row.length (zs T.row.reverse))
/-- It is within bounds. -/
structure Tab.ok (T : Tab) (K : Int) : Prop where
  size : T.all.length ≤ 256
  row : ∀ g ∈ T.row, 0 ≤ g ∧ g < T.all.length
  all : ∀ p ∈ T.all, 0 ≤ p.1 ∧ p.1 ≤ 4 ∧ 0 ≤ p.2 ∧ p.2 ≤ K
  long : (T.row.length : Int) ≤ 256 + K
  k0 : 0 ≤ K

/-- What is known of a table laid open. -/
structure TabF (B : World) (p : Nat) (T : Tab) (ao : Option Addr) (cap : Nat) (fo : Option Addr) (cap2 : Nat) : Prop where
  c1 : T.all.length ≤ cap
  c2 : cap ≤ maxLen
  c3 : T.row.length ≤ cap2
  c4 : cap2 ≤ maxLen
  rd1 : Rd B (TabX p T ao cap fo cap2) 2 (.slice ao T.all.length cap) T.all.length (goros T.all)
  rd2 : Rd B (TabX p T ao cap fo cap2) 1 (.slice fo T.row.length cap2) T.row.length (zs T.row.reverse)

section
variable {ro : Option Nat} {B : World} {F : HProp} {p : Nat} {T : Tab} {f : FuncId} {args : List Value} {R : Value → HProp → Prop} {n : Nat} {ops : Array Oper} {l : List Oper} {fr : Fr} {Q : Post}

theorem tab_holds {w : World} (h : Holds B (TabAt p T + F) w) : ∃ ao cap fo cap2, TabF B p T ao cap fo cap2 ∧ Holds B (TabX p T ao cap fo cap2 + F) w := by
  unfold TabAt at h
  rw [ex_add] at h
  obtain ⟨av, h⟩ := h.ex_out
  rw [ex_add] at h
  obtain ⟨fv, h⟩ := h.ex_out
  have e1 : blk p [av, fv] 76 + (Mine 90 2 av T.all.length (goros T.all) + Mine 3 1 fv T.row.length (zs T.row.reverse)) + F = Mine 90 2 av T.all.length (goros T.all) + (blk p [av, fv] 76 + (Mine 3 1 fv T.row.length (zs T.row.reverse) + F)) := by ac_rfl
  have e2 : blk p [av, fv] 76 + (Mine 90 2 av T.all.length (goros T.all) + Mine 3 1 fv T.row.length (zs T.row.reverse)) + F = Mine 3 1 fv T.row.length (zs T.row.reverse) + (blk p [av, fv] 76 + (Mine 90 2 av T.all.length (goros T.all) + F)) := by ac_rfl
  obtain ⟨ao, cap, rfl, _, h1, h2⟩ := Mine.shape (e1 ▸ h)
  obtain ⟨fo, cap2, rfl, _, h3, h4⟩ := Mine.shape (e2 ▸ h)
  refine ⟨ao, cap, fo, cap2, ⟨h1, h2, h3, h4, ?_, ?_⟩, h⟩
  · exact (Mine.rd ⟨w, (e1 ▸ h).drop_right⟩).ent ((Ent.drop_left _ _).trans (Ent.drop_right _ _))
  · exact (Mine.rd ⟨w, (e2 ▸ h).drop_right⟩).ent ((Ent.drop_left _ _).trans (Ent.drop_left _ _))
theorem tab_close {ao : Option Addr} {cap : Nat} {fo : Option Addr} {cap2 : Nat} : Ent (TabX p T ao cap fo cap2 + F) (TabAt p T + F) := by
  refine Ent.frame_right ?_ F
  exact (Ent.ex_in (G := fun fv => blk p [.slice ao T.all.length cap, fv] 76 + (Mine 90 2 (.slice ao T.all.length cap) T.all.length (goros T.all) + Mine 3 1 fv T.row.length (zs T.row.reverse))) _).trans
    (Ent.ex_in (G := fun av => ex fun fv => blk p [av, fv] 76 + (Mine 90 2 av T.all.length (goros T.all) + Mine 3 1 fv T.row.length (zs T.row.reverse))) _)
theorem Does.tab (h : ∀ ao cap fo cap2, TabF B p T ao cap fo cap2 → Does Try.prog B f args (TabX p T ao cap fo cap2 + F) R) : Does Try.prog B f args (TabAt p T + F) R :=
  Does.under fun w hw => let ⟨ao, cap, fo, cap2, h1, hx⟩ := tab_holds hw; ⟨_, hx, h ao cap fo cap2 h1⟩
theorem WPL.tab (h : ∀ ao cap fo cap2, TabF B p T ao cap fo cap2 → WPL ro Try.prog B n ops l fr (TabX p T ao cap fo cap2 + F) Q) : WPL ro Try.prog B n ops l fr (TabAt p T + F) Q :=
  WPL.under fun w hw => let ⟨ao, cap, fo, cap2, h1, hx⟩ := tab_holds hw; ⟨_, hx, h ao cap fo cap2 h1⟩
/-- A function that leaves the table, laid open, as it was. -/
theorem Does.tabRead {φ : Value → Prop} (h : ∀ ao cap fo cap2, TabF B p T ao cap fo cap2 →
    Does Try.prog B f args (TabX p T ao cap fo cap2 + F) fun r H' => H' = TabX p T ao cap fo cap2 + F ∧ φ r) : Does Try.prog B f args (TabAt p T + F) fun r H' => Ent H' (TabAt p T + F) ∧ φ r :=
  Does.tab fun ao cap fo cap2 h1 => (h ao cap fo cap2 h1).mono fun r H' ⟨e, x⟩ => ⟨e ▸ tab_close, x⟩

/-- A function that lays something beside it. -/
theorem Does.tabNew {φ : Value → HProp → Prop} (h : ∀ ao cap fo cap2, TabF B p T ao cap fo cap2 →
    Does Try.prog B f args (TabX p T ao cap fo cap2 + F) fun r H' => ∃ X, Ent H' (X + (TabX p T ao cap fo cap2 + F)) ∧ φ r X) : Does Try.prog B f args (TabAt p T + F) fun r H' => ∃ X, Ent H' (X + (TabAt p T + F)) ∧ φ r X :=
  Does.tab fun ao cap fo cap2 h1 => (h ao cap fo cap2 h1).mono fun r H' ⟨X, e, x⟩ => ⟨X, e.trans (Ent.frame_left tab_close X), x⟩
instance hasBlkTab (p : Nat) (T : Tab) (ao : Option Addr) (cap : Nat) (fo : Option Addr) (cap2 : Nat) (F : HProp) : HasBlk (TabX p T ao cap fo cap2 + F) p [.slice ao T.all.length cap, .slice fo T.row.length cap2] 76
    ((Mine 90 2 (.slice ao T.all.length cap) T.all.length (goros T.all) + Mine 3 1 (.slice fo T.row.length cap2) T.row.length (zs T.row.reverse)) + F) := ⟨HProp.add_assoc _ _ _⟩

theorem len_x {ao : Option Addr} {cap : Nat} {fo : Option Addr} {cap2 : Nat} : Does Try.prog B 85 [.pointer (some ⟨p, 0, none⟩)] (TabX p T ao cap fo cap2 + F) fun r H' => H' = TabX p T ao cap fo cap2 + F ∧ r = .int .i64 T.all.length := by
  refine fn_intro 10 Try.func85 rfl rfl rfl ?_
  refine walk ?_
  exact ret1 (v := .int _ _) (.inr rfl) rfl rfl ⟨rfl, rfl⟩
theorem len_spec : Does Try.prog B 85 [.pointer (some ⟨p, 0, none⟩)] (TabAt p T + F) fun r H' => Ent H' (TabAt p T + F) ∧ r = .int .i64 T.all.length :=
  Does.tabRead fun _ _ _ _ _ => len_x
theorem len_nil : Does Try.prog B 85 [.pointer none] F fun r H' => F = H' ∧ r = .int .i64 0 := by
  refine fn_intro 10 Try.func85 rfl rfl rfl ?_
  refine walk ?_
  exact ret1 (v := .int _ _) (.inr rfl) rfl rfl ⟨rfl, rfl⟩

theorem has_x {ao : Option Addr} {cap : Nat} {fo : Option Addr} {cap2 : Nat} {g : Int} : Does Try.prog B 75 [.pointer (some ⟨p, 0, none⟩), .int .i64 g] (TabX p T ao cap fo cap2 + F) fun r H' => H' = TabX p T ao cap fo cap2 + F ∧ r = .bool (decide (0 ≤ g ∧ g < T.all.length)) := by
  refine fn_intro 13 Try.func75 rfl rfl rfl ?_
  by_cases h0 : 0 ≤ g
  · refine walk ?_
    refine s_call rfl len_x rfl ?_
    rintro _ _ ⟨rfl, rfl⟩
    by_cases h1 : g < T.all.length
    · refine walk ?_
      exact ret1 (v := .bool _) (.inr rfl) rfl rfl ⟨rfl, by simp [h0, h1]⟩
    · refine walk ?_
      exact ret1 (v := .bool _) (.inr rfl) rfl rfl ⟨rfl, by simp [h1]⟩
  · refine walk ?_
    exact ret1 (v := .bool _) (.inr rfl) rfl rfl ⟨rfl, by simp [h0]⟩
theorem has_nil {g : Int} : Does Try.prog B 75 [.pointer none, .int .i64 g] F fun r H' => F = H' ∧ r = .bool false := by
  refine fn_intro 13 Try.func75 rfl rfl rfl ?_
  by_cases h0 : 0 ≤ g
  · refine walk ?_
    refine s_call rfl len_nil rfl ?_
    rintro _ _ ⟨rfl, rfl⟩
    refine walk ?_
    exact ret1 (v := .bool _) (.inr rfl) rfl rfl ⟨rfl, rfl⟩
  · refine walk ?_
    exact ret1 (v := .bool _) (.inr rfl) rfl rfl ⟨rfl, rfl⟩

theorem at_spec {ao : Option Addr} {cap : Nat} {fo : Option Addr} {cap2 : Nat} (hf : TabF B p T ao cap fo cap2) {k : Nat} (hk : k < T.all.length) :
    ∃ b o, ao = some ⟨b, o, none⟩ ∧ Cell B (TabX p T ao cap fo cap2) b (o + k * 2) (.int .i64 T.all[k].1) ∧ Cell B (TabX p T ao cap fo cap2) b (o + (k * 2 + 1)) (.int .i64 T.all[k].2) := by
  have h := hf.rd1
  unfold Rd at h
  obtain ⟨ao', cap', hv, hl, _, h⟩ := h
  cases hv
  rcases h with h | ⟨b, o, hb, hc⟩
  · rw [h] at hl; simp at hl; omega
  · obtain ⟨g1, g2⟩ := goros_get T.all k hk
    exact ⟨b, o, hb, hc.cell g1, hc.cell g2⟩
theorem status_spec {g : Int} : Does Try.prog B 28 [.pointer (some ⟨p, 0, none⟩), .int .i64 g] (TabAt p T + F) fun r H' => Ent H' (TabAt p T + F) ∧
    (∀ k : Nat, g = k → ∀ h : k < T.all.length, r = .tuple #[.int .i64 T.all[k].1, .bool true]) ∧ (¬ (0 ≤ g ∧ g < T.all.length) → r = .tuple #[.int .i64 0, .bool false]) := by
  refine Does.tabRead fun ao cap fo cap2 hf => ?_
  refine fn_intro 19 Try.func28 rfl rfl rfl ?_
  refine walk ?_
  refine s_call rfl has_x rfl ?_
  rintro _ _ ⟨rfl, rfl⟩
  by_cases hg : 0 ≤ g ∧ g < T.all.length
  · rw [decide_eq_true hg]
    obtain ⟨k, rfl⟩ := Int.eq_ofNat_of_zero_le hg.1
    have hk : k < T.all.length := by omega
    obtain ⟨b, o, rfl, hc, _⟩ := at_spec hf hk
    have hc' := hc.right F
    refine walk ?_
    refine ret2 (v := .int _ _) (x := .bool _) (.inr rfl) rfl rfl rfl ⟨rfl, fun j hj h => ?_, fun h => absurd hg h⟩
    have : k = j := by omega
    subst this; rfl
  · rw [decide_eq_false hg]
    refine walk ?_
    refine ret2 (v := .int _ _) (x := .bool _) (.inr rfl) rfl rfl rfl ⟨rfl, fun j hj h => ?_, fun _ => rfl⟩
    omega
theorem status_nil {g : Int} : Does Try.prog B 28 [.pointer none, .int .i64 g] F fun r H' => F = H' ∧ r = .tuple #[.int .i64 0, .bool false] := by
  refine fn_intro 19 Try.func28 rfl rfl rfl ?_
  refine walk ?_
  refine s_call rfl has_nil rfl ?_
  rintro _ _ ⟨rfl, rfl⟩
  refine walk ?_
  exact ret2 (v := .int _ _) (x := .bool _) (.inr rfl) rfl rfl rfl ⟨rfl, rfl⟩
end
end Go.Proofs.Ytlhnmbajbhaaoaa
