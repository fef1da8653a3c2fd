/- A config is right, or not. No condition. -/
import Derived.Test.YtlhnmbajbhaaoaaIdInst
import Derived.Test.YtlhnmbajbhaaoaaSL3
namespace Go.Proofs.Ytlhnmbajbhaaoaa
open Go Go.SL
set_option linter.unusedSimpArgs false
set_option linter.unusedVariables false
set_option maxRecDepth 10000
set_option maxHeartbeats 1000000
structure Cfg where
  n : Int
  q : Int
  g : Int
  m : Int
  t : Int
  s : Int
deriving DecidableEq
abbrev cv (c : Cfg) : List Value := [.int .i64 c.n, .int .i64 c.q, .int .i64 c.g, .int .i64 c.m, .int .i64 c.t, .int .i64 c.s]
abbrev cfgV (c : Cfg) : Value := .agg (cv c).toArray
def RoomP (q : Int) : Prop := q = 2 ∨ q = 4 ∨ q = 8 ∨ q = 16 ∨ q = 32 ∨ q = 64
instance (q : Int) : Decidable (RoomP q) := inferInstanceAs (Decidable (q = 2 ∨ q = 4 ∨ q = 8 ∨ q = 16 ∨ q = 32 ∨ q = 64))
def RightP (c : Cfg) : Prop := RoomP c.q ∧ 1 ≤ c.n ∧ c.n ≤ 8 ∧ 1 ≤ c.g ∧ c.g ≤ 256 ∧ c.n < c.m ∧ c.m ≤ 16 ∧ 2 ≤ c.t ∧ c.t ≤ 200 ∧ 0 ≤ c.s ∧ c.s ≤ 1000
instance (c : Cfg) : Decidable (RightP c) := by unfold RightP; exact inferInstance
theorem room_and : ∀ k : Nat, k ≤ 64 → 2 ≤ k → ((k &&& (k - 1)) = 0 ↔ (k = 2 ∨ k = 4 ∨ k = 8 ∨ k = 16 ∨ k = 32 ∨ k = 64)) := by decide
attribute [local irreducible] WP WPL QSeq QBlk QRet Does Cell Cells Rd Mine Ent Aside RV Yield
section
variable {B : World} {F H G : HProp} {c : Cfg} {x lo hi p : Int}
theorem within_t (h : lo ≤ x ∧ x ≤ hi) : Does Try.prog B 20 [.int .i64 x, .int .i64 lo, .int .i64 hi] H fun r H' => H' = H ∧ r = .bool true := by
  refine fn_intro 15 Try.func20 rfl rfl rfl ?_
  refine walk ?_
  (first | refine ret1 (v := .bool _) (.inr rfl) rfl rfl ?_ | refine ret1  (.inr rfl) rfl rfl ?_ | refine ret1 (v := .bool _) (.inl rfl) rfl rfl ?_ | refine ret1  (.inl rfl) rfl rfl ?_)
  exact ⟨rfl, rfl⟩
theorem within_f (h : ¬ (lo ≤ x ∧ x ≤ hi)) : Does Try.prog B 20 [.int .i64 x, .int .i64 lo, .int .i64 hi] H fun r H' => H' = H ∧ r = .bool false := by
  refine fn_intro 15 Try.func20 rfl rfl rfl ?_
  by_cases h1 : lo ≤ x
  · refine walk ?_
    (first | refine ret1 (v := .bool _) (.inr rfl) rfl rfl ?_ | refine ret1  (.inr rfl) rfl rfl ?_ | refine ret1 (v := .bool _) (.inl rfl) rfl rfl ?_ | refine ret1  (.inl rfl) rfl rfl ?_)
    exact ⟨rfl, rfl⟩
  · refine walk ?_
    (first | refine ret1 (v := .bool _) (.inr rfl) rfl rfl ?_ | refine ret1  (.inr rfl) rfl rfl ?_ | refine ret1 (v := .bool _) (.inl rfl) rfl rfl ?_ | refine ret1  (.inl rfl) rfl rfl ?_)
    exact ⟨rfl, rfl⟩
theorem right_no (h : ¬ RightP c) : decide (RightP c) = false := decide_eq_false h
theorem cRight : Does Try.prog B 5 [cfgV c] H fun r H' => H' = H ∧ r = .bool (decide (RightP c)) := by
  refine Does.frame0 ?_
  refine fn_intro 43 Try.func5 rfl rfl rfl ?_
  refine walk ?_
  refine s_box (cs := cv c) rfl rfl rfl ?_
  intro b
  refine walk ?_
  by_cases hn : 1 ≤ c.n ∧ c.n ≤ 8
  · refine s_call rfl (within_t hn) rfl ?_
    rintro _ _ ⟨e_, rfl⟩
    obtain rfl := e_.symm
    refine walk ?_
    by_cases hq : 2 ≤ c.q ∧ c.q ≤ 64
    · refine s_call rfl (within_t hq) rfl ?_
      rintro _ _ ⟨e_, rfl⟩
      obtain rfl := e_.symm
      refine walk ?_
      obtain ⟨kq, hkq⟩ := Int.eq_ofNat_of_zero_le (show 0 ≤ c.q by omega)
      have hand := room_and kq (by omega) (by omega)
      refine s_and (p := c.q) (q := c.q - 1) (r := (kq &&& (kq - 1))) rfl rfl ?_ ?_ ?_ ?_ rfl ?_
      · show 0 ≤ c.q ∧ c.q < 18446744073709551616; omega
      · show 0 ≤ c.q - 1 ∧ c.q - 1 < 18446744073709551616; omega
      · rw [hkq]; congr 1; omega
      · refine intI64 ?_; have : kq &&& (kq - 1) ≤ kq := Nat.and_le_left; omega
      by_cases hr : RoomP c.q
      · have hz : (kq &&& (kq - 1)) = 0 := hand.2 (by unfold RoomP at hr; omega)
        rw [hz]
        refine walk ?_
        by_cases hg : 1 ≤ c.g ∧ c.g ≤ 256
        · refine s_call rfl (within_t hg) rfl ?_
          rintro _ _ ⟨e_, rfl⟩
          obtain rfl := e_.symm
          refine walk ?_
          by_cases hm : c.n + 1 ≤ c.m ∧ c.m ≤ 16
          · refine s_call rfl (within_t hm) rfl ?_
            rintro _ _ ⟨e_, rfl⟩
            obtain rfl := e_.symm
            refine walk ?_
            by_cases ht : 2 ≤ c.t ∧ c.t ≤ 200
            · refine s_call rfl (within_t ht) rfl ?_
              rintro _ _ ⟨e_, rfl⟩
              obtain rfl := e_.symm
              refine walk ?_
              by_cases hs : 0 ≤ c.s ∧ c.s ≤ 1000
              · refine s_call rfl (within_t hs) rfl ?_
                rintro _ _ ⟨e_, rfl⟩
                obtain rfl := e_.symm
                refine walk ?_
                (first | (apply retRD1 (G := H) (.inr rfl) rfl; (· first | (refine rv_tmp (v := .bool _) rfl) | exact rv_tmp rfl); (· exact Ent.auto)) | (apply retRD1 (G := H) (.inl rfl) rfl; (· first | (refine rv_tmp (v := .bool _) rfl) | exact rv_tmp rfl); (· exact Ent.auto)))
                exact ⟨Ent.refl _, by rw [decide_eq_true (show RightP c from ⟨hr, hn.1, hn.2, hg.1, hg.2, by omega, hm.2, ht.1, ht.2, hs.1, hs.2⟩)]⟩
              · refine s_call rfl (within_f hs) rfl ?_
                rintro _ _ ⟨e_, rfl⟩
                obtain rfl := e_.symm
                refine walk ?_
                (first | (apply retRD1 (G := H) (.inr rfl) rfl; (· first | (refine rv_tmp (v := .bool _) rfl) | exact rv_tmp rfl); (· exact Ent.auto)) | (apply retRD1 (G := H) (.inl rfl) rfl; (· first | (refine rv_tmp (v := .bool _) rfl) | exact rv_tmp rfl); (· exact Ent.auto)))
                exact ⟨Ent.refl _, by rw [right_no fun h => hs (by obtain ⟨_, _, _, _, _, _, _, _, _, h10⟩ := h; omega)]⟩
            · refine s_call rfl (within_f ht) rfl ?_
              rintro _ _ ⟨e_, rfl⟩
              obtain rfl := e_.symm
              refine walk ?_
              (first | (apply retRD1 (G := H) (.inr rfl) rfl; (· first | (refine rv_tmp (v := .bool _) rfl) | exact rv_tmp rfl); (· exact Ent.auto)) | (apply retRD1 (G := H) (.inl rfl) rfl; (· first | (refine rv_tmp (v := .bool _) rfl) | exact rv_tmp rfl); (· exact Ent.auto)))
              exact ⟨Ent.refl _, by rw [right_no fun h => ht (by obtain ⟨_, _, _, _, _, _, _, h8, h9, _⟩ := h; omega)]⟩
          · refine s_call rfl (within_f hm) rfl ?_
            rintro _ _ ⟨e_, rfl⟩
            obtain rfl := e_.symm
            refine walk ?_
            (first | (apply retRD1 (G := H) (.inr rfl) rfl; (· first | (refine rv_tmp (v := .bool _) rfl) | exact rv_tmp rfl); (· exact Ent.auto)) | (apply retRD1 (G := H) (.inl rfl) rfl; (· first | (refine rv_tmp (v := .bool _) rfl) | exact rv_tmp rfl); (· exact Ent.auto)))
            exact ⟨Ent.refl _, by rw [right_no fun h => hm (by obtain ⟨_, _, _, _, _, h6, h7, _⟩ := h; omega)]⟩
        · refine s_call rfl (within_f hg) rfl ?_
          rintro _ _ ⟨e_, rfl⟩
          obtain rfl := e_.symm
          refine walk ?_
          (first | (apply retRD1 (G := H) (.inr rfl) rfl; (· first | (refine rv_tmp (v := .bool _) rfl) | exact rv_tmp rfl); (· exact Ent.auto)) | (apply retRD1 (G := H) (.inl rfl) rfl; (· first | (refine rv_tmp (v := .bool _) rfl) | exact rv_tmp rfl); (· exact Ent.auto)))
          exact ⟨Ent.refl _, by rw [right_no fun h => hg ⟨h.2.2.2.1, h.2.2.2.2.1⟩]⟩
      · have hz : (kq &&& (kq - 1)) ≠ 0 := fun h => hr (by have := hand.1 h; unfold RoomP; omega)
        refine walk ?_
        (first | (apply retRD1 (G := H) (.inr rfl) rfl; (· first | (refine rv_tmp (v := .bool _) rfl) | exact rv_tmp rfl); (· exact Ent.auto)) | (apply retRD1 (G := H) (.inl rfl) rfl; (· first | (refine rv_tmp (v := .bool _) rfl) | exact rv_tmp rfl); (· exact Ent.auto)))
        exact ⟨Ent.refl _, by rw [right_no fun h => hr h.1]⟩
    · refine s_call rfl (within_f hq) rfl ?_
      rintro _ _ ⟨e_, rfl⟩
      obtain rfl := e_.symm
      refine walk ?_
      (first | (apply retRD1 (G := H) (.inr rfl) rfl; (· first | (refine rv_tmp (v := .bool _) rfl) | exact rv_tmp rfl); (· exact Ent.auto)) | (apply retRD1 (G := H) (.inl rfl) rfl; (· first | (refine rv_tmp (v := .bool _) rfl) | exact rv_tmp rfl); (· exact Ent.auto)))
      exact ⟨Ent.refl _, by rw [right_no fun h => hq (by have := h.1; unfold RoomP at this; omega)]⟩
  · refine s_call rfl (within_f hn) rfl ?_
    rintro _ _ ⟨e_, rfl⟩
    obtain rfl := e_.symm
    refine walk ?_
    (first | (apply retRD1 (G := H) (.inr rfl) rfl; (· first | (refine rv_tmp (v := .bool _) rfl) | exact rv_tmp rfl); (· exact Ent.auto)) | (apply retRD1 (G := H) (.inl rfl) rfl; (· first | (refine rv_tmp (v := .bool _) rfl) | exact rv_tmp rfl); (· exact Ent.auto)))
    exact ⟨Ent.refl _, by rw [right_no fun h => hn ⟨h.2.1, h.2.2.1⟩]⟩
end
end Go.Proofs.Ytlhnmbajbhaaoaa
