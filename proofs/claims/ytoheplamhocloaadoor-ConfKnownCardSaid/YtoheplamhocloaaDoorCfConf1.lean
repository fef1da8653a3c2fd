/- A config is right, or not; how many cells it has, and where. No condition. -/
import Derived.Test.YtoheplamhocloaaDoorCfInst
import Derived.Test.YtoheplamhocloaaDoorSL3
namespace Go.Proofs.YtoheplamhocloaaDoor
open Go Go.SL
set_option linter.unusedSimpArgs false
set_option linter.unusedVariables false
set_option maxRecDepth 10000
set_option maxHeartbeats 1000000
structure Cfg where
  n : Int
  q : Int
  g : Int
  m : Int
  t : Int
  s : Int
deriving DecidableEq
abbrev cv (c : Cfg) : List Value := [.int .i64 c.n, .int .i64 c.q, .int .i64 c.g, .int .i64 c.m, .int .i64 c.t, .int .i64 c.s]
abbrev cfgV (c : Cfg) : Value := .agg (cv c).toArray
def RoomP (q : Int) : Prop := q = 2 ∨ q = 4 ∨ q = 8 ∨ q = 16 ∨ q = 32 ∨ q = 64
instance (q : Int) : Decidable (RoomP q) := inferInstanceAs (Decidable (q = 2 ∨ q = 4 ∨ q = 8 ∨ q = 16 ∨ q = 32 ∨ q = 64))
def RightP (c : Cfg) : Prop := RoomP c.q ∧ 1 ≤ c.n ∧ c.n ≤ 8 ∧ 1 ≤ c.g ∧ c.g ≤ 256 ∧ c.n < c.m ∧ c.m ≤ 16 ∧ 2 ≤ c.t ∧ c.t ≤ 200 ∧ 0 ≤ c.s ∧ c.s ≤ 1000
instance (c : Cfg) : Decidable (RightP c) := by unfold RightP; exact inferInstance
theorem room_and : ∀ k : Nat, k ≤ 64 → 2 ≤ k → ((k &&& (k - 1)) = 0 ↔ (k = 2 ∨ k = 4 ∨ k = 8 ∨ k = 16 ∨ k = 32 ∨ k = 64)) := by decide
attribute [local irreducible] WP WPL QSeq QBlk QRet Does Cell Cells Rd Mine Ent Aside RV Yield
section
variable {B : World} {F H G : HProp} {c : Cfg} {x lo hi p : Int}
theorem within_t (h : lo ≤ x ∧ x ≤ hi) : Does Tryd.prog B 32 [.int .i64 x, .int .i64 lo, .int .i64 hi] H fun r H' => H' = H ∧ r = .bool true := by
  refine fn_intro 15 Tryd.func32 rfl rfl rfl ?_
  refine walk ?_
  (first | refine ret1 (v := .bool _) (.inr rfl) rfl rfl ?_ | refine ret1  (.inr rfl) rfl rfl ?_ | refine ret1 (v := .bool _) (.inl rfl) rfl rfl ?_ | refine ret1  (.inl rfl) rfl rfl ?_)
  exact ⟨rfl, rfl⟩
theorem within_f (h : ¬ (lo ≤ x ∧ x ≤ hi)) : Does Tryd.prog B 32 [.int .i64 x, .int .i64 lo, .int .i64 hi] H fun r H' => H' = H ∧ r = .bool false := by
  refine fn_intro 15 Tryd.func32 rfl rfl rfl ?_
  by_cases h1 : lo ≤ x
  · refine walk ?_
    (first | refine ret1 (v := .bool _) (.inr rfl) rfl rfl ?_ | refine ret1  (.inr rfl) rfl rfl ?_ | refine ret1 (v := .bool _) (.inl rfl) rfl rfl ?_ | refine ret1  (.inl rfl) rfl rfl ?_)
    exact ⟨rfl, rfl⟩
  · refine walk ?_
    (first | refine ret1 (v := .bool _) (.inr rfl) rfl rfl ?_ | refine ret1  (.inr rfl) rfl rfl ?_ | refine ret1 (v := .bool _) (.inl rfl) rfl rfl ?_ | refine ret1  (.inl rfl) rfl rfl ?_)
    exact ⟨rfl, rfl⟩
theorem right_no (h : ¬ RightP c) : decide (RightP c) = false := decide_eq_false h
theorem rRight : Does Tryd.prog B 15 [cfgV c] H fun r H' => H' = H ∧ r = .bool (decide (RightP c)) := by
  refine Does.frame0 ?_
  refine fn_intro 69 Tryd.func15 rfl rfl rfl ?_
  refine walk ?_
  refine s_box (cs := cv c) rfl rfl rfl ?_
  intro b
  refine walk ?_
  refine wp_loopR (α := Int × Bool) [3, 4, 5, 6, 7, 8, 9, 10, 11, 12, 13, 14, 15] (fun x => [(3, .bool x.2), (4, .int .i64 x.1)]) (fun x => (x.1 = 2 ∨ x.1 = 4 ∨ x.1 = 8 ∨ x.1 = 16 ∨ x.1 = 32 ∨ x.1 = 64 ∨ x.1 = 128) ∧ x.2 = decide (RoomP c.q ∧ c.q < x.1)) (fun x => (128 - x.1).toNat) (2, false) agreed ⟨.inl rfl, by
    symm; apply decide_eq_false; unfold RoomP; omega⟩ ?_
  rintro ⟨q, room⟩ f ⟨hq, hroom⟩
  simp only at hq hroom
  simp only [putAll]
  by_cases hle : q ≤ 64
  · cases hb : room with
    | true =>
      rw [hb] at hroom
      have hr := of_decide_eq_true hroom.symm
      refine walk ?_
      refine ⟨(q * 2, true), asided, agreed, Ent.refl _, ⟨by simp only; omega, ?_⟩, by simp only; omega⟩
      symm; exact decide_eq_true ⟨hr.1, by omega⟩
    | false =>
      rw [hb] at hroom
      have hr := of_decide_eq_false hroom.symm
      by_cases he : c.q = q
      · refine walk ?_
        refine ⟨(q * 2, true), asided, agreed, Ent.refl _, ⟨by simp only; omega, ?_⟩, by simp only; omega⟩
        symm; exact decide_eq_true ⟨by unfold RoomP; omega, by omega⟩
      · refine walk ?_
        refine ⟨(q * 2, false), asided, agreed, Ent.refl _, ⟨by simp only; omega, ?_⟩, by simp only; omega⟩
        symm; apply decide_eq_false
        unfold RoomP at hr ⊢
        omega
  · have hq2 : q = 128 := by omega
    subst hq2
    by_cases hr : RoomP c.q
    · rw [decide_eq_true (show RoomP c.q ∧ c.q < 128 from ⟨hr, by unfold RoomP at hr; omega⟩)] at hroom
      subst hroom
      by_cases n1 : 1 ≤ c.n
      · skip
        by_cases n2 : c.n ≤ 8
        · skip
          by_cases g1 : 1 ≤ c.g
          · skip
            by_cases g2 : c.g ≤ 256
            · skip
              by_cases m1 : c.n < c.m
              · skip
                by_cases m2 : c.m ≤ 16
                · skip
                  by_cases t1 : 2 ≤ c.t
                  · skip
                    by_cases t2 : c.t ≤ 200
                    · skip
                      by_cases s1 : 0 ≤ c.s
                      · skip
                        by_cases s2 : c.s ≤ 1000
                        · skip
                          refine walk ?_
                          (first | (apply retRD1 (G := H) (.inr rfl) rfl; (· first | (refine rv_tmp (v := .bool _) rfl) | exact rv_tmp rfl); (· exact Ent.auto)) | (apply retRD1 (G := H) (.inl rfl) rfl; (· first | (refine rv_tmp (v := .bool _) rfl) | exact rv_tmp rfl); (· exact Ent.auto)))
                          exact ⟨Ent.refl _, by rw [decide_eq_true (show RightP c from ⟨hr, n1, n2, g1, g2, m1, m2, t1, t2, s1, s2⟩)]⟩
                        · refine walk ?_
                          (first | (apply retRD1 (G := H) (.inr rfl) rfl; (· first | (refine rv_tmp (v := .bool _) rfl) | exact rv_tmp rfl); (· exact Ent.auto)) | (apply retRD1 (G := H) (.inl rfl) rfl; (· first | (refine rv_tmp (v := .bool _) rfl) | exact rv_tmp rfl); (· exact Ent.auto)))
                          exact ⟨Ent.refl _, by rw [right_no fun h => s2 h.2.2.2.2.2.2.2.2.2.2]⟩
                      · refine walk ?_
                        (first | (apply retRD1 (G := H) (.inr rfl) rfl; (· first | (refine rv_tmp (v := .bool _) rfl) | exact rv_tmp rfl); (· exact Ent.auto)) | (apply retRD1 (G := H) (.inl rfl) rfl; (· first | (refine rv_tmp (v := .bool _) rfl) | exact rv_tmp rfl); (· exact Ent.auto)))
                        exact ⟨Ent.refl _, by rw [right_no fun h => s1 h.2.2.2.2.2.2.2.2.2.1]⟩
                    · refine walk ?_
                      (first | (apply retRD1 (G := H) (.inr rfl) rfl; (· first | (refine rv_tmp (v := .bool _) rfl) | exact rv_tmp rfl); (· exact Ent.auto)) | (apply retRD1 (G := H) (.inl rfl) rfl; (· first | (refine rv_tmp (v := .bool _) rfl) | exact rv_tmp rfl); (· exact Ent.auto)))
                      exact ⟨Ent.refl _, by rw [right_no fun h => t2 h.2.2.2.2.2.2.2.2.1]⟩
                  · refine walk ?_
                    (first | (apply retRD1 (G := H) (.inr rfl) rfl; (· first | (refine rv_tmp (v := .bool _) rfl) | exact rv_tmp rfl); (· exact Ent.auto)) | (apply retRD1 (G := H) (.inl rfl) rfl; (· first | (refine rv_tmp (v := .bool _) rfl) | exact rv_tmp rfl); (· exact Ent.auto)))
                    exact ⟨Ent.refl _, by rw [right_no fun h => t1 h.2.2.2.2.2.2.2.1]⟩
                · refine walk ?_
                  (first | (apply retRD1 (G := H) (.inr rfl) rfl; (· first | (refine rv_tmp (v := .bool _) rfl) | exact rv_tmp rfl); (· exact Ent.auto)) | (apply retRD1 (G := H) (.inl rfl) rfl; (· first | (refine rv_tmp (v := .bool _) rfl) | exact rv_tmp rfl); (· exact Ent.auto)))
                  exact ⟨Ent.refl _, by rw [right_no fun h => m2 h.2.2.2.2.2.2.1]⟩
              · refine walk ?_
                (first | (apply retRD1 (G := H) (.inr rfl) rfl; (· first | (refine rv_tmp (v := .bool _) rfl) | exact rv_tmp rfl); (· exact Ent.auto)) | (apply retRD1 (G := H) (.inl rfl) rfl; (· first | (refine rv_tmp (v := .bool _) rfl) | exact rv_tmp rfl); (· exact Ent.auto)))
                exact ⟨Ent.refl _, by rw [right_no fun h => m1 h.2.2.2.2.2.1]⟩
            · refine walk ?_
              (first | (apply retRD1 (G := H) (.inr rfl) rfl; (· first | (refine rv_tmp (v := .bool _) rfl) | exact rv_tmp rfl); (· exact Ent.auto)) | (apply retRD1 (G := H) (.inl rfl) rfl; (· first | (refine rv_tmp (v := .bool _) rfl) | exact rv_tmp rfl); (· exact Ent.auto)))
              exact ⟨Ent.refl _, by rw [right_no fun h => g2 h.2.2.2.2.1]⟩
          · refine walk ?_
            (first | (apply retRD1 (G := H) (.inr rfl) rfl; (· first | (refine rv_tmp (v := .bool _) rfl) | exact rv_tmp rfl); (· exact Ent.auto)) | (apply retRD1 (G := H) (.inl rfl) rfl; (· first | (refine rv_tmp (v := .bool _) rfl) | exact rv_tmp rfl); (· exact Ent.auto)))
            exact ⟨Ent.refl _, by rw [right_no fun h => g1 h.2.2.2.1]⟩
        · refine walk ?_
          (first | (apply retRD1 (G := H) (.inr rfl) rfl; (· first | (refine rv_tmp (v := .bool _) rfl) | exact rv_tmp rfl); (· exact Ent.auto)) | (apply retRD1 (G := H) (.inl rfl) rfl; (· first | (refine rv_tmp (v := .bool _) rfl) | exact rv_tmp rfl); (· exact Ent.auto)))
          exact ⟨Ent.refl _, by rw [right_no fun h => n2 h.2.2.1]⟩
      · refine walk ?_
        (first | (apply retRD1 (G := H) (.inr rfl) rfl; (· first | (refine rv_tmp (v := .bool _) rfl) | exact rv_tmp rfl); (· exact Ent.auto)) | (apply retRD1 (G := H) (.inl rfl) rfl; (· first | (refine rv_tmp (v := .bool _) rfl) | exact rv_tmp rfl); (· exact Ent.auto)))
        exact ⟨Ent.refl _, by rw [right_no fun h => n1 h.2.1]⟩
    · rw [decide_eq_false (show ¬ (RoomP c.q ∧ c.q < 128) from fun h => hr h.1)] at hroom
      subst hroom
      refine walk ?_
      (first | (apply retRD1 (G := H) (.inr rfl) rfl; (· first | (refine rv_tmp (v := .bool _) rfl) | exact rv_tmp rfl); (· exact Ent.auto)) | (apply retRD1 (G := H) (.inl rfl) rfl; (· first | (refine rv_tmp (v := .bool _) rfl) | exact rv_tmp rfl); (· exact Ent.auto)))
      exact ⟨Ent.refl _, by rw [right_no fun h => hr h.1]⟩
theorem cRight : Does Tryd.prog B 14 [cfgV c] H fun r H' => H' = H ∧ r = .bool (decide (RightP c)) := by
  refine Does.frame0 ?_
  refine fn_intro 43 Tryd.func14 rfl rfl rfl ?_
  refine walk ?_
  refine s_box (cs := cv c) rfl rfl rfl ?_
  intro b
  refine walk ?_
  by_cases hn : 1 ≤ c.n ∧ c.n ≤ 8
  · refine s_call rfl (within_t hn) rfl ?_
    rintro _ _ ⟨e_, rfl⟩
    obtain rfl := e_.symm
    refine walk ?_
    by_cases hq : 2 ≤ c.q ∧ c.q ≤ 64
    · refine s_call rfl (within_t hq) rfl ?_
      rintro _ _ ⟨e_, rfl⟩
      obtain rfl := e_.symm
      refine walk ?_
      obtain ⟨kq, hkq⟩ := Int.eq_ofNat_of_zero_le (show 0 ≤ c.q by omega)
      have hand := room_and kq (by omega) (by omega)
      refine s_and (p := c.q) (q := c.q - 1) (r := (kq &&& (kq - 1))) rfl rfl ?_ ?_ ?_ ?_ rfl ?_
      · show 0 ≤ c.q ∧ c.q < 18446744073709551616; omega
      · show 0 ≤ c.q - 1 ∧ c.q - 1 < 18446744073709551616; omega
      · rw [hkq]; congr 1; omega
      · refine intI64 ?_; have : kq &&& (kq - 1) ≤ kq := Nat.and_le_left; omega
      by_cases hr : RoomP c.q
      · have hz : (kq &&& (kq - 1)) = 0 := hand.2 (by unfold RoomP at hr; omega)
        rw [hz]
        refine walk ?_
        by_cases hg : 1 ≤ c.g ∧ c.g ≤ 256
        · refine s_call rfl (within_t hg) rfl ?_
          rintro _ _ ⟨e_, rfl⟩
          obtain rfl := e_.symm
          refine walk ?_
          by_cases hm : c.n + 1 ≤ c.m ∧ c.m ≤ 16
          · refine s_call rfl (within_t hm) rfl ?_
            rintro _ _ ⟨e_, rfl⟩
            obtain rfl := e_.symm
            refine walk ?_
            by_cases ht : 2 ≤ c.t ∧ c.t ≤ 200
            · refine s_call rfl (within_t ht) rfl ?_
              rintro _ _ ⟨e_, rfl⟩
              obtain rfl := e_.symm
              refine walk ?_
              by_cases hs : 0 ≤ c.s ∧ c.s ≤ 1000
              · refine s_call rfl (within_t hs) rfl ?_
                rintro _ _ ⟨e_, rfl⟩
                obtain rfl := e_.symm
                refine walk ?_
                (first | (apply retRD1 (G := H) (.inr rfl) rfl; (· first | (refine rv_tmp (v := .bool _) rfl) | exact rv_tmp rfl); (· exact Ent.auto)) | (apply retRD1 (G := H) (.inl rfl) rfl; (· first | (refine rv_tmp (v := .bool _) rfl) | exact rv_tmp rfl); (· exact Ent.auto)))
                exact ⟨Ent.refl _, by rw [decide_eq_true (show RightP c from ⟨hr, hn.1, hn.2, hg.1, hg.2, by omega, hm.2, ht.1, ht.2, hs.1, hs.2⟩)]⟩
              · refine s_call rfl (within_f hs) rfl ?_
                rintro _ _ ⟨e_, rfl⟩
                obtain rfl := e_.symm
                refine walk ?_
                (first | (apply retRD1 (G := H) (.inr rfl) rfl; (· first | (refine rv_tmp (v := .bool _) rfl) | exact rv_tmp rfl); (· exact Ent.auto)) | (apply retRD1 (G := H) (.inl rfl) rfl; (· first | (refine rv_tmp (v := .bool _) rfl) | exact rv_tmp rfl); (· exact Ent.auto)))
                exact ⟨Ent.refl _, by rw [right_no fun h => hs (by obtain ⟨_, _, _, _, _, _, _, _, _, h10⟩ := h; omega)]⟩
            · refine s_call rfl (within_f ht) rfl ?_
              rintro _ _ ⟨e_, rfl⟩
              obtain rfl := e_.symm
              refine walk ?_
              (first | (apply retRD1 (G := H) (.inr rfl) rfl; (· first | (refine rv_tmp (v := .bool _) rfl) | exact rv_tmp rfl); (· exact Ent.auto)) | (apply retRD1 (G := H) (.inl rfl) rfl; (· first | (refine rv_tmp (v := .bool _) rfl) | exact rv_tmp rfl); (· exact Ent.auto)))
              exact ⟨Ent.refl _, by rw [right_no fun h => ht (by obtain ⟨_, _, _, _, _, _, _, h8, h9, _⟩ := h; omega)]⟩
          · refine s_call rfl (within_f hm) rfl ?_
            rintro _ _ ⟨e_, rfl⟩
            obtain rfl := e_.symm
            refine walk ?_
            (first | (apply retRD1 (G := H) (.inr rfl) rfl; (· first | (refine rv_tmp (v := .bool _) rfl) | exact rv_tmp rfl); (· exact Ent.auto)) | (apply retRD1 (G := H) (.inl rfl) rfl; (· first | (refine rv_tmp (v := .bool _) rfl) | exact rv_tmp rfl); (· exact Ent.auto)))
            exact ⟨Ent.refl _, by rw [right_no fun h => hm (by obtain ⟨_, _, _, _, _, h6, h7, _⟩ := h; omega)]⟩
        · refine s_call rfl (within_f hg) rfl ?_
          rintro _ _ ⟨e_, rfl⟩
          obtain rfl := e_.symm
          refine walk ?_
          (first | (apply retRD1 (G := H) (.inr rfl) rfl; (· first | (refine rv_tmp (v := .bool _) rfl) | exact rv_tmp rfl); (· exact Ent.auto)) | (apply retRD1 (G := H) (.inl rfl) rfl; (· first | (refine rv_tmp (v := .bool _) rfl) | exact rv_tmp rfl); (· exact Ent.auto)))
          exact ⟨Ent.refl _, by rw [right_no fun h => hg ⟨h.2.2.2.1, h.2.2.2.2.1⟩]⟩
      · have hz : (kq &&& (kq - 1)) ≠ 0 := fun h => hr (by have := hand.1 h; unfold RoomP; omega)
        refine walk ?_
        (first | (apply retRD1 (G := H) (.inr rfl) rfl; (· first | (refine rv_tmp (v := .bool _) rfl) | exact rv_tmp rfl); (· exact Ent.auto)) | (apply retRD1 (G := H) (.inl rfl) rfl; (· first | (refine rv_tmp (v := .bool _) rfl) | exact rv_tmp rfl); (· exact Ent.auto)))
        exact ⟨Ent.refl _, by rw [right_no fun h => hr h.1]⟩
    · refine s_call rfl (within_f hq) rfl ?_
      rintro _ _ ⟨e_, rfl⟩
      obtain rfl := e_.symm
      refine walk ?_
      (first | (apply retRD1 (G := H) (.inr rfl) rfl; (· first | (refine rv_tmp (v := .bool _) rfl) | exact rv_tmp rfl); (· exact Ent.auto)) | (apply retRD1 (G := H) (.inl rfl) rfl; (· first | (refine rv_tmp (v := .bool _) rfl) | exact rv_tmp rfl); (· exact Ent.auto)))
      exact ⟨Ent.refl _, by rw [right_no fun h => hq (by have := h.1; unfold RoomP at this; omega)]⟩
  · refine s_call rfl (within_f hn) rfl ?_
    rintro _ _ ⟨e_, rfl⟩
    obtain rfl := e_.symm
    refine walk ?_
    (first | (apply retRD1 (G := H) (.inr rfl) rfl; (· first | (refine rv_tmp (v := .bool _) rfl) | exact rv_tmp rfl); (· exact Ent.auto)) | (apply retRD1 (G := H) (.inl rfl) rfl; (· first | (refine rv_tmp (v := .bool _) rfl) | exact rv_tmp rfl); (· exact Ent.auto)))
    exact ⟨Ent.refl _, by rw [right_no fun h => hn ⟨h.2.1, h.2.2.1⟩]⟩
theorem cells_no (h : ¬ RightP c) : Does Tryd.prog B 16 [cfgV c] H fun r H' => H' = H ∧ r = .int .i64 0 := by
  refine Does.frame0 ?_
  refine fn_intro 13 Tryd.func16 rfl rfl rfl ?_
  refine walk ?_
  refine s_box (cs := cv c) rfl rfl rfl ?_
  intro b
  refine walk ?_
  refine s_call rfl (cRight) rfl ?_
  rintro _ _ ⟨e_, rfl⟩
  obtain rfl := e_.symm
  refine walk ?_
  rw [decide_eq_false h]
  refine walk ?_
  (first | (apply retRD1 (G := H) (.inr rfl) rfl; (· first | (refine rv_tmp (v := .int _ _) rfl) | exact rv_tmp rfl); (· exact Ent.auto)) | (apply retRD1 (G := H) (.inl rfl) rfl; (· first | (refine rv_tmp (v := .int _ _) rfl) | exact rv_tmp rfl); (· exact Ent.auto)))
  exact ⟨Ent.refl _, rfl⟩
theorem cells_yes {n q : Nat} (h : RightP c) (hn : c.n = n) (hq : c.q = q) : Does Tryd.prog B 16 [cfgV c] H fun r H' => H' = H ∧ r = .int .i64 ((4 + n * (6 + q) : Nat) : Int) := by
  obtain ⟨h1, h2, h3, _⟩ := id h
  have h1' : q ≤ 64 := by unfold RoomP at h1; omega
  have hb : n * (6 + q) ≤ 8 * 70 := Nat.mul_le_mul (by omega) (by omega)
  have e : c.n * (6 + c.q) = ((n * (6 + q) : Nat) : Int) := by rw [hn, hq]; push_cast; rfl
  refine Does.frame0 ?_
  refine fn_intro 13 Tryd.func16 rfl rfl rfl ?_
  refine walk ?_
  refine s_box (cs := cv c) rfl rfl rfl ?_
  intro b
  refine walk ?_
  refine s_call rfl (cRight) rfl ?_
  rintro _ _ ⟨e_, rfl⟩
  obtain rfl := e_.symm
  refine walk ?_
  rw [decide_eq_true h]
  refine walk ?_
  (first | (apply retRD1 (G := H) (.inr rfl) rfl; (· first | (refine rv_tmp (v := .int _ _) rfl) | exact rv_tmp rfl); (· exact Ent.auto)) | (apply retRD1 (G := H) (.inl rfl) rfl; (· first | (refine rv_tmp (v := .int _ _) rfl) | exact rv_tmp rfl); (· exact Ent.auto)))
  exact ⟨Ent.refl _, by rw [e, Int.natCast_add]; rfl⟩
/-- Where a P's cell is. -/
def atV (c : Cfg) (p i : Int) : Int := if RightP c ∧ 0 ≤ p ∧ p ≤ c.n - 1 then 4 + p * (6 + c.q) + i else -1
theorem at_spec {i : Int} (hi : 0 ≤ i ∧ i ≤ 100000) : Does Tryd.prog B 37 [.agg (cv c ++ [Value.int .i64 p]).toArray, .int .i64 i] H fun r H' => H' = H ∧ r = .int .i64 (atV c p i) := by
  refine Does.frame0 ?_
  refine fn_intro 29 Tryd.func37 rfl rfl rfl ?_
  refine walk ?_
  refine s_box (cs := cv c ++ [Value.int .i64 p]) rfl rfl rfl ?_
  intro b
  have hcs : Cells B (blk b (cv c ++ [Value.int .i64 p]) 61) b 0 (cv c) := Cells.blk fun j v h => by
    rw [Nat.zero_add, List.getElem?_append_left (List.getElem?_eq_some_iff.1 h).1]; exact h
  refine walk ?_
  by_cases h : RightP c
  · obtain ⟨h1, h2, h3, _⟩ := id h
    have h1' : 2 ≤ c.q ∧ c.q ≤ 64 := by unfold RoomP at h1; omega
    refine s_call rfl (cRight) rfl ?_
    rintro _ _ ⟨e_, rfl⟩
    obtain rfl := e_.symm
    refine walk ?_
    rw [decide_eq_true h]
    refine walk ?_
    by_cases hp : 0 ≤ p ∧ p ≤ c.n - 1
    · have e : atV c p i = 4 + p * (6 + c.q) + i := by unfold atV; rw [if_pos ⟨h, hp⟩]
      have hb : 0 ≤ p * (6 + c.q) ∧ p * (6 + c.q) ≤ 8 * 70 := ⟨Int.mul_nonneg hp.1 (by omega), Int.mul_le_mul (by omega) (by omega) (by omega) (by omega)⟩
      refine s_call rfl (within_t hp) rfl ?_
      rintro _ _ ⟨e_, rfl⟩
      obtain rfl := e_.symm
      refine walk ?_
      (first | (apply retRD1 (G := H) (.inr rfl) rfl; (· first | (refine rv_tmp (v := .int _ _) rfl) | exact rv_tmp rfl); (· exact Ent.auto)) | (apply retRD1 (G := H) (.inl rfl) rfl; (· first | (refine rv_tmp (v := .int _ _) rfl) | exact rv_tmp rfl); (· exact Ent.auto)))
      exact ⟨Ent.refl _, by rw [e]⟩
    · have e : atV c p i = -1 := by unfold atV; rw [if_neg fun h => hp h.2]
      refine s_call rfl (within_f hp) rfl ?_
      rintro _ _ ⟨e_, rfl⟩
      obtain rfl := e_.symm
      refine walk ?_
      (first | (apply retRD1 (G := H) (.inr rfl) rfl; (· first | (refine rv_tmp (v := .int _ _) rfl) | exact rv_tmp rfl); (· exact Ent.auto)) | (apply retRD1 (G := H) (.inl rfl) rfl; (· first | (refine rv_tmp (v := .int _ _) rfl) | exact rv_tmp rfl); (· exact Ent.auto)))
      exact ⟨Ent.refl _, by rw [e]⟩
  · have e : atV c p i = -1 := by unfold atV; rw [if_neg fun h2 => h h2.1]
    refine s_call rfl (cRight) rfl ?_
    rintro _ _ ⟨e_, rfl⟩
    obtain rfl := e_.symm
    refine walk ?_
    rw [decide_eq_false h]
    refine walk ?_
    (first | (apply retRD1 (G := H) (.inr rfl) rfl; (· first | (refine rv_tmp (v := .int _ _) rfl) | exact rv_tmp rfl); (· exact Ent.auto)) | (apply retRD1 (G := H) (.inl rfl) rfl; (· first | (refine rv_tmp (v := .int _ _) rfl) | exact rv_tmp rfl); (· exact Ent.auto)))
    exact ⟨Ent.refl _, by rw [e]⟩
theorem cWord : Does Tryd.prog B 17 [cfgV c, .int .i64 p] H fun r H' => H' = H ∧ r = .int .i64 (atV c p 0) := by
  refine Does.frame0 ?_
  refine fn_intro 9 Tryd.func17 rfl rfl rfl ?_
  refine walk ?_
  refine s_box (cs := cv c) rfl rfl rfl ?_
  intro b
  refine walk ?_
  (refine s_build (cs := cv c ++ [Value.int .i64 p]) ?_ rfl ?_; (· kernel_rfl))
  refine s_call rfl (at_spec (c := c) (p := p) (i := 0) (by omega)) rfl ?_
  rintro _ _ ⟨e_, rfl⟩
  obtain rfl := e_.symm
  refine walk ?_
  (first | (apply retRD1 (G := H) (.inr rfl) rfl; (· first | (refine rv_tmp (v := .int _ _) rfl) | exact rv_tmp rfl); (· exact Ent.auto)) | (apply retRD1 (G := H) (.inl rfl) rfl; (· first | (refine rv_tmp (v := .int _ _) rfl) | exact rv_tmp rfl); (· exact Ent.auto)))
  exact ⟨Ent.refl _, rfl⟩
theorem cNext : Does Tryd.prog B 18 [cfgV c, .int .i64 p] H fun r H' => H' = H ∧ r = .int .i64 (atV c p 1) := by
  refine Does.frame0 ?_
  refine fn_intro 9 Tryd.func18 rfl rfl rfl ?_
  refine walk ?_
  refine s_box (cs := cv c) rfl rfl rfl ?_
  intro b
  refine walk ?_
  (refine s_build (cs := cv c ++ [Value.int .i64 p]) ?_ rfl ?_; (· kernel_rfl))
  refine s_call rfl (at_spec (c := c) (p := p) (i := 1) (by omega)) rfl ?_
  rintro _ _ ⟨e_, rfl⟩
  obtain rfl := e_.symm
  refine walk ?_
  (first | (apply retRD1 (G := H) (.inr rfl) rfl; (· first | (refine rv_tmp (v := .int _ _) rfl) | exact rv_tmp rfl); (· exact Ent.auto)) | (apply retRD1 (G := H) (.inl rfl) rfl; (· first | (refine rv_tmp (v := .int _ _) rfl) | exact rv_tmp rfl); (· exact Ent.auto)))
  exact ⟨Ent.refl _, rfl⟩
theorem cStat : Does Tryd.prog B 19 [cfgV c, .int .i64 p] H fun r H' => H' = H ∧ r = .int .i64 (atV c p 2) := by
  refine Does.frame0 ?_
  refine fn_intro 9 Tryd.func19 rfl rfl rfl ?_
  refine walk ?_
  refine s_box (cs := cv c) rfl rfl rfl ?_
  intro b
  refine walk ?_
  (refine s_build (cs := cv c ++ [Value.int .i64 p]) ?_ rfl ?_; (· kernel_rfl))
  refine s_call rfl (at_spec (c := c) (p := p) (i := 2) (by omega)) rfl ?_
  rintro _ _ ⟨e_, rfl⟩
  obtain rfl := e_.symm
  refine walk ?_
  (first | (apply retRD1 (G := H) (.inr rfl) rfl; (· first | (refine rv_tmp (v := .int _ _) rfl) | exact rv_tmp rfl); (· exact Ent.auto)) | (apply retRD1 (G := H) (.inl rfl) rfl; (· first | (refine rv_tmp (v := .int _ _) rfl) | exact rv_tmp rfl); (· exact Ent.auto)))
  exact ⟨Ent.refl _, rfl⟩
theorem cTick : Does Tryd.prog B 20 [cfgV c, .int .i64 p] H fun r H' => H' = H ∧ r = .int .i64 (atV c p 3) := by
  refine Does.frame0 ?_
  refine fn_intro 9 Tryd.func20 rfl rfl rfl ?_
  refine walk ?_
  refine s_box (cs := cv c) rfl rfl rfl ?_
  intro b
  refine walk ?_
  (refine s_build (cs := cv c ++ [Value.int .i64 p]) ?_ rfl ?_; (· kernel_rfl))
  refine s_call rfl (at_spec (c := c) (p := p) (i := 3) (by omega)) rfl ?_
  rintro _ _ ⟨e_, rfl⟩
  obtain rfl := e_.symm
  refine walk ?_
  (first | (apply retRD1 (G := H) (.inr rfl) rfl; (· first | (refine rv_tmp (v := .int _ _) rfl) | exact rv_tmp rfl); (· exact Ent.auto)) | (apply retRD1 (G := H) (.inl rfl) rfl; (· first | (refine rv_tmp (v := .int _ _) rfl) | exact rv_tmp rfl); (· exact Ent.auto)))
  exact ⟨Ent.refl _, rfl⟩
theorem cSys : Does Tryd.prog B 21 [cfgV c, .int .i64 p] H fun r H' => H' = H ∧ r = .int .i64 (atV c p 4) := by
  refine Does.frame0 ?_
  refine fn_intro 9 Tryd.func21 rfl rfl rfl ?_
  refine walk ?_
  refine s_box (cs := cv c) rfl rfl rfl ?_
  intro b
  refine walk ?_
  (refine s_build (cs := cv c ++ [Value.int .i64 p]) ?_ rfl ?_; (· kernel_rfl))
  refine s_call rfl (at_spec (c := c) (p := p) (i := 4) (by omega)) rfl ?_
  rintro _ _ ⟨e_, rfl⟩
  obtain rfl := e_.symm
  refine walk ?_
  (first | (apply retRD1 (G := H) (.inr rfl) rfl; (· first | (refine rv_tmp (v := .int _ _) rfl) | exact rv_tmp rfl); (· exact Ent.auto)) | (apply retRD1 (G := H) (.inl rfl) rfl; (· first | (refine rv_tmp (v := .int _ _) rfl) | exact rv_tmp rfl); (· exact Ent.auto)))
  exact ⟨Ent.refl _, rfl⟩
theorem cFlag : Does Tryd.prog B 22 [cfgV c, .int .i64 p] H fun r H' => H' = H ∧ r = .int .i64 (atV c p 5) := by
  refine Does.frame0 ?_
  refine fn_intro 9 Tryd.func22 rfl rfl rfl ?_
  refine walk ?_
  refine s_box (cs := cv c) rfl rfl rfl ?_
  intro b
  refine walk ?_
  (refine s_build (cs := cv c ++ [Value.int .i64 p]) ?_ rfl ?_; (· kernel_rfl))
  refine s_call rfl (at_spec (c := c) (p := p) (i := 5) (by omega)) rfl ?_
  rintro _ _ ⟨e_, rfl⟩
  obtain rfl := e_.symm
  refine walk ?_
  (first | (apply retRD1 (G := H) (.inr rfl) rfl; (· first | (refine rv_tmp (v := .int _ _) rfl) | exact rv_tmp rfl); (· exact Ent.auto)) | (apply retRD1 (G := H) (.inl rfl) rfl; (· first | (refine rv_tmp (v := .int _ _) rfl) | exact rv_tmp rfl); (· exact Ent.auto)))
  exact ⟨Ent.refl _, rfl⟩
theorem cSlot {i : Int} (hi : 0 ≤ i ∧ i < 4294967296) : Does Tryd.prog B 24 [cfgV c, .int .i64 p, .int .u32 i] H fun r H' => H' = H ∧ r = .int .i64 (atV c p (6 + i % c.q)) := by
  refine Does.frame0 ?_
  refine fn_intro 21 Tryd.func24 rfl rfl rfl ?_
  refine walk ?_
  refine s_box (cs := cv c) rfl rfl rfl ?_
  intro b
  refine walk ?_
  by_cases h : RightP c
  · obtain ⟨h1, h2, h3, _⟩ := id h
    have h1' : 2 ≤ c.q ∧ c.q ≤ 64 := by unfold RoomP at h1; omega
    have hr : 0 ≤ i % c.q ∧ i % c.q < 64 := ⟨Int.emod_nonneg _ (by omega), by have := Int.emod_lt_of_pos i (show 0 < c.q by omega); omega⟩
    refine s_call rfl (cRight) rfl ?_
    rintro _ _ ⟨e_, rfl⟩
    obtain rfl := e_.symm
    refine walk ?_
    rw [decide_eq_true h]
    refine walk ?_
    (refine wp_draw [10] (.look 0 (.look 1 (.look 2 (.look 3 (.look 4 (.look 5 (.look 6 (.look 7 (.look 8 (.look 9 (.act 10 (.look 11 .nil) .stop))))))))))) (by kernel_rfl) ?_; (apply dw_look; (· exact rfl); (· exact rfl); (· (exact looked))); (apply dw_pure; (· exact rfl); (· exact rfl); (· (intro G; exact looked))); (apply dw_pure; (· exact rfl); (· exact rfl); (· (intro G; (refine s_build (cs := cv c ++ [Value.int .i64 p]) ?_ rfl ?_; (· kernel_rfl)); exact looked))); (apply dw_pure; (· exact rfl); (· exact rfl); (· (intro G; exact looked))); (apply dw_pure; (· exact rfl); (· exact rfl); (· (intro G; exact looked))); (apply dw_look; (· exact rfl); (· exact rfl); (· (exact looked))); (apply dw_pure; (· exact rfl); (· exact rfl); (· (intro G; exact looked))); (apply dw_pure; (· exact rfl); (· exact rfl); (· (intro G; exact looked))); (apply dw_pure; (· exact rfl); (· exact rfl); (· (intro G; exact looked))); (apply dw_pure; (· exact rfl); (· exact rfl); (· (intro G; exact looked))); skip)
    refine dw_do rfl rfl ?_ dw_stop
    refine s_call rfl (at_spec (c := c) (p := p) (i := 6 + i % c.q) (by omega)) rfl ?_
    rintro _ _ ⟨e_, rfl⟩
    obtain rfl := e_.symm
    refine wpl_nil (qone ⟨(by refine st_past (by kernel_rfl) ?_; refine st_past (by kernel_rfl) ?_; exact st_nil), ?_⟩)
    ((apply dw_pure; (· exact rfl); (· exact rfl); (· (intro G; exact looked))); refine dw_nil ?_; skip)
    refine walk ?_
    (first | (apply retRD1 (G := H) (.inr rfl) rfl; (· first | (refine rv_tmp (v := .int _ _) rfl) | exact rv_tmp rfl); (· exact Ent.auto)) | (apply retRD1 (G := H) (.inl rfl) rfl; (· first | (refine rv_tmp (v := .int _ _) rfl) | exact rv_tmp rfl); (· exact Ent.auto)))
    exact ⟨Ent.refl _, rfl⟩
  · have e : atV c p (6 + i % c.q) = -1 := by unfold atV; rw [if_neg fun h2 => h h2.1]
    refine s_call rfl (cRight) rfl ?_
    rintro _ _ ⟨e_, rfl⟩
    obtain rfl := e_.symm
    refine walk ?_
    rw [decide_eq_false h]
    refine walk ?_
    (first | (apply retRD1 (G := H) (.inr rfl) rfl; (· first | (refine rv_tmp (v := .int _ _) rfl) | exact rv_tmp rfl); (· exact Ent.auto)) | (apply retRD1 (G := H) (.inl rfl) rfl; (· first | (refine rv_tmp (v := .int _ _) rfl) | exact rv_tmp rfl); (· exact Ent.auto)))
    exact ⟨Ent.refl _, by rw [e]⟩
theorem dConfig : Does Tryd.prog B 9 [cfgV c] H fun r H' => H' = H ∧ r = cfgV c := by
  refine Does.frame0 ?_
  refine fn_intro 16 Tryd.func9 rfl rfl rfl ?_
  refine walk ?_
  refine s_box (cs := cv c) rfl rfl rfl ?_
  intro b
  refine s_alloc rfl ?_
  intro b2
  refine walk ?_
  (refine s_build (cs := cv c) ?_ rfl ?_; (· kernel_rfl))
  refine s_storeV (vs := cv c) rfl rfl rfl rfl rfl ?_
  refine walk ?_
  (first | (apply retRD1 (G := H) (.inr rfl) rfl; (· first | (refine rv_cell (v := .agg _) rfl (Cell.blk rfl)) | exact rv_cellA rfl Cells.blk0 rfl | (apply rv_cell; (· exact rfl); (· assumption)) | (apply rv_cellA; (· exact rfl); (· assumption); (· exact rfl))); (· exact Ent.auto)) | (apply retRD1 (G := H) (.inl rfl) rfl; (· first | (refine rv_cell (v := .agg _) rfl (Cell.blk rfl)) | exact rv_cellA rfl Cells.blk0 rfl | (apply rv_cell; (· exact rfl); (· assumption)) | (apply rv_cellA; (· exact rfl); (· assumption); (· exact rfl))); (· exact Ent.auto)))
  exact ⟨Ent.refl _, rfl⟩
end
end Go.Proofs.YtoheplamhocloaaDoor
