/- A span's text is read: the program's way. No condition. -/
import Derived.Test.YtkgddnelghkdnaaDoorSpRead01b
import Derived.Test.YtkgddnelghkdnaaDoorSL4
namespace Go.Proofs.YtkgddnelghkdnaaDoor
open Go Go.SL Go.SL.Flo
set_option linter.unusedSimpArgs false
set_option linter.unusedVariables false
set_option maxRecDepth 10000
set_option maxHeartbeats 4000000
theorem cut_at : ∀ (l p : List UInt8), (∀ x ∈ l, x ≠ 46) → Lib.cut (l ++ 46 :: p) [46] = (l, p, true) := by
  have key : ∀ (l p : List UInt8), (∀ x ∈ l, x ≠ 46) → Lib.index (l ++ 46 :: p) [46] = l.length := by
    intro l
    induction l with
    | nil => intro p _; rw [List.nil_append, Lib.index]; simp [List.isPrefixOf]
    | cons a l ih =>
      intro p h
      have h1 := ih p (fun x hx => h x (by simp [hx]))
      have ha : a ≠ 46 := h a (by simp)
      have hp : List.isPrefixOf [46] (a :: (l ++ 46 :: p)) = false := by simp [List.isPrefixOf]; exact fun e => ha e.symm
      rw [List.cons_append, Lib.index, hp, h1]
      have : ¬ ((l.length : Int) == -1) = true := fun e => by have := beq_iff_eq.1 e; omega
      simp [this]
  intro l p h
  unfold Lib.cut
  rw [key l p h, if_pos (by omega)]
  simp
theorem dec_dig : ∀ (k : Nat), ∀ x ∈ dg k, 48 ≤ x.toNat ∧ x.toNat ≤ 57 := by
  intro k
  induction k using Nat.strongRecOn with
  | _ k ih =>
    intro x hx
    change x ∈ Lib.decDigits k at hx
    rw [dec_step] at hx
    have hd : ∀ d, d < 10 → 48 ≤ (UInt8.ofNat (48 + d)).toNat ∧ (UInt8.ofNat (48 + d)).toNat ≤ 57 := by decide
    by_cases hk : k < 10
    · rw [if_pos hk] at hx
      simp only [List.mem_singleton] at hx
      subst hx
      exact hd k hk
    · rw [if_neg hk, List.mem_append] at hx
      rcases hx with hx | hx
      · exact ih (k / 10) (by omega) x hx
      · simp only [List.mem_singleton] at hx
        subst hx
        exact hd (k % 10) (by omega)
theorem parse_one {a k : Nat} {t : List UInt8} (hk : k < 10) (h : a * 10 + k < 1844674407370955162) : Lib.parseUintM (2 ^ 64 - 1) a (UInt8.ofNat (48 + k) :: t) = Lib.parseUintM (2 ^ 64 - 1) (a * 10 + k) t := by
  have hd : ∀ d, d < 10 → (UInt8.ofNat (48 + d)).toNat = 48 + d := by decide
  rw [Lib.parseUintM, hd k hk, if_pos (by omega), if_neg (by omega), if_neg (by omega)]
  congr 1
  omega
theorem parse_take : ∀ (k a : Nat) (t : List UInt8), a * 10 ^ (dg k).length + k < 1844674407370955162 → Lib.parseUintM (2 ^ 64 - 1) a (dg k ++ t) = Lib.parseUintM (2 ^ 64 - 1) (a * 10 ^ (dg k).length + k) t := by
  intro k
  induction k using Nat.strongRecOn with
  | _ k ih =>
    intro a t h
    change a * 10 ^ (Lib.decDigits k).length + k < _ at h
    show Lib.parseUintM _ a (Lib.decDigits k ++ t) = Lib.parseUintM _ (a * 10 ^ (Lib.decDigits k).length + k) t
    by_cases hk : k < 10
    · have e : Lib.decDigits k = [UInt8.ofNat (48 + k)] := by rw [dec_step, if_pos hk]
      rw [e] at h ⊢
      simp only [List.length_cons, List.length_nil, Nat.zero_add, Nat.pow_one] at h ⊢
      exact parse_one hk h
    · have e : Lib.decDigits k = Lib.decDigits (k / 10) ++ [UInt8.ofNat (48 + k % 10)] := by rw [dec_step, if_neg hk]
      rw [e] at h ⊢
      have ep : (10 : Nat) ^ ((Lib.decDigits (k / 10)).length + 1) = 10 ^ (Lib.decDigits (k / 10)).length * 10 := Nat.pow_succ _ _
      rw [List.length_append, List.length_cons, List.length_nil, Nat.zero_add, ep] at h ⊢
      have h2 := ih (k / 10) (by omega) a (UInt8.ofNat (48 + k % 10) :: t)
      change a * 10 ^ (Lib.decDigits (k / 10)).length + k / 10 < _ → Lib.parseUintM _ a (Lib.decDigits (k / 10) ++ _) = Lib.parseUintM _ (a * 10 ^ (Lib.decDigits (k / 10)).length + k / 10) _ at h2
      generalize 10 ^ (Lib.decDigits (k / 10)).length = P at *
      have ea : a * (P * 10) = a * P * 10 := by rw [Nat.mul_assoc]
      rw [ea] at h ⊢
      rw [List.append_assoc, List.singleton_append, h2 (by omega), parse_one (by omega) (by omega)]
      congr 1
      omega
theorem parse_zeros : ∀ (m : Nat) (t : List UInt8), Lib.parseUintM (2 ^ 64 - 1) 0 (List.replicate m 48 ++ t) = Lib.parseUintM (2 ^ 64 - 1) 0 t
  | 0, t => rfl
  | m + 1, t => by
    rw [List.replicate_succ, List.cons_append]
    have e := parse_one (a := 0) (k := 0) (t := List.replicate m 48 ++ t) (by omega) (by omega)
    exact e.trans (parse_zeros m t)
theorem parse_int {l : List UInt8} {u : Nat} (hne : l ≠ []) (hd : ∀ x ∈ l, 48 ≤ x.toNat) (h : Lib.parseUintM (2 ^ 64 - 1) 0 l = .ok u) (hu : u < 9223372036854775808) : Lib.parseIntB 64 l = .ok (u : Int) := by
  cases l with
  | nil => exact absurd rfl hne
  | cons c r =>
    have hc := hd c (by simp)
    have h1 : Lib.parseUintB 64 (c :: r) = .ok u := by unfold Lib.parseUintB; rw [if_neg (by simp)]; exact h
    unfold Lib.parseIntB
    simp only
    rw [if_neg (by omega), h1]
    simp only
    have h45 : ¬ c.toNat = 45 := by omega
    rw [if_neg (by omega), if_neg (by omega), if_neg h45]
theorem dec_ne (k : Nat) : dg k ≠ [] := by
  show Lib.decDigits k ≠ []
  rw [dec_step]
  split <;> simp
/-- What a span's text falls into. -/
theorem text_parts {n : Int} (h : 0 ≤ n ∧ n ≤ 4611686018427387904) : Lib.parseIntB 64 (Lib.cut (textS n) [46]).1 = .ok (n / 1000000) ∧ Lib.parseIntB 64 (Lib.cut (textS n) [46]).2.1 = .ok (n % 1000000) := by
  have e : textS n = dg (n / 1000000).toNat ++ 46 :: pad6 (n % 1000000).toNat := by
    unfold textS
    rw [if_pos h, List.append_assoc]
    rfl
  have hl := six_len (n % 1000000).toNat (by omega)
  rw [e, cut_at _ _ (fun x hx e => by have := (dec_dig _ x hx).1; rw [e] at this; exact absurd this (by decide))]
  constructor
  · have h1 := parse_take (n / 1000000).toNat 0 [] (by omega)
    rw [List.append_nil] at h1
    have := parse_int (u := (n / 1000000).toNat) (dec_ne _) (fun x hx => (dec_dig _ x hx).1) (by rw [h1]; simp [Lib.parseUintM]) (by omega)
    rw [show (((n / 1000000).toNat : Nat) : Int) = n / 1000000 by omega] at this
    exact this
  · have h1 := parse_take (n % 1000000).toNat 0 [] (by omega)
    rw [List.append_nil] at h1
    have h2 := parse_zeros (6 - (dg (n % 1000000).toNat).length) (dg (n % 1000000).toNat)
    have := parse_int (l := pad6 (n % 1000000).toNat) (u := (n % 1000000).toNat) (by unfold pad6; simp [dec_ne]) (fun x hx => by
      unfold pad6 at hx
      rcases List.mem_append.1 hx with hx | hx
      · have := (List.mem_replicate.1 hx).2; rw [this]; decide
      · exact (dec_dig _ x hx).1) (by unfold pad6; rw [h2, h1]; simp [Lib.parseUintM]) (by omega)
    rw [show (((n % 1000000).toNat : Nat) : Int) = n % 1000000 by omega] at this
    exact this
theorem cut_lens (s : List UInt8) : (Lib.cut s [46]).1.length ≤ s.length ∧ (Lib.cut s [46]).2.1.length ≤ s.length := by
  unfold Lib.cut
  split
  · simp only [List.length_take, List.length_drop]
    omega
  · simp
instance : UnderIfc Tryd.prog 54 := ⟨by kernel_rfl⟩
attribute [local irreducible] WP WPL QSeq QBlk QRet Does Cell Cells Rd Mine Ent Aside RV e0 QScp valU textS
section
variable {B : World} {F H : HProp} {s : List UInt8}
theorem readP (T : Tab B) (L : LibOk B) (hs : s.length ≤ 1000000) : Does Tryd.prog B 14 [str s] H fun r H' => H' = H ∧ r = readS s := by
  refine Does.frame0 ?_
  obtain ⟨hc1, hc2⟩ := cut_lens s
  have hparts : ∀ n : Int, 0 ≤ n ∧ n ≤ 4611686018427387904 → textS n = s → Lib.parseIntB 64 (Lib.cut s [46]).1 = .ok (n / 1000000) ∧ Lib.parseIntB 64 (Lib.cut s [46]).2.1 = .ok (n % 1000000) := fun n hn e => by
    have := text_parts hn
    rw [e] at this
    exact this
  generalize hw : (Lib.cut s [46]).1 = wh at *
  generalize hr : (Lib.cut s [46]).2.1 = rest at *
  refine fn_intro 55 Tryd.func14 rfl rfl rfl ?_
  refine walk ?_
  refine s_call rfl (dCut L (c := 46) (s := s) (by omega)) rfl ?_
  rintro _ _ ⟨e_, rfl⟩
  obtain rfl := e_.symm
  rw [hw, hr]
  refine walk ?_
  refine s_call rfl (dParse L (s := wh) (by omega)) rfl ?_
  rintro _ _ ⟨e_, v1, x1, rfl, hx1⟩
  obtain rfl := e_.symm
  rcases hx1 with ⟨p1, rfl⟩ | ⟨p1, t1, a1, rfl⟩
  · refine walk ?_
    refine s_call rfl (dParse L (s := rest) (by omega)) rfl ?_
    rintro _ _ ⟨e_, v2, x2, rfl, hx2⟩
    obtain rfl := e_.symm
    rcases hx2 with ⟨p2, rfl⟩ | ⟨p2, t2, a2, rfl⟩
    · have hv : ∀ n : Int, 0 ≤ n ∧ n ≤ 4611686018427387904 → textS n = s → v1 = n / 1000000 ∧ v2 = n % 1000000 := fun n hn e => by
        obtain ⟨q1, q2⟩ := hparts n hn e
        rw [p1] at q1
        rw [p2] at q2
        exact ⟨by injection q1, by injection q2⟩
      by_cases hb : v1 > 4611686018427 ∨ v2 ≥ 1000000
      · rw [readS_miss (s := s) (.inr fun n hn e => by have := hv n hn e; omega)]
        by_cases hb1 : v1 > 4611686018427
        · refine walk ?_
          refine s_neqI0 rfl rfl ?_
          refine walk ?_
          refine s_neqI0 rfl rfl ?_
          refine walk ?_
          (first | (apply retRD2 (G := H) (.inr rfl) rfl; (· first | (refine rv_tmp (v := .int _ _) rfl) | exact rv_tmp rfl); (· first | (refine rv_tmp (v := .int _ _) rfl) | exact rv_tmp rfl); (· exact Ent.auto)) | (apply retRD2 (G := H) (.inl rfl) rfl; (· first | (refine rv_tmp (v := .int _ _) rfl) | exact rv_tmp rfl); (· first | (refine rv_tmp (v := .int _ _) rfl) | exact rv_tmp rfl); (· exact Ent.auto)))
          exact ⟨Ent.refl _, rfl⟩
        · have hb2 : v2 ≥ 1000000 := by omega
          refine walk ?_
          refine s_neqI0 rfl rfl ?_
          refine walk ?_
          refine s_neqI0 rfl rfl ?_
          refine walk ?_
          (first | (apply retRD2 (G := H) (.inr rfl) rfl; (· first | (refine rv_tmp (v := .int _ _) rfl) | exact rv_tmp rfl); (· first | (refine rv_tmp (v := .int _ _) rfl) | exact rv_tmp rfl); (· exact Ent.auto)) | (apply retRD2 (G := H) (.inl rfl) rfl; (· first | (refine rv_tmp (v := .int _ _) rfl) | exact rv_tmp rfl); (· first | (refine rv_tmp (v := .int _ _) rfl) | exact rv_tmp rfl); (· exact Ent.auto)))
          exact ⟨Ent.refl _, rfl⟩
      · obtain ⟨N1, hN1⟩ : ∃ N1, IntKind.i64.wrap (v1 * 1000000) = N1 := ⟨_, rfl⟩
        obtain ⟨N, hN⟩ : ∃ N, IntKind.i64.wrap (N1 + v2) = N := ⟨_, rfl⟩
        have hn : ∀ n : Int, 0 ≤ n ∧ n ≤ 4611686018427387904 → textS n = s → N = n := fun n hn e => by
          obtain ⟨q1, q2⟩ := hv n hn e
          rw [← hN, ← hN1, wrapI64 (v1 * 1000000) (by omega), wrapI64 _ (by omega)]
          omega
        have hb1 : ¬ v1 > 4611686018427 := by omega
        have hb2 : ¬ v2 ≥ 1000000 := by omega
        have hcmp1 : v1 ≤ 4611686018427 := by omega
        clear hb
        by_cases ht : textS N = s
        · by_cases h0 : s = []
          · rw [readS_miss (s := s) (.inl h0)]
            refine walk ?_
            refine s_neqI0 rfl rfl ?_
            refine walk ?_
            refine s_neqI0 rfl rfl ?_
            refine walk ?_
            refine s_mulw rfl rfl hN1 rfl ?_
            refine walk ?_
            refine s_addw rfl rfl hN rfl ?_
            refine walk ?_
            refine s_call rfl (textP T (n := N)) rfl ?_
            rintro _ _ ⟨e_, rfl⟩
            obtain rfl := e_.symm
            refine walk ?_
            rw [ht]
            refine s_nestr rfl rfl (b := false) (by simp) rfl ?_
            refine walk ?_
            refine s_eqstr rfl rfl (b := true) (decide_eq_true (by rw [h0])) rfl ?_
            refine walk ?_
            (first | (apply retRD2 (G := H) (.inr rfl) rfl; (· first | (refine rv_tmp (v := .int _ _) rfl) | exact rv_tmp rfl); (· first | (refine rv_tmp (v := .int _ _) rfl) | exact rv_tmp rfl); (· exact Ent.auto)) | (apply retRD2 (G := H) (.inl rfl) rfl; (· first | (refine rv_tmp (v := .int _ _) rfl) | exact rv_tmp rfl); (· first | (refine rv_tmp (v := .int _ _) rfl) | exact rv_tmp rfl); (· exact Ent.auto)))
            exact ⟨Ent.refl _, rfl⟩
          · have hne : (⟨s.toArray⟩ : ByteArray) ≠ ⟨#[]⟩ := fun e => h0 (by simpa using e)
            rw [readS_hit h0 ht]
            refine walk ?_
            refine s_neqI0 rfl rfl ?_
            refine walk ?_
            refine s_neqI0 rfl rfl ?_
            refine walk ?_
            refine s_mulw rfl rfl hN1 rfl ?_
            refine walk ?_
            refine s_addw rfl rfl hN rfl ?_
            refine walk ?_
            refine s_call rfl (textP T (n := N)) rfl ?_
            rintro _ _ ⟨e_, rfl⟩
            obtain rfl := e_.symm
            refine walk ?_
            rw [ht]
            refine s_nestr rfl rfl (b := false) (by simp) rfl ?_
            refine walk ?_
            refine s_eqstr rfl rfl (b := false) (decide_eq_false hne) rfl ?_
            refine walk ?_
            (first | (apply retRD2 (G := H) (.inr rfl) rfl; (· first | (refine rv_tmp (v := .int _ _) rfl) | exact rv_tmp rfl); (· first | (refine rv_tmp (v := .int _ _) rfl) | exact rv_tmp rfl); (· exact Ent.auto)) | (apply retRD2 (G := H) (.inl rfl) rfl; (· first | (refine rv_tmp (v := .int _ _) rfl) | exact rv_tmp rfl); (· first | (refine rv_tmp (v := .int _ _) rfl) | exact rv_tmp rfl); (· exact Ent.auto)))
            exact ⟨Ent.refl _, rfl⟩
        · rw [readS_miss (s := s) (.inr fun n hn' e => ht (by rw [hn n hn' e]; exact e))]
          refine walk ?_
          refine s_neqI0 rfl rfl ?_
          refine walk ?_
          refine s_neqI0 rfl rfl ?_
          refine walk ?_
          refine s_mulw rfl rfl hN1 rfl ?_
          refine walk ?_
          refine s_addw rfl rfl hN rfl ?_
          refine walk ?_
          refine s_call rfl (textP T (n := N)) rfl ?_
          rintro _ _ ⟨e_, rfl⟩
          obtain rfl := e_.symm
          refine walk ?_
          refine s_nestr rfl rfl (b := true) (by simpa using ht) rfl ?_
          refine walk ?_
          (first | (apply retRD2 (G := H) (.inr rfl) rfl; (· first | (refine rv_tmp (v := .int _ _) rfl) | exact rv_tmp rfl); (· first | (refine rv_tmp (v := .int _ _) rfl) | exact rv_tmp rfl); (· exact Ent.auto)) | (apply retRD2 (G := H) (.inl rfl) rfl; (· first | (refine rv_tmp (v := .int _ _) rfl) | exact rv_tmp rfl); (· first | (refine rv_tmp (v := .int _ _) rfl) | exact rv_tmp rfl); (· exact Ent.auto)))
          exact ⟨Ent.refl _, rfl⟩
    · rw [readS_miss (s := s) (.inr fun n hn e => p2 _ (hparts n hn e).2)]
      refine walk ?_
      refine s_neqI0 rfl rfl ?_
      refine walk ?_
      refine s_neqI1 rfl rfl ?_
      refine walk ?_
      (first | (apply retRD2 (G := H) (.inr rfl) rfl; (· first | (refine rv_tmp (v := .int _ _) rfl) | exact rv_tmp rfl); (· first | (refine rv_tmp (v := .int _ _) rfl) | exact rv_tmp rfl); (· exact Ent.auto)) | (apply retRD2 (G := H) (.inl rfl) rfl; (· first | (refine rv_tmp (v := .int _ _) rfl) | exact rv_tmp rfl); (· first | (refine rv_tmp (v := .int _ _) rfl) | exact rv_tmp rfl); (· exact Ent.auto)))
      exact ⟨Ent.refl _, rfl⟩
  · rw [readS_miss (s := s) (.inr fun n hn e => p1 _ (hparts n hn e).1)]
    refine walk ?_
    refine s_call rfl (dParse L (s := rest) (by omega)) rfl ?_
    rintro _ _ ⟨e_, v2, x2, rfl, hx2⟩
    obtain rfl := e_.symm
    obtain ⟨d2, hd2⟩ : ∃ d2, x2 = d2 := ⟨_, rfl⟩
    rcases hx2 with ⟨p2, rfl⟩ | ⟨p2, t2, a2, rfl⟩
    · refine walk ?_
      refine s_neqI1 rfl rfl ?_
      refine walk ?_
      (first | (apply retRD2 (G := H) (.inr rfl) rfl; (· first | (refine rv_tmp (v := .int _ _) rfl) | exact rv_tmp rfl); (· first | (refine rv_tmp (v := .int _ _) rfl) | exact rv_tmp rfl); (· exact Ent.auto)) | (apply retRD2 (G := H) (.inl rfl) rfl; (· first | (refine rv_tmp (v := .int _ _) rfl) | exact rv_tmp rfl); (· first | (refine rv_tmp (v := .int _ _) rfl) | exact rv_tmp rfl); (· exact Ent.auto)))
      exact ⟨Ent.refl _, rfl⟩
    · refine walk ?_
      refine s_neqI1 rfl rfl ?_
      refine walk ?_
      (first | (apply retRD2 (G := H) (.inr rfl) rfl; (· first | (refine rv_tmp (v := .int _ _) rfl) | exact rv_tmp rfl); (· first | (refine rv_tmp (v := .int _ _) rfl) | exact rv_tmp rfl); (· exact Ent.auto)) | (apply retRD2 (G := H) (.inl rfl) rfl; (· first | (refine rv_tmp (v := .int _ _) rfl) | exact rv_tmp rfl); (· first | (refine rv_tmp (v := .int _ _) rfl) | exact rv_tmp rfl); (· exact Ent.auto)))
      exact ⟨Ent.refl _, rfl⟩
end
end Go.Proofs.YtkgddnelghkdnaaDoor
