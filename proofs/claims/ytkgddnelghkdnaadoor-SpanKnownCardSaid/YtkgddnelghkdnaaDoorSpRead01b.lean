/- A span's text is read: both ways. No condition. -/
import Derived.Test.YtkgddnelghkdnaaDoorSpRead01a
import Derived.Test.YtkgddnelghkdnaaDoorSpCutInt
import Derived.Test.YtkgddnelghkdnaaDoorSL3
namespace Go.Proofs.YtkgddnelghkdnaaDoor
open Go Go.SL Go.SL.Flo
set_option linter.unusedSimpArgs false
set_option linter.unusedVariables false
set_option maxRecDepth 10000
set_option maxHeartbeats 4000000
theorem take_lt {a : Nat} {c : UInt8} (h : a < 18446744073709551616) : takeU a c < 18446744073709551616 := by
  unfold takeU
  split
  · exact h
  · exact Nat.mod_lt _ (by omega)
theorem val_lt : ∀ (s : List UInt8) (a : Nat), a < 18446744073709551616 → s.foldl takeU a < 18446744073709551616
  | [], a, h => h
  | c :: s, a, h => val_lt s _ (take_lt h)
theorem val_step {s : List UInt8} {i : Nat} {c : UInt8} (h : s[i]? = some c) : valU (s.take (i + 1)) = takeU (valU (s.take i)) c := by
  unfold valU
  rw [List.take_add_one, h, List.foldl_append]
  rfl
attribute [local irreducible] WP WPL QSeq QBlk QRet Does Cell Cells Rd Mine Ent Aside RV e0 QScp valU textS
section
variable {B : World} {F H : HProp} {s : List UInt8}
theorem rReadP (hs : s.length ≤ 1000000) : Does Tryd.prog B 15 [str s] H fun r H' => H' = H ∧ r = readS s := by
  refine Does.frame0 ?_
  refine fn_intro 44 Tryd.func15 rfl rfl rfl ?_
  refine walk ?_
  refine wp_loopR (α := Nat × Nat) [4, 5, 6, 7, 8, 9, 10, 11, 12, 13, 14, 15, 16, 17, 18, 19, 20, 21, 22, 23, 24, 25, 26, 27, 28] (fun x => [(5, .int .i64 x.1), (4, .int .u64 (x.2 : Nat))]) (fun x => x.1 ≤ s.length ∧ x.2 = valU (s.take x.1) ∧ (30 ≤ s.length → x.1 = 0)) (fun x => s.length - x.1) (0, 0) agreed ⟨by omega, by rw [List.take_zero, valU]; rfl, by simp⟩ ?_
  rintro ⟨i, v⟩ f ⟨hi, hv, hi0⟩
  simp only at hi hv hi0
  simp only [putAll]
  by_cases hlt : i < s.length ∧ s.length < 30
  · obtain ⟨h1, h2⟩ := hlt
    have hget : s[i]? = some s[i] := List.getElem?_eq_getElem h1
    have hvl : v < 18446744073709551616 := by rw [hv, valU]; exact val_lt _ _ (by omega)
    have hst := val_step hget
    rw [← hv] at hst
    have hcn : s[i].toNat < 256 := UInt8.toNat_lt _
    have hsub : (s[i] - 48).toNat = (s[i].toNat + 208) % 256 := by
      rw [UInt8.toNat_sub]
      simp
      omega
    by_cases h46 : s[i] = 46
    · have h46n : s[i].toNat = 46 := by rw [h46]; rfl
      have hst2 : takeU v s[i] = v := by unfold takeU; rw [if_pos h46]
      rw [hst2] at hst
      refine walk ?_
      refine s_slen rfl rfl ?_
      refine walk ?_
      refine s_slen rfl rfl ?_
      refine walk ?_
      refine s_sindex (j := i) rfl rfl rfl h1 rfl ?_
      refine walk ?_
      exact ⟨(i + 1, v), asided, agreed, Ent.refl _, ⟨h1, hst.symm, by omega⟩, by simp only; omega⟩
    · have h46n : s[i].toNat ≠ 46 := fun e => h46 (UInt8.toNat_inj.1 e)
      have hst2 : takeU v s[i] = (v * 10 + (s[i].toNat + 208) % 256) % 18446744073709551616 := by unfold takeU; rw [if_neg h46, hsub]
      rw [hst2] at hst
      refine walk ?_
      refine s_slen rfl rfl ?_
      refine walk ?_
      refine s_slen rfl rfl ?_
      refine walk ?_
      refine s_sindex (j := i) rfl rfl rfl h1 rfl ?_
      refine walk ?_
      refine s_sindex (j := i) rfl rfl rfl h1 rfl ?_
      generalize s[i].toNat = cn at *
      refine walk ?_
      exact ⟨(i + 1, (v * 10 + (cn + 208) % 256) % 18446744073709551616), asided, agreed, Ent.refl _, ⟨h1, hst.symm, by omega⟩, by simp only; omega⟩
  · by_cases h30 : s.length < 30
    · obtain rfl : i = s.length := by omega
      rw [List.take_length] at hv
      by_cases hbig : v > 4611686018427387904
      · rw [readS_miss (s := s) (.inr fun n hn e => by have := val_text hn; rw [e, ← hv] at this; omega)]
        refine walk ?_
        refine s_slen rfl rfl ?_
        refine walk ?_
        (first | (apply retRD2 (G := H) (.inr rfl) rfl; (· first | (refine rv_tmp (v := .int _ _) rfl) | exact rv_tmp rfl); (· first | (refine rv_tmp (v := .int _ _) rfl) | exact rv_tmp rfl); (· exact Ent.auto)) | (apply retRD2 (G := H) (.inl rfl) rfl; (· first | (refine rv_tmp (v := .int _ _) rfl) | exact rv_tmp rfl); (· first | (refine rv_tmp (v := .int _ _) rfl) | exact rv_tmp rfl); (· exact Ent.auto)))
        exact ⟨Ent.refl _, rfl⟩
      · by_cases h0 : s = []
        · rw [readS_miss (s := s) (.inl h0)]
          refine walk ?_
          refine s_slen rfl rfl ?_
          refine walk ?_
          refine s_eqstr rfl rfl (b := true) (decide_eq_true (by rw [h0])) rfl ?_
          refine walk ?_
          (first | (apply retRD2 (G := H) (.inr rfl) rfl; (· first | (refine rv_tmp (v := .int _ _) rfl) | exact rv_tmp rfl); (· first | (refine rv_tmp (v := .int _ _) rfl) | exact rv_tmp rfl); (· exact Ent.auto)) | (apply retRD2 (G := H) (.inl rfl) rfl; (· first | (refine rv_tmp (v := .int _ _) rfl) | exact rv_tmp rfl); (· first | (refine rv_tmp (v := .int _ _) rfl) | exact rv_tmp rfl); (· exact Ent.auto)))
          exact ⟨Ent.refl _, rfl⟩
        · have hne : (⟨s.toArray⟩ : ByteArray) ≠ ⟨#[]⟩ := fun e => h0 (by simpa using e)
          by_cases ht : textS (v : Nat) = s
          · rw [readS_hit h0 ht]
            refine walk ?_
            refine s_slen rfl rfl ?_
            refine walk ?_
            refine s_eqstr rfl rfl (b := false) (decide_eq_false hne) rfl ?_
            refine walk ?_
            refine s_call rfl (rTextP (n := (v : Nat))) rfl ?_
            rintro _ _ ⟨e_, rfl⟩
            obtain rfl := e_.symm
            rw [ht]
            refine walk ?_
            refine s_nestr rfl rfl (b := false) (by simp) rfl ?_
            refine walk ?_
            (first | (apply retRD2 (G := H) (.inr rfl) rfl; (· first | (refine rv_tmp (v := .int _ _) rfl) | exact rv_tmp rfl); (· first | (refine rv_tmp (v := .int _ _) rfl) | exact rv_tmp rfl); (· exact Ent.auto)) | (apply retRD2 (G := H) (.inl rfl) rfl; (· first | (refine rv_tmp (v := .int _ _) rfl) | exact rv_tmp rfl); (· first | (refine rv_tmp (v := .int _ _) rfl) | exact rv_tmp rfl); (· exact Ent.auto)))
            exact ⟨Ent.refl _, rfl⟩
          · rw [readS_miss (s := s) (.inr fun n hn e => by
              have := val_text hn
              rw [e, ← hv] at this
              have e2 : ((v : Nat) : Int) = n := by omega
              rw [e2] at ht
              exact ht e)]
            have hne2 : (⟨(textS (v : Nat)).toArray⟩ : ByteArray) ≠ ⟨s.toArray⟩ := fun e => ht (by simpa using e)
            refine walk ?_
            refine s_slen rfl rfl ?_
            refine walk ?_
            refine s_eqstr rfl rfl (b := false) (decide_eq_false hne) rfl ?_
            refine walk ?_
            refine s_call rfl (rTextP (n := (v : Nat))) rfl ?_
            rintro _ _ ⟨e_, rfl⟩
            obtain rfl := e_.symm
            refine walk ?_
            refine s_nestr rfl rfl (b := true) (by simpa using ht) rfl ?_
            refine walk ?_
            (first | (apply retRD2 (G := H) (.inr rfl) rfl; (· first | (refine rv_tmp (v := .int _ _) rfl) | exact rv_tmp rfl); (· first | (refine rv_tmp (v := .int _ _) rfl) | exact rv_tmp rfl); (· exact Ent.auto)) | (apply retRD2 (G := H) (.inl rfl) rfl; (· first | (refine rv_tmp (v := .int _ _) rfl) | exact rv_tmp rfl); (· first | (refine rv_tmp (v := .int _ _) rfl) | exact rv_tmp rfl); (· exact Ent.auto)))
            exact ⟨Ent.refl _, rfl⟩
    · have hi00 := hi0 (by omega)
      subst hi00
      have hv0 : v = 0 := by rw [hv, List.take_zero, valU]; rfl
      subst hv0
      have hlen : ∀ n : Int, textS n ≠ s := fun n e => by have := text_len (n := n); rw [e] at this; exact h30 this
      have h0 : s ≠ [] := fun e => by rw [e] at h30; simp at h30
      have hne : (⟨s.toArray⟩ : ByteArray) ≠ ⟨#[]⟩ := fun e => h0 (by simpa using e)
      rw [readS_miss (s := s) (.inr fun n _ => hlen n)]
      refine walk ?_
      refine s_slen rfl rfl ?_
      refine walk ?_
      refine s_slen rfl rfl ?_
      refine walk ?_
      refine s_eqstr rfl rfl (b := false) (decide_eq_false hne) rfl ?_
      refine walk ?_
      refine s_call rfl (rTextP (n := ((0 : Nat) : Int))) rfl ?_
      rintro _ _ ⟨e_, rfl⟩
      obtain rfl := e_.symm
      refine walk ?_
      refine s_nestr rfl rfl (b := true) (by simpa using hlen _) rfl ?_
      refine walk ?_
      (first | (apply retRD2 (G := H) (.inr rfl) rfl; (· first | (refine rv_tmp (v := .int _ _) rfl) | exact rv_tmp rfl); (· first | (refine rv_tmp (v := .int _ _) rfl) | exact rv_tmp rfl); (· exact Ent.auto)) | (apply retRD2 (G := H) (.inl rfl) rfl; (· first | (refine rv_tmp (v := .int _ _) rfl) | exact rv_tmp rfl); (· first | (refine rv_tmp (v := .int _ _) rfl) | exact rv_tmp rfl); (· exact Ent.auto)))
      exact ⟨Ent.refl _, rfl⟩
end
end Go.Proofs.YtkgddnelghkdnaaDoor
