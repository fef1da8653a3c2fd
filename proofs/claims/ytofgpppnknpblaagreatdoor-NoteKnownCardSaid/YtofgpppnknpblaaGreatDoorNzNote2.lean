/- Is a note right? No condition. -/
import Derived.Test.YtofgpppnknpblaaGreatDoorNzNote1
import Derived.Test.YtofgpppnknpblaaGreatDoorSL3
namespace Go.Proofs.YtofgpppnknpblaaGreatDoor
open Go Go.SL
set_option linter.unusedSimpArgs false
set_option linter.unusedVariables false
set_option maxRecDepth 10000
set_option maxHeartbeats 2000000
theorem flag_kinds : ∀ k, k < 17 → (flagK k = true ↔ (k = 2 ∨ k = 11 ∨ k = 13)) := by decide
theorem flag_has : ∀ k, k < 17 → flagK k = true → (120 : UInt8) ∈ hasK k := by decide
theorem take_push {α : Type} {L : List α} {j : Nat} (h : j < L.length) : L.take (j + 1) = L.take j ++ [L[j]] := List.take_succ_eq_append_getElem h
/-- What is told of all letters of a kind makes a note right. -/
theorem right_of {n : Nt} {i : Nat} (hk : n.kind = i) (h1 : 1 ≤ i) (h2 : i < 17) : RightN n ↔ (flagK i = true → n.x ≤ 1) ∧ (∀ c ∈ hasK i, 0 ≤ getL n c) ∧ n = sameN n (hasK i) := by
  have e : hasOf n.kind = hasK i := by unfold hasOf; rw [if_pos (by omega), hk]; rfl
  have ef : flagOf n.kind = flagK i := by unfold flagOf; rw [if_pos (by omega), hk]; rfl
  have hlet := has_letters i h2
  have hfl := flag_has i h2
  have hne := hasK_ne i h2 h1
  obtain ⟨kind, g, p, m, x⟩ := n
  simp only at hk e ef
  unfold RightN FitP
  simp only [e, ef]
  constructor
  · rintro ⟨_, fg, fp, fm, fx⟩
    refine ⟨fun hf => ?_, fun c hc => ?_, ?_⟩
    · rw [if_pos (hfl hf)] at fx
      have := fx.2 (by simp) hf
      omega
    · rcases hlet c hc with rfl | rfl | rfl | rfl
      · rw [if_pos hc] at fg; exact fg.1
      · rw [if_pos hc] at fp; exact fp.1
      · rw [if_pos hc] at fm; exact fm.1
      · rw [if_pos hc] at fx; exact fx.1
    · unfold sameN
      congr 1
      · split
        · rfl
        · rename_i h; rw [if_neg h] at fg; exact fg
      · split
        · rfl
        · rename_i h; rw [if_neg h] at fp; exact fp
      · split
        · rfl
        · rename_i h; rw [if_neg h] at fm; exact fm
      · split
        · rfl
        · rename_i h; rw [if_neg h] at fx; exact fx
  · rintro ⟨hf, hall, hs⟩
    unfold sameN at hs
    simp only [Nt.mk.injEq, true_and] at hs
    obtain ⟨sg, sp, sm, sx⟩ := hs
    refine ⟨hne, ?_, ?_, ?_, ?_⟩
    · split
      · rename_i h; exact ⟨hall _ h, fun h => absurd h (by decide)⟩
      · rename_i h; rw [if_neg h] at sg; exact sg
    · split
      · rename_i h; exact ⟨hall _ h, fun h => absurd h (by decide)⟩
      · rename_i h; rw [if_neg h] at sp; exact sp
    · split
      · rename_i h; exact ⟨hall _ h, fun h => absurd h (by decide)⟩
      · rename_i h; rw [if_neg h] at sm; exact sm
    · split
      · rename_i h; exact ⟨hall _ h, fun _ h => by have := hf h; omega⟩
      · rename_i h; rw [if_neg h] at sx; exact sx
abbrev ntSc (n : Nt) : List Sc := [.int .i64 n.kind, .int .i64 n.g, .int .i64 n.p, .int .i64 n.m, .int .i64 n.x]
theorem ntSc_eq (n m : Nt) : (ntSc n = ntSc m) ↔ n = m := by
  obtain ⟨a, b, c, d, e⟩ := n
  obtain ⟨a', b', c', d', e'⟩ := m
  simp
attribute [local irreducible] WP WPL QSeq QBlk QRet Does Cell Cells Rd Mine Ent Aside RV Yield IterAt
section
variable {B : World} {F H G : HProp} {n : Nt} {k v : Int} {c : UInt8} {b : Nat}
theorem nRight : Does Tryz.prog B 20 [noteV n] H fun r H' => H' = H ∧ r = .bool (decide (RightN n)) := by
  refine Does.frame0 ?_
  by_cases hk : 1 ≤ n.kind ∧ n.kind ≤ 16
  · obtain ⟨i, hi⟩ := Int.eq_ofNat_of_zero_le (show 0 ≤ n.kind by omega)
    have hi1 : 1 ≤ i := by omega
    have hi2 : i < 17 := by omega
    have hro := right_of hi hi1 hi2
    have hlet := has_letters i hi2
    have hlen := has_len i hi2
    refine fn_intro 48 Tryz.func20 rfl rfl rfl ?_
    refine walk ?_
    refine s_box (cs := nv n) rfl rfl rfl ?_
    intro b
    refine walk ?_
    rw [hi]
    refine s_call rfl (of_spec hi1 hi2) rfl ?_
    rintro _ _ ⟨e_, rfl⟩
    obtain rfl := e_.symm
    refine walk ?_
    refine s_alloc rfl ?_
    intro b3
    refine walk ?_
    refine s_storeV (vs := formC i) rfl rfl rfl rfl rfl ?_
    refine walk ?_
    by_cases hflag : flagK i = true ∧ 1 < n.x
    · have hno : ¬ RightN n := fun h => by have := (hro.1 h).1 hflag.1; omega
      rw [decide_eq_false hno]
      rw [hflag.1]
      refine walk ?_
      (first | (apply retRD1 (G := H) (.inr rfl) rfl; (· first | (refine rv_tmp (v := .bool _) rfl) | exact rv_tmp rfl); (· exact Ent.auto)) | (apply retRD1 (G := H) (.inl rfl) rfl; (· first | (refine rv_tmp (v := .bool _) rfl) | exact rv_tmp rfl); (· exact Ent.auto)))
      exact ⟨Ent.refl _, rfl⟩
    · skip
      by_cases hfb : flagK i = true
      · have hx1 : n.x ≤ 1 := by rcases Classical.em (1 < n.x) with hx | hx; exact absurd ⟨hfb, hx⟩ hflag; omega
        rw [hfb]
        refine walk ?_
        (refine s_build (cs := [.int .i64 n.kind, .int .i64 (-1), .int .i64 (-1), .int .i64 (-1), .int .i64 (-1)]) ?_ rfl ?_; (· kernel_rfl))
        refine s_alloc rfl ?_
        intro b5
        refine walk ?_
        refine s_storeV (vs := [.int .i64 n.kind, .int .i64 (-1), .int .i64 (-1), .int .i64 (-1), .int .i64 (-1)]) rfl rfl rfl rfl rfl ?_
        refine walk ?_
        refine s_rangeS (l := hasK i) rfl rfl ?_
        intro b31
        refine walk ?_
        refine wp_loopF (α := Nat) [2, 7, 8, 32, 33, 34, 35, 36, 37, 38, 39, 40, 41, 42, 43, 44] (fun _ => []) (fun j => IterAt b31 (hasK i, j) + (blk b5 (nv (sameN n ((hasK i).take j))) 31 + (blk b3 (formC i) 69 + (blk b (nv n) 31 + H)))) (fun j => j ≤ (hasK i).length ∧ ∀ c ∈ (hasK i).take j, 0 ≤ getL n c) (fun j => (hasK i).length - j) 0 agreed ?_ ⟨Nat.zero_le _, by simp⟩ ?_
        · rw [List.take_zero, sameN_nil]
          exact Ent.auto
        rintro j f ⟨hj, hge⟩
        simp only [putAll]
        by_cases hlt : j < (hasK i).length
        · have hc := hlet _ (List.getElem_mem hlt)
          have hc128 : (hasK i)[j].toNat < 128 := by rcases hc with h | h | h | h <;> rw [h] <;> decide
          have hge' : 0 ≤ getL n (hasK i)[j] → ∀ c ∈ (hasK i).take (j + 1), 0 ≤ getL n c := fun h c hm => by
            rw [take_push hlt, List.mem_append, List.mem_singleton] at hm
            rcases hm with hm | rfl
            · exact hge c hm
            · exact h
          have hpush := sameN_push (n := n) (L := (hasK i).take j) hc
          rw [← take_push hlt] at hpush
          have hmem := List.getElem_mem hlt
          have hget : (hasK i)[j]? = some (hasK i)[j] := List.getElem?_eq_getElem hlt
          generalize (hasK i)[j] = c at *
          have hcell : Cell B (blk b (nv n) 31) b (placeL c) (.int .i64 (getL n c)) := Cell.blk (nv_at hc)
          have hpl := place_lt c
          refine walk ?_
          refine s_nextC rfl hget hc128 rfl ?_
          refine walk ?_
          refine s_call rfl (place_spec (b := b) hc) rfl ?_
          rintro _ _ ⟨e_, rfl⟩
          obtain rfl := e_.symm
          refine walk ?_
          by_cases hneg : getL n c < 0
          · have hno : ¬ RightN n := fun h => by have := (hro.1 h).2.1 c hmem; omega
            rw [decide_eq_false hno]
            refine walk ?_
            (first | (apply retRD1 (G := H) (.inr rfl) rfl; (· first | (refine rv_tmp (v := .bool _) rfl) | exact rv_tmp rfl); (· exact Ent.auto)) | (apply retRD1 (G := H) (.inl rfl) rfl; (· first | (refine rv_tmp (v := .bool _) rfl) | exact rv_tmp rfl); (· exact Ent.auto)))
            exact ⟨Ent.refl _, rfl⟩
          · refine walk ?_
            refine s_call rfl (place_spec (b := b5) hc) rfl ?_
            rintro _ _ ⟨e_, rfl⟩
            obtain rfl := e_.symm
            refine walk ?_
            refine s_store (v := .int .i64 (getL n c)) (cs' := nv (setL (sameN n ((hasK i).take j)) c (getL n c))) rfl rfl rfl (by show placeL c < 5; exact hpl) (nv_set hc) ?_
            rw [hpush]
            refine walk ?_
            exact ⟨j + 1, asided, agreed, Ent.auto, ⟨hlt, hge' (by omega)⟩, by omega⟩
        · obtain rfl : j = (hasK i).length := by omega
          rw [List.take_length] at hge ⊢
          refine walk ?_
          refine s_nextE rfl hlt rfl ?_
          refine walk ?_
          refine s_eqlF (ntSc n) (ntSc (sameN n (hasK i))) (b := decide (RightN n)) rfl rfl rfl rfl ?_ rfl ?_
          · rw [decide_eq_decide, ntSc_eq, hro]
            exact ⟨fun h => ⟨fun hf => by rcases Classical.em (1 < n.x) with hx | hx; exact absurd ⟨hf, hx⟩ hflag; omega, hge, h⟩, fun h => h.2.2⟩
          refine walk ?_
          (first | (apply retRD1 (G := H) (.inr rfl) rfl; (· first | (refine rv_tmp (v := .bool _) rfl) | exact rv_tmp rfl); (· exact Ent.auto)) | (apply retRD1 (G := H) (.inl rfl) rfl; (· first | (refine rv_tmp (v := .bool _) rfl) | exact rv_tmp rfl); (· exact Ent.auto)))
          exact ⟨Ent.refl _, rfl⟩
      · have hfb' : flagK i = false := by simpa using hfb
        rw [hfb']
        refine walk ?_
        (refine s_build (cs := [.int .i64 n.kind, .int .i64 (-1), .int .i64 (-1), .int .i64 (-1), .int .i64 (-1)]) ?_ rfl ?_; (· kernel_rfl))
        refine s_alloc rfl ?_
        intro b5
        refine walk ?_
        refine s_storeV (vs := [.int .i64 n.kind, .int .i64 (-1), .int .i64 (-1), .int .i64 (-1), .int .i64 (-1)]) rfl rfl rfl rfl rfl ?_
        refine walk ?_
        refine s_rangeS (l := hasK i) rfl rfl ?_
        intro b31
        refine walk ?_
        refine wp_loopF (α := Nat) [2, 7, 8, 32, 33, 34, 35, 36, 37, 38, 39, 40, 41, 42, 43, 44] (fun _ => []) (fun j => IterAt b31 (hasK i, j) + (blk b5 (nv (sameN n ((hasK i).take j))) 31 + (blk b3 (formC i) 69 + (blk b (nv n) 31 + H)))) (fun j => j ≤ (hasK i).length ∧ ∀ c ∈ (hasK i).take j, 0 ≤ getL n c) (fun j => (hasK i).length - j) 0 agreed ?_ ⟨Nat.zero_le _, by simp⟩ ?_
        · rw [List.take_zero, sameN_nil]
          exact Ent.auto
        rintro j f ⟨hj, hge⟩
        simp only [putAll]
        by_cases hlt : j < (hasK i).length
        · have hc := hlet _ (List.getElem_mem hlt)
          have hc128 : (hasK i)[j].toNat < 128 := by rcases hc with h | h | h | h <;> rw [h] <;> decide
          have hge' : 0 ≤ getL n (hasK i)[j] → ∀ c ∈ (hasK i).take (j + 1), 0 ≤ getL n c := fun h c hm => by
            rw [take_push hlt, List.mem_append, List.mem_singleton] at hm
            rcases hm with hm | rfl
            · exact hge c hm
            · exact h
          have hpush := sameN_push (n := n) (L := (hasK i).take j) hc
          rw [← take_push hlt] at hpush
          have hmem := List.getElem_mem hlt
          have hget : (hasK i)[j]? = some (hasK i)[j] := List.getElem?_eq_getElem hlt
          generalize (hasK i)[j] = c at *
          have hcell : Cell B (blk b (nv n) 31) b (placeL c) (.int .i64 (getL n c)) := Cell.blk (nv_at hc)
          have hpl := place_lt c
          refine walk ?_
          refine s_nextC rfl hget hc128 rfl ?_
          refine walk ?_
          refine s_call rfl (place_spec (b := b) hc) rfl ?_
          rintro _ _ ⟨e_, rfl⟩
          obtain rfl := e_.symm
          refine walk ?_
          by_cases hneg : getL n c < 0
          · have hno : ¬ RightN n := fun h => by have := (hro.1 h).2.1 c hmem; omega
            rw [decide_eq_false hno]
            refine walk ?_
            (first | (apply retRD1 (G := H) (.inr rfl) rfl; (· first | (refine rv_tmp (v := .bool _) rfl) | exact rv_tmp rfl); (· exact Ent.auto)) | (apply retRD1 (G := H) (.inl rfl) rfl; (· first | (refine rv_tmp (v := .bool _) rfl) | exact rv_tmp rfl); (· exact Ent.auto)))
            exact ⟨Ent.refl _, rfl⟩
          · refine walk ?_
            refine s_call rfl (place_spec (b := b5) hc) rfl ?_
            rintro _ _ ⟨e_, rfl⟩
            obtain rfl := e_.symm
            refine walk ?_
            refine s_store (v := .int .i64 (getL n c)) (cs' := nv (setL (sameN n ((hasK i).take j)) c (getL n c))) rfl rfl rfl (by show placeL c < 5; exact hpl) (nv_set hc) ?_
            rw [hpush]
            refine walk ?_
            exact ⟨j + 1, asided, agreed, Ent.auto, ⟨hlt, hge' (by omega)⟩, by omega⟩
        · obtain rfl : j = (hasK i).length := by omega
          rw [List.take_length] at hge ⊢
          refine walk ?_
          refine s_nextE rfl hlt rfl ?_
          refine walk ?_
          refine s_eqlF (ntSc n) (ntSc (sameN n (hasK i))) (b := decide (RightN n)) rfl rfl rfl rfl ?_ rfl ?_
          · rw [decide_eq_decide, ntSc_eq, hro]
            exact ⟨fun h => ⟨fun hf => by rcases Classical.em (1 < n.x) with hx | hx; exact absurd ⟨hf, hx⟩ hflag; omega, hge, h⟩, fun h => h.2.2⟩
          refine walk ?_
          (first | (apply retRD1 (G := H) (.inr rfl) rfl; (· first | (refine rv_tmp (v := .bool _) rfl) | exact rv_tmp rfl); (· exact Ent.auto)) | (apply retRD1 (G := H) (.inl rfl) rfl; (· first | (refine rv_tmp (v := .bool _) rfl) | exact rv_tmp rfl); (· exact Ent.auto)))
          exact ⟨Ent.refl _, rfl⟩
  · have hno : ¬ RightN n := fun h => hk (hasOf_kind h.1)
    rw [decide_eq_false hno]
    refine fn_intro 48 Tryz.func20 rfl rfl rfl ?_
    refine walk ?_
    refine s_box (cs := nv n) rfl rfl rfl ?_
    intro b
    refine walk ?_
    refine s_call rfl (of_none hk) rfl ?_
    rintro _ _ ⟨e_, rfl⟩
    obtain rfl := e_.symm
    refine walk ?_
    refine s_alloc rfl ?_
    intro b3
    refine walk ?_
    refine s_storeV (vs := formC 0) rfl rfl rfl rfl rfl ?_
    refine walk ?_
    (first | (apply retRD1 (G := H) (.inr rfl) rfl; (· first | (refine rv_tmp (v := .bool _) rfl) | exact rv_tmp rfl); (· exact Ent.auto)) | (apply retRD1 (G := H) (.inl rfl) rfl; (· first | (refine rv_tmp (v := .bool _) rfl) | exact rv_tmp rfl); (· exact Ent.auto)))
    exact ⟨Ent.refl _, rfl⟩
end
end Go.Proofs.YtofgpppnknpblaaGreatDoor
