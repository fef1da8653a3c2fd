/- The document's own picking. No condition. -/
import Derived.Test.YtofgpppnknpblaaGreatDoorNzBook5
namespace Go.Proofs.YtofgpppnknpblaaGreatDoor
open Go Go.SL
set_option linter.unusedSimpArgs false
set_option linter.unusedVariables false
set_option maxRecDepth 10000
set_option maxHeartbeats 2000000
theorem filt_keep {p : Nt → Bool} {L : List Nt} {j : Nat} (h : j < L.length) (hp : p L[j] = true) : (L.take (j + 1)).filter p = (L.take j).filter p ++ [L[j]] := by
  rw [take_push h, List.filter_append]; simp [hp]
theorem filt_skip {p : Nt → Bool} {L : List Nt} {j : Nat} (h : j < L.length) (hp : p L[j] = false) : (L.take (j + 1)).filter p = (L.take j).filter p := by
  rw [take_push h, List.filter_append]; simp [hp]
theorem filt_len {p : Nt → Bool} {L : List Nt} {j : Nat} : ((L.take j).filter p).length ≤ L.length :=
  Nat.le_trans (List.length_filter_le _ _) (by rw [List.length_take]; omega)
attribute [local irreducible] WP WPL QSeq QBlk QRet Does Cell Cells Rd Mine Ent Aside RV Yield IterAt
section
variable {B : World} {F H G X Y : HProp} {n : Nat} {k v i g : Int} {b c : Nat} {ao : Option Addr} {s u fv : Value} {L M : List Nt} {p : Nt → Bool} {l : List UInt8} {K : List Int} {e : TypeId} {m : Nt}
theorem rSome (hs : Rd B H 5 s L.length (nvs L)) (hL : L.length ≤ 1000000) (hk : Rd B H 1 u K.length (zs K)) (hK : K.length ≤ 1000000) : Does Tryz.prog B 31 [s, u] H fun r H' => H' = Mine 25 5 r (L.filter fun m => decide (m.kind ∈ K)).length (nvs (L.filter fun m => decide (m.kind ∈ K))) + H := by
  refine Does.weak (R := fun r H' => Ent H' (Mine 25 5 r (L.filter fun m => decide (m.kind ∈ K)).length (nvs (L.filter fun m => decide (m.kind ∈ K))) + H)) ?_ fun v H1 e => ⟨_, e, rfl⟩
  unfold Rd at hs hk
  obtain ⟨ao, cap, rfl, hl, hm, ha⟩ := hs
  obtain ⟨ko, kc, rfl, hkl, hkm, hka⟩ := hk
  refine fn_intro 38 Tryz.func31 rfl rfl rfl ?_
  refine walk ?_
  refine wp_loopF (α := Nat × Value) [5, 6, 7, 8, 9, 10, 11, 12, 13, 14, 15, 16, 17, 18, 19, 20, 21, 22, 23, 24, 25, 26, 27, 28, 29, 30, 31, 32, 33, 34, 35, 36] (fun x => [(5, x.2), (6, .int .i64 (x.1 : Nat))]) (fun x => Mine 25 5 x.2 ((L.take x.1).filter fun m => decide (m.kind ∈ K)).length (nvs ((L.take x.1).filter fun m => decide (m.kind ∈ K))) + H) (fun x => x.1 ≤ L.length) (fun x => L.length - x.1) (0, .slice none 0 0) agreed ?_ (Nat.zero_le _) ?_
  · show Ent _ (Mine 25 5 (.slice none 0 0) 0 [] + _)
    rw [Mine.nil, HProp.emp_add]
    exact Ent.refl _
  rintro ⟨j, v⟩ f hj
  simp only at hj
  simp only [putAll]
  by_cases hlt : j < L.length
  · obtain ⟨bl, ol, rfl, hcl⟩ := Rd.addr5 hl ha (show 0 < L.length by omega)
    have hcells := nvs_cells hcl hlt
    have hfl := filt_len (p := fun m => decide (m.kind ∈ K)) (L := L) (j := j)
    have hc0 : Cell B H bl (ol + j * 5) (.int .i64 L[j].kind) := by
      have := hcells.cell (j := 0) (v := .int .i64 L[j].kind) rfl
      exact this
    refine walk ?_
    refine wp_loopR (α := Nat) [5, 7, 14, 15, 16, 17, 18, 19, 20, 21, 22, 23, 24, 25, 26, 27, 28, 29, 30, 31, 32, 33, 34, 35, 36] (fun q => [(5, v), (7, .int .i64 (q : Nat))]) (fun q => ∃ hq : q ≤ K.length, ∀ t, (h : t < q) → K[t]'(by omega) ≠ L[j].kind) (fun q => K.length - q) 0 agreed ⟨Nat.zero_le _, fun q h => by omega⟩ ?_
    rintro q g ⟨hq, hno⟩
    simp only [putAll]
    by_cases hql : q < K.length
    · obtain ⟨bk, ok, rfl, hkc⟩ : ∃ b o, ko = some ⟨b, o, none⟩ ∧ Cells B H b o (zs K) := by
        rcases hka with h | h
        · have : (zs K).length = 0 := by rw [h]; rfl
          rw [zs_length] at this
          omega
        · exact h
      by_cases hv : K[q] = L[j].kind
      · have hp : (fun m : Nt => decide (m.kind ∈ K)) L[j] = true := decide_eq_true (hv ▸ List.getElem_mem hql)
        refine walk ?_
        (refine wp_draw [] (.look 0 (.look 1 (.look 2 (.look 3 (.look 4 (.look 5 (.look 6 (.look 7 (.look 8 (.look 9 .nil)))))))))) (by kernel_rfl) ?_; (apply dw_pure; (· exact rfl); (· exact rfl); (· (intro G; exact looked))); (apply dw_pure; (· exact rfl); (· exact rfl); (· (intro G; exact looked))); (apply dw_pure; (· exact rfl); (· exact rfl); (· (intro G; exact looked))); (apply dw_look; (· exact rfl); (· exact rfl); (· (exact looked))); (apply dw_pure; (· exact rfl); (· exact rfl); (· (intro G; exact looked))); (apply dw_pure; (· exact rfl); (· exact rfl); (· (intro G; exact looked))); (apply dw_pure; (· exact rfl); (· exact rfl); (· (intro G; exact looked))); (apply dw_pure; (· exact rfl); (· exact rfl); (· (intro G; exact looked))); (apply dw_look; (· exact rfl); (· exact rfl); (· (exact looked))); (apply dw_pure; (· exact rfl); (· exact rfl); (· (intro G; exact looked))); refine dw_nil ?_)
        refine walk ?_
        refine s_buildRows [nv L[j]] rfl rfl rfl rfl rfl rfl ?_
        intro b17
        refine s_append (v := v) rfl rfl (Rd.blk0 (m := 1) (sz := 5) (e := 25) rfl (by simp [maxLen])) rfl rfl ?_ rfl ?_
        · simp only [maxLen]; omega
        intro v'
        refine walk ?_
        refine ⟨(j + 1, v'), asided, agreed, ?_, hlt, by simp only; omega⟩
        rw [filt_keep hlt hp, nvs_app, List.length_append, List.length_singleton, show nvs [L[j]] = [nv L[j]].flatten by simp [nvs]]
        exact Ent.auto
      · refine walk ?_
        (refine wp_draw [] (.look 0 (.look 1 (.look 2 (.look 3 (.look 4 (.look 5 (.look 6 (.look 7 (.look 8 (.look 9 .nil)))))))))) (by kernel_rfl) ?_; (apply dw_pure; (· exact rfl); (· exact rfl); (· (intro G; exact looked))); (apply dw_pure; (· exact rfl); (· exact rfl); (· (intro G; exact looked))); (apply dw_pure; (· exact rfl); (· exact rfl); (· (intro G; exact looked))); (apply dw_look; (· exact rfl); (· exact rfl); (· (exact looked))); (apply dw_pure; (· exact rfl); (· exact rfl); (· (intro G; exact looked))); (apply dw_pure; (· exact rfl); (· exact rfl); (· (intro G; exact looked))); (apply dw_pure; (· exact rfl); (· exact rfl); (· (intro G; exact looked))); (apply dw_pure; (· exact rfl); (· exact rfl); (· (intro G; exact looked))); (apply dw_look; (· exact rfl); (· exact rfl); (· (exact looked))); (apply dw_pure; (· exact rfl); (· exact rfl); (· (intro G; exact looked))); refine dw_nil ?_)
        refine walk ?_
        refine ⟨q + 1, asided, agreed, Ent.refl _, ⟨hql, fun t ht => ?_⟩, by omega⟩
        rcases Nat.lt_or_ge t q with h | h
        · exact hno t h
        · obtain rfl : t = q := by omega
          exact hv
    · obtain rfl : q = K.length := by omega
      have hp : (fun m : Nt => decide (m.kind ∈ K)) L[j] = false := decide_eq_false fun h => by
        obtain ⟨t, ht, e⟩ := List.mem_iff_getElem.1 h
        exact hno t ht e
      refine walk ?_
      refine ⟨(j + 1, v), asided, agreed, ?_, hlt, by simp only; omega⟩
      rw [filt_skip hlt hp]
      exact Ent.refl _
  · obtain rfl : j = L.length := by omega
    rw [List.take_length]
    refine walk ?_
    (first | refine ret1 (v := .slice _ _ _) (.inr rfl) rfl rfl ?_ | refine ret1  (.inr rfl) rfl rfl ?_ | refine ret1 (v := .slice _ _ _) (.inl rfl) rfl rfl ?_ | refine ret1  (.inl rfl) rfl rfl ?_)
    exact (Ent.refl _)
theorem rAbout (hs : Rd B H 5 s L.length (nvs L)) (hL : L.length ≤ 1000000) : Does Tryz.prog B 33 [s, .int .i64 g] H fun r H' => H' = Mine 25 5 r (L.filter (pAbout' g)).length (nvs (L.filter (pAbout' g))) + H := by
  refine Does.weak (R := fun r H' => Ent H' (Mine 25 5 r (L.filter (pAbout' g)).length (nvs (L.filter (pAbout' g))) + H)) ?_ fun v H1 e => ⟨_, e, rfl⟩
  unfold Rd at hs
  obtain ⟨ao, cap, rfl, hl, hm, ha⟩ := hs
  refine fn_intro 53 Tryz.func33 rfl rfl rfl ?_
  refine walk ?_
  refine wp_loopF (α := Nat × Value) [5, 6, 7, 8, 9, 10, 11, 12, 13, 14, 15, 16, 17, 18, 19, 20, 21, 22, 23, 24, 25, 26, 27, 28, 29, 30, 31, 32, 33, 34, 35, 36, 37, 38, 39, 40, 41, 42, 43, 44, 45, 46, 47, 48, 49, 50, 51] (fun x => [(5, x.2), (6, .int .i64 (x.1 : Nat))]) (fun x => Mine 25 5 x.2 ((L.take x.1).filter (pAbout' g)).length (nvs ((L.take x.1).filter (pAbout' g))) + H) (fun x => x.1 ≤ L.length) (fun x => L.length - x.1) (0, .slice none 0 0) agreed ?_ (Nat.zero_le _) ?_
  · show Ent _ (Mine 25 5 (.slice none 0 0) 0 [] + _)
    rw [Mine.nil, HProp.emp_add]
    exact Ent.refl _
  rintro ⟨j, v⟩ f hj
  simp only at hj
  simp only [putAll]
  by_cases hlt : j < L.length
  · obtain ⟨bl, ol, rfl, hcl⟩ := Rd.addr5 hl ha (show 0 < L.length by omega)
    have hcells := nvs_cells hcl hlt
    have hfl := filt_len (p := pAbout' g) (L := L) (j := j)
    have hc0 : Cell B H bl (ol + j * 5) (.int .i64 L[j].kind) := by
      have := hcells.cell (j := 0) (v := .int .i64 L[j].kind) rfl
      exact this
    have hc1 : Cell B H bl (ol + j * 5 + 1) (.int .i64 L[j].g) := by
      have := hcells.cell (j := 1) (v := .int .i64 L[j].g) rfl
      exact this
    have hc4 : Cell B H bl (ol + j * 5 + 4) (.int .i64 L[j].x) := by
      have := hcells.cell (j := 4) (v := .int .i64 L[j].x) rfl
      exact this
    by_cases h1 : L[j].g = g
    · by_cases h2 : L[j].kind < 13
      · have hp : pAbout' g L[j] = true := by unfold pAbout'; simp [h1, h2]
        refine walk ?_
        refine s_buildRows [nv L[j]] rfl rfl rfl rfl rfl rfl ?_
        intro b17
        refine s_append (v := v) rfl rfl (Rd.blk0 (m := 1) (sz := 5) (e := 25) rfl (by simp [maxLen])) rfl rfl ?_ rfl ?_
        · simp only [maxLen]; omega
        intro v'
        refine walk ?_
        refine ⟨(j + 1, v'), asided, agreed, ?_, hlt, by simp only; omega⟩
        rw [filt_keep hlt hp, nvs_app, List.length_append, List.length_singleton, show nvs [L[j]] = [nv L[j]].flatten by simp [nvs]]
        exact Ent.auto
      · have h3 : ¬ L[j].kind = 1 := by omega
        have hp : pAbout' g L[j] = false := by unfold pAbout'; simp [h2, h3]
        refine walk ?_
        refine ⟨(j + 1, v), asided, agreed, ?_, hlt, by simp only; omega⟩
        rw [filt_skip hlt hp]
        exact Ent.refl _
    · by_cases h3 : L[j].kind = 1
      · by_cases h4 : L[j].x = g
        · have hp : pAbout' g L[j] = true := by unfold pAbout'; simp [h3, h4]
          refine walk ?_
          refine s_buildRows [nv L[j]] rfl rfl rfl rfl rfl rfl ?_
          intro b17
          refine s_append (v := v) rfl rfl (Rd.blk0 (m := 1) (sz := 5) (e := 25) rfl (by simp [maxLen])) rfl rfl ?_ rfl ?_
          · simp only [maxLen]; omega
          intro v'
          refine walk ?_
          refine ⟨(j + 1, v'), asided, agreed, ?_, hlt, by simp only; omega⟩
          rw [filt_keep hlt hp, nvs_app, List.length_append, List.length_singleton, show nvs [L[j]] = [nv L[j]].flatten by simp [nvs]]
          exact Ent.auto
        · have hp : pAbout' g L[j] = false := by unfold pAbout'; simp [h1, h4]
          refine walk ?_
          refine ⟨(j + 1, v), asided, agreed, ?_, hlt, by simp only; omega⟩
          rw [filt_skip hlt hp]
          exact Ent.refl _
      · have hp : pAbout' g L[j] = false := by unfold pAbout'; simp [h1, h3]
        refine walk ?_
        refine ⟨(j + 1, v), asided, agreed, ?_, hlt, by simp only; omega⟩
        rw [filt_skip hlt hp]
        exact Ent.refl _
  · obtain rfl : j = L.length := by omega
    rw [List.take_length]
    refine walk ?_
    (first | refine ret1 (v := .slice _ _ _) (.inr rfl) rfl rfl ?_ | refine ret1  (.inr rfl) rfl rfl ?_ | refine ret1 (v := .slice _ _ _) (.inl rfl) rfl rfl ?_ | refine ret1  (.inl rfl) rfl rfl ?_)
    exact (Ent.refl _)
end
end Go.Proofs.YtofgpppnknpblaaGreatDoor
