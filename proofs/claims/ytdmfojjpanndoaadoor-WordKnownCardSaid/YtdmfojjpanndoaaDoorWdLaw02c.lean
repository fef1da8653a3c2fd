/- The stage's theorem: a word that comes back. No condition. -/
import Derived.Test.YtdmfojjpanndoaaDoorWdLaw02b
namespace Go.Proofs.YtdmfojjpanndoaaDoor
open Go Go.SL
set_option linter.unusedSimpArgs false
set_option linter.unusedVariables false
set_option maxRecDepth 10000
set_option maxHeartbeats 4000000
theorem step_law {q k : Int} {p : Int × Int} (hq : 2 ≤ q ∧ q ≤ 64 ∧ q % 2 = 0) (h1 : U32 p.1) (h2 : U32 p.2) (hn : (p.2 - p.1) % 4294967296 ≤ q) :
    ∃ D : Int, 0 ≤ D ∧ D ≤ 64 ∧ (oneW q k p).1 = (p.1 + D) % 4294967296 ∧ ((oneW q k p).2 - (oneW q k p).1) % 4294967296 ≤ q ∧
      (D = 0 → (p.2 - p.1) % 4294967296 ≤ ((oneW q k p).2 - (oneW q k p).1) % 4294967296 ∨ q / 2 ≤ ((oneW q k p).2 - (oneW q k p).1) % 4294967296) := by
  obtain ⟨h, t⟩ := p
  simp only at h1 h2 hn
  unfold U32 at h1 h2
  unfold oneW
  split
  · split
    · exact ⟨1, by omega, by omega, rfl, by simp only; omega, by omega⟩
    · exact ⟨0, by omega, by omega, by simp only; omega, by simp only; omega, by simp only; omega⟩
  split
  · exact ⟨(t - h) % 4294967296 - (t - h) % 4294967296 / 2, by omega, by omega, by simp only; omega, by simp only; omega, by simp only; omega⟩
  split
  · split
    · exact ⟨0, by omega, by omega, by simp only; omega, by simp only; omega, by simp only; omega⟩
    · exact ⟨0, by omega, by omega, by simp only; omega, by simp only; omega, by simp only; omega⟩
  split
  · split
    · exact ⟨0, by omega, by omega, by simp only; omega, by simp only; omega, by simp only; omega⟩
    · exact ⟨0, by omega, by omega, by simp only; omega, by simp only; omega, by simp only; omega⟩
  · exact ⟨0, by omega, by omega, by simp only; omega, by simp only; omega, by simp only; omega⟩
/-- What is kept in the loop. -/
structure BackInv (q h t0 n0 : Int) (p : Int × Int) (G L : Int) (i : Nat) : Prop where
  hq : 2 ≤ q ∧ q ≤ 64 ∧ q % 2 = 0
  n0q : 0 ≤ n0 ∧ n0 ≤ q
  u1 : U32 p.1
  u2 : U32 p.2
  uh : U32 h
  ut : U32 t0
  uL : U32 L
  i200 : i ≤ 200
  G0 : 0 ≤ G
  G1 : G ≤ 64 * i
  head : p.1 = (h + G) % 4294967296
  len : (p.2 - p.1) % 4294967296 ≤ q
  keep : G = 0 → n0 - n0 / 2 ≤ L ∧ n0 - n0 / 2 ≤ (p.2 - p.1) % 4294967296
theorem BackInv.step {q h t0 n0 G L k : Int} {p : Int × Int} {i : Nat} (v : BackInv q h t0 n0 p G L i) (hi : i < 200) :
    ∃ D L2 : Int, min L (((oneW q k p).2 - (oneW q k p).1) % 4294967296) = L2 ∧ BackInv q h t0 n0 (oneW q k p) (G + D) L2 (i + 1) ∧ 0 ≤ D ∧ (0 < D → ¬ (oneW q k p).1 = p.1) ∧ (D = 0 → (oneW q k p).1 = p.1) ∧
      (0 < G + D → ¬ ((oneW q k p).1 * 4294967296 + (oneW q k p).2 = h * 4294967296 + t0)) ∧ (G + D = 0 → ¬ (L2 < n0 - n0 / 2)) := by
  obtain ⟨hq, hn0, hu1, hu2, huh, hut, huL, hi2, hG0, hG1, hh, hl, hk⟩ := v
  obtain ⟨D, hD0, hD1, hDh, hDn, hDk⟩ := step_law (q := q) (k := k) hq hu1 hu2 hl
  obtain ⟨hv1, hv2⟩ := oneW_u32 (q := q) (k := k) ⟨hu1, hu2⟩
  generalize oneW q k p = p2 at *
  obtain ⟨h', t'⟩ := p
  obtain ⟨h2, t2⟩ := p2
  simp only at *
  unfold U32 at *
  generalize hn : (t' - h') % 4294967296 = n at *
  generalize hn2 : (t2 - h2) % 4294967296 = n2 at *
  have hn2b : 0 ≤ n2 := by omega
  clear hn
  refine ⟨D, min L n2, rfl, ⟨hq, hn0, hv1, hv2, huh, hut, ?_, by omega, by omega, ?_, ?_, by simp only; omega, ?_⟩, hD0, ?_, ?_, ?_, ?_⟩
  · clear hk hDk hh hDh; unfold U32; omega
  · clear hk hDk hh hDh; omega
  · clear hk hDk; simp only; omega
  · intro h0
    have hG : G = 0 := by omega
    have hD : D = 0 := by omega
    have a := hk hG
    have b := hDk hD
    clear hk hDk hh hDh
    simp only
    omega
  · clear hk hDk hh; omega
  · clear hk hDk hh; omega
  · intro hp
    have e1 : h2 = (h + (G + D)) % 4294967296 := by clear hk hDk; omega
    have e2 : h2 ≠ h := by clear hk hDk hDh hh; omega
    clear hk hDk hDh hh e1
    omega
  · intro h0
    have hG : G = 0 := by omega
    have hD : D = 0 := by omega
    have a := hk hG
    have b := hDk hD
    clear hk hDk hh hDh
    omega
attribute [local irreducible] WP WPL QSeq QBlk QRet Does Cell Cells Rd Mine Ent Aside RV
section
variable {B : World} {H F : HProp} {h t n p q k w a : Int}
theorem autoLaw02c3 {p q : Prop} (k : q) (h : Owed q → p := by
  intro k_
  refine walkG ?_
  repeat ((first | (show WPL _ _ _ _ _ (⟨_, .call ⟨.value (.func 11), _, _⟩, _, _, _, none⟩ :: _) _ _ _; (apply s_call; (· exact rfl); (· refine pack_spec ?_ ?_ <;> (first | assumption | omega | decide | (unfold U32; omega) | exact InH.ent | (apply Rd.ent; (· assumption); (· exact InH.ent)) | exact Rd.nil | (refine Rd.blk0 ?_ ?_; (· rfl); (· simp [maxLen])) | simp)); (· exact rfl); rintro _ _ ⟨e_, rfl⟩; obtain rfl := e_.symm)) | (show WPL _ _ _ _ _ (⟨_, .call ⟨.value (.func 13), _, _⟩, _, _, _, none⟩ :: _) _ _ _; (apply s_call; (· exact rfl); (· refine len_spec ?_ ?_ <;> (first | assumption | omega | decide | (unfold U32; omega) | exact InH.ent | (apply Rd.ent; (· assumption); (· exact InH.ent)) | exact Rd.nil | (refine Rd.blk0 ?_ ?_; (· rfl); (· simp [maxLen])) | simp)); (· exact rfl); rintro _ _ ⟨e_, rfl⟩; obtain rfl := e_.symm)) | (show WPL _ _ _ _ _ (⟨_, .call ⟨.value (.func 12), _, _⟩, _, _, _, none⟩ :: _) _ _ _; (apply s_call; (· exact rfl); (· refine older_spec ?_ <;> (first | assumption | omega | decide | (unfold U32; omega) | exact InH.ent | (apply Rd.ent; (· assumption); (· exact InH.ent)) | exact Rd.nil | (refine Rd.blk0 ?_ ?_; (· rfl); (· simp [maxLen])) | simp)); (· exact rfl); rintro _ _ ⟨e_, rfl⟩; obtain rfl := e_.symm)) | (show WPL _ _ _ _ _ (⟨_, .call ⟨.value (.func 10), _, _⟩, _, _, _, none⟩ :: _) _ _ _; (apply s_call; (· exact rfl); (· refine wDo ?_ ?_ ?_ <;> (first | assumption | omega | decide | (unfold U32; omega) | exact InH.ent | (apply Rd.ent; (· assumption); (· exact InH.ent)) | exact Rd.nil | (refine Rd.blk0 ?_ ?_; (· rfl); (· simp [maxLen])) | simp)); (· exact rfl); rintro _ _ ⟨e_, rfl⟩; obtain rfl := e_.symm)) | (show WPL _ _ _ _ _ (⟨_, .call ⟨.value (.func 14), _, _⟩, _, _, _, none⟩ :: _) _ _ _; (apply s_call; (· exact rfl); (· refine head_spec ?_ ?_ <;> (first | assumption | omega | decide | (unfold U32; omega) | exact InH.ent | (apply Rd.ent; (· assumption); (· exact InH.ent)) | exact Rd.nil | (refine Rd.blk0 ?_ ?_; (· rfl); (· simp [maxLen])) | simp)); (· exact rfl); rintro _ _ ⟨e_, rfl⟩; obtain rfl := e_.symm))); refine walkG ?_)
  exact k_.get) : p := h ⟨k⟩
theorem back_law (T : Tab B) {s : Value} {l : List Int} {size room : Int} (h1 : U32 h) (hs' : U32 size) (hr : 0 ≤ room ∧ room ≤ 255) (hs : Rd B H 1 s l.length (zs l)) :
    Does Tryd.prog B 4 [.int .u32 h, .int .u32 size, .int .u8 room, s] H fun r H' => H' = H ∧ r = .bool true := by
  have hs2 := hs
  unfold Rd at hs2
  obtain ⟨ao, cap, rfl, hl, hm, ha⟩ := hs2
  unfold maxLen at hm
  refine fn_intro 90 Tryd.func4 rfl rfl rfl ?_
  by_cases hb : l.length ≤ 200
  · obtain ⟨k, hk⟩ := Int.eq_ofNat_of_zero_le (show 0 ≤ room % 6 by omega)
    have hk6 : k < 6 := by omega
    have hroom2 : isRoom (2 ^ (k + 1)) = true := isRoom_pow (by omega) (by omega)
    have hsh : IntKind.i64.wrap (2 * 2 ^ (min (room % 6).toNat IntKind.i64.bits)) = ((2 ^ (k + 1) : Nat) : Int) := by
      rw [hk]
      have : k = 0 ∨ k = 1 ∨ k = 2 ∨ k = 3 ∨ k = 4 ∨ k = 5 := by omega
      rcases this with rfl | rfl | rfl | rfl | rfl | rfl <;> decide
    have hm64 : 2 ^ (k + 1) ≤ 64 := Nat.pow_le_pow_right (n := 2) (by omega) (show k + 1 ≤ 6 by omega)
    generalize 2 ^ (k + 1) = q at hroom2 hsh hm64
    have heven := room_even hroom2
    have hbound := room_bound hroom2
    have hrb : (decide (0 ≤ (q : Int)) && isRoom (q : Int).toNat) = true := by simp [hroom2]
    have hmod := Int.emod_nonneg size (show (q : Int) + 1 ≠ 0 by omega)
    have hmod2 := Int.emod_lt_of_pos size (show 0 < (q : Int) + 1 by omega)
    refine autoLaw02c3 ?_
    refine s_shl rfl rfl (by omega) hsh rfl ?_
    refine autoLaw02c3 ?_
    obtain ⟨n0, hn0⟩ : ∃ n0, n0 = size % ((q : Int) + 1) := ⟨_, rfl⟩
    obtain ⟨t0, ht0⟩ : ∃ t0, t0 = (h + n0) % 4294967296 := ⟨_, rfl⟩
    have hnq : 0 ≤ n0 ∧ n0 ≤ q := by omega
    have hut : U32 t0 := by unfold U32; omega
    have ed : (t0 - h) % 4294967296 = n0 := by unfold U32 at h1; omega
    rw [← hn0, ← ht0, ed]
    have hv0 : BackInv q h t0 n0 (h, t0) 0 n0 0 := ⟨by omega, hnq, h1, hut, h1, hut, by unfold U32; omega, by omega, by omega, by omega, by unfold U32 at h1; simp only; omega, by simp only; omega, fun _ => by simp only; omega⟩
    clear hmod hmod2 hk hk6 hsh hr hs' ht0 hn0 heven hnq
    refine wp_loopR (α := Nat × Int × Int) [8, 12, 13, 14, 15, 16, 39, 40, 41, 42, 43, 44, 45, 46, 47, 48, 49, 50, 51, 52, 53, 54, 55, 56, 57, 58, 59, 60, 61, 62, 63, 64, 65, 66, 67, 68, 69, 70, 71, 72, 73, 74, 75, 76, 77, 78, 79, 80, 81] (fun x => [(15, .int .i64 x.1), (12, wd (doW q (h, t0) (l.take x.1)).1 (doW q (h, t0) (l.take x.1)).2), (13, .int .u32 x.2.2), (14, .bool (decide (0 < x.2.1)))])
      (fun x => x.1 ≤ l.length ∧ BackInv q h t0 n0 (doW q (h, t0) (l.take x.1)) x.2.1 x.2.2 x.1) (fun x => l.length - x.1) (0, 0, n0) agreed ⟨Nat.zero_le _, by rw [List.take_zero]; exact hv0⟩ ?_
    rintro ⟨i, G, L⟩ g ⟨hi, hv⟩
    simp only at hi hv
    simp only [putAll]
    by_cases hlt : i < l.length
    · obtain ⟨bl, ol, rfl, hcl⟩ := Rd.addr hl ha hlt
      have e2 : doW q (h, t0) (l.take (i + 1)) = oneW q l[i] (doW q (h, t0) (l.take i)) := by rw [List.take_succ_eq_append_getElem hlt, doW_push]
      obtain ⟨D, L2, hL2, hv2, hD0, hDa, hDb, hDc, hDd⟩ := hv.step (k := l[i]) (by omega)
      have edo : doR q ((doW q (h, t0) (l.take i)).1, (doW q (h, t0) (l.take i)).2) [l[i]] = ((oneW q l[i] (doW q (h, t0) (l.take i))).1, (oneW q l[i] (doW q (h, t0) (l.take i))).2) := by
        unfold doR
        rw [if_pos hrb]
        rfl
      generalize doW q (h, t0) (l.take i) = p at *
      obtain ⟨h', t'⟩ := p
      generalize oneW q l[i] (h', t') = p2 at *
      obtain ⟨h2, t2⟩ := p2
      simp only at hDa hDb hDc edo hL2
      have hq2 := hv2.len
      have u1 : U32 h' := hv.u1
      have u2 : U32 t' := hv.u2
      have u3 : U32 h2 := hv2.u1
      have u4 : U32 t2 := hv2.u2
      simp only at hq2
      have hG0 := hv.G0
      by_cases hGp : 0 < G
      · rw [decide_eq_true hGp]
        have hne := hDc (by omega)
        clear hDa hDb hDc hDd
        refine autoLaw02c3 ?_
        refine s_buildInts (cs := zs [l[i]]) rfl rfl rfl rfl rfl ?_
        intro b1
        refine autoLaw02c3 ?_
        refine s_call rfl (wDoE (l := [l[i]]) edo u1 u2 (Rd.blk0 rfl (by simp [maxLen]))) rfl ?_
        rintro _ _ ⟨e_, rfl⟩
        obtain rfl := e_.symm
        refine walk ?_
        refine autoLaw02c3 ?_
        refine s_min2 rfl rfl hL2 rfl ?_
        refine autoLaw02c3 ?_
        refine ⟨(i + 1, G + D, L2), asided, ?_, Ent.auto, ?_, by simp only; omega⟩
        · simp only [e2]
          rw [decide_eq_true (show 0 < G + D by omega)]
          exact agreed
        · simp only [e2]
          exact ⟨hlt, hv2⟩
      · have hG : G = 0 := by omega
        rw [decide_eq_false hGp]
        by_cases hDp : 0 < D
        · have hne := hDc (by omega)
          have hne2 := hDa hDp
          clear hDa hDb hDc hDd
          refine autoLaw02c3 ?_
          refine s_buildInts (cs := zs [l[i]]) rfl rfl rfl rfl rfl ?_
          intro b1
          refine autoLaw02c3 ?_
          refine s_call rfl (wDoE (l := [l[i]]) edo u1 u2 (Rd.blk0 rfl (by simp [maxLen]))) rfl ?_
          rintro _ _ ⟨e_, rfl⟩
          obtain rfl := e_.symm
          refine walk ?_
          refine autoLaw02c3 ?_
          refine s_min2 rfl rfl hL2 rfl ?_
          refine autoLaw02c3 ?_
          refine ⟨(i + 1, G + D, L2), asided, ?_, Ent.auto, ?_, by simp only; omega⟩
          · simp only [e2]
            rw [decide_eq_true (show 0 < G + D by omega)]
            exact agreed
          · simp only [e2]
            exact ⟨hlt, hv2⟩
        · have hD : D = 0 := by omega
          have hhe := hDb hD
          have hold := hDd (by omega)
          clear hDa hDb hDc hDd
          by_cases he : h2 * 4294967296 + t2 = h * 4294967296 + t0
          · skip
            refine autoLaw02c3 ?_
            refine s_buildInts (cs := zs [l[i]]) rfl rfl rfl rfl rfl ?_
            intro b1
            refine autoLaw02c3 ?_
            refine s_call rfl (wDoE (l := [l[i]]) edo u1 u2 (Rd.blk0 rfl (by simp [maxLen]))) rfl ?_
            rintro _ _ ⟨e_, rfl⟩
            obtain rfl := e_.symm
            refine walk ?_
            refine autoLaw02c3 ?_
            refine s_min2 rfl rfl hL2 rfl ?_
            refine autoLaw02c3 ?_
            refine ⟨(i + 1, G + D, L2), asided, ?_, Ent.auto, ?_, by simp only; omega⟩
            · simp only [e2]
              rw [decide_eq_false (show ¬ 0 < G + D by omega)]
              exact agreed
            · simp only [e2]
              exact ⟨hlt, hv2⟩
          · skip
            refine autoLaw02c3 ?_
            refine s_buildInts (cs := zs [l[i]]) rfl rfl rfl rfl rfl ?_
            intro b1
            refine autoLaw02c3 ?_
            refine s_call rfl (wDoE (l := [l[i]]) edo u1 u2 (Rd.blk0 rfl (by simp [maxLen]))) rfl ?_
            rintro _ _ ⟨e_, rfl⟩
            obtain rfl := e_.symm
            refine walk ?_
            refine autoLaw02c3 ?_
            refine s_min2 rfl rfl hL2 rfl ?_
            refine autoLaw02c3 ?_
            refine ⟨(i + 1, G + D, L2), asided, ?_, Ent.auto, ?_, by simp only; omega⟩
            · simp only [e2]
              rw [decide_eq_false (show ¬ 0 < G + D by omega)]
              exact agreed
            · simp only [e2]
              exact ⟨hlt, hv2⟩
    · have hn0q := hv.n0q
      clear hv
      refine autoLaw02c3 ?_
      refine s_call rfl (works_spec T) rfl ?_
      rintro _ _ ⟨e_, rfl⟩
      obtain rfl := e_.symm
      refine walk ?_
      (first | refine ret1 (v := .bool _) (.inr rfl) rfl rfl ?_ | refine ret1  (.inr rfl) rfl rfl ?_ | refine ret1 (v := .bool _) (.inl rfl) rfl rfl ?_ | refine ret1  (.inl rfl) rfl rfl ?_)
      exact ⟨rfl, rfl⟩
  · refine autoLaw02c3 ?_
    refine s_call rfl (works_spec T) rfl ?_
    rintro _ _ ⟨e_, rfl⟩
    obtain rfl := e_.symm
    refine walk ?_
    (first | refine ret1 (v := .bool _) (.inr rfl) rfl rfl ?_ | refine ret1  (.inr rfl) rfl rfl ?_ | refine ret1 (v := .bool _) (.inl rfl) rfl rfl ?_ | refine ret1  (.inl rfl) rfl rfl ?_)
    exact ⟨rfl, rfl⟩
end
end Go.Proofs.YtdmfojjpanndoaaDoor
