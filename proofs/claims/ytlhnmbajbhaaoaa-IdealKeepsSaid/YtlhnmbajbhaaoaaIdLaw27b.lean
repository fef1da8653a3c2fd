/- The law on what a system keeps. No condition. -/
import Derived.Test.YtlhnmbajbhaaoaaIdKeeps
import Derived.Test.YtlhnmbajbhaaoaaIdLaw27a
namespace Go.Proofs.Ytlhnmbajbhaaoaa
open Go Go.SL
set_option linter.unusedSimpArgs false
set_option linter.unusedVariables false
set_option maxRecDepth 10000
set_option maxHeartbeats 8000000
theorem tmod_pick {i n : Int} (hn : 0 < n) : (i.tmod n + n) % n = i % n ∧ 0 < i.tmod n + n ∧ i.tmod n + n < n + n := by
  have h1 := Int.tmod_lt_of_pos i hn
  have h2 := Int.lt_tmod_of_pos i hn
  refine ⟨?_, by omega, by omega⟩
  rw [Int.add_emod_right]
  have h3 := Int.mul_tdiv_add_tmod i n
  conv => rhs; rw [← h3]
  rw [Int.add_comm, Int.add_mul_emod_self_left]
theorem ite_c {p : Prop} [Decidable p] {I J J' : Ide} (h : J.c = I.c) (h' : J'.c = I.c) : (if p then J else J').c = I.c := by
  split
  · exact h
  · exact h'
theorem doK_c {I : Ide} {n : Nt} : (doK I n).c = I.c := by
  unfold doK
  refine ite_c rfl (ite_c rfl (ite_c rfl (ite_c rfl (ite_c rfl (ite_c rfl (ite_c rfl (ite_c rfl (ite_c rfl (ite_c ?_ (ite_c rfl (ite_c rfl (ite_c rfl (ite_c rfl rfl)))))))))))))
  show (if n.x = 1 then I.drops n.p else I).c = I.c
  exact ite_c rfl rfl
theorem stepI_c {I : Ide} {n : Nt} : (stepI I n).c = I.c := doK_c
attribute [local irreducible] WP WPL QSeq QBlk QRet Does Cell Cells Rd Mine Ent Aside RV Yield TabAt SemAt IdeAt newI I6
section
variable {B : World} {H F G : HProp} {x : Nat} {L : IdL} {n : Nt} {l : List Nt} {s : Value} {c : Cfg} {i m : Int}
theorem pick_spec (hn : 0 < m ∧ m ≤ 1000000) : Does Try.prog B 9 [.int .i64 i, .int .i64 m] H fun r H' => H' = H ∧ r = .int .i64 (i % m) := by
  obtain ⟨h1, h2, h3⟩ := tmod_pick (i := i) hn.1
  refine fn_intro 14 Try.func9 rfl rfl rfl ?_
  refine walk ?_
  refine s_rem rfl rfl (by omega) rfl rfl ?_
  refine walk ?_
  exact ret1 (v := .int _ _) (.inr rfl) rfl rfl ⟨rfl, congrArg _ h1⟩
theorem cnt_set {cnt : List Int} {j : Nat} {f : Int → Int} {v : Int} (hv : cnt[j]? = some v) : (zs cnt).set j (.int .i64 (f v)) = zs (cnt.modify j f) := by
  rw [modify_at hv]
  simp [zs, List.map_set]
theorem cnt_cell {cnt : List Int} {b j : Nat} {v : Int} (hv : cnt[j]? = some v) : Cell B (blk b (zs cnt) 3) b j (.int .i64 v) := by
  rw [← HProp.add_emp (blk b (zs cnt) 3)]
  exact Cell.blk (by rw [show zs cnt = cnt.map (.int .i64) from rfl, List.getElem?_map, hv]; rfl)
theorem keeps_c [HasAt IdeAt H x L F] {cnt : List Int} {sc : Value} {K : Int} (hc : L.I.c = c) (ok : L.I.ok K) (hK : K ≤ 90000) (h : Inv L.I cnt) (hs : Rd B F 1 sc 4 (zs cnt)) : Does Try.prog B 10 [ptr x, cfgV c, sc] H fun r H' => H' = H ∧ r = .bool true := by
  rw [← hc]
  exact keeps_spec ok hK h hs
theorem keeps_law (hs : Rd B H 5 s l.length (nvs l)) : Does Try.prog B 3 [cfgV c, s] H fun r H' => H' = H ∧ r = .bool true := by
  refine Does.frame0 ?_
  have hs0 := hs
  unfold Rd at hs
  obtain ⟨ao, cap, rfl, hl, hm, ha⟩ := hs
  unfold maxLen at hm
  by_cases h100 : l.length ≤ 100
  case neg =>
    refine fn_intro 105 Try.func3 rfl rfl rfl ?_
    refine walk ?_
    refine s_box (cs := cv c) rfl rfl rfl ?_
    intro b2
    refine walk ?_
    refine s_call rfl (works_spec) rfl ?_
    rintro _ _ ⟨e_, rfl⟩
    obtain rfl := e_.symm
    refine walk ?_
    (first | (apply retRD1 (G := H) (.inr rfl) rfl; (· first | (refine rv_tmp (v := .bool _) rfl) | exact rv_tmp rfl); (· exact Ent.auto)) | (apply retRD1 (G := H) (.inl rfl) rfl; (· first | (refine rv_tmp (v := .bool _) rfl) | exact rv_tmp rfl); (· exact Ent.auto)))
    exact ⟨Ent.refl _, rfl⟩
  by_cases h40 : c.g ≤ 40
  case neg =>
    refine fn_intro 105 Try.func3 rfl rfl rfl ?_
    refine walk ?_
    refine s_box (cs := cv c) rfl rfl rfl ?_
    intro b2
    refine walk ?_
    refine s_call rfl (works_spec) rfl ?_
    rintro _ _ ⟨e_, rfl⟩
    obtain rfl := e_.symm
    refine walk ?_
    (first | (apply retRD1 (G := H) (.inr rfl) rfl; (· first | (refine rv_tmp (v := .bool _) rfl) | exact rv_tmp rfl); (· exact Ent.auto)) | (apply retRD1 (G := H) (.inl rfl) rfl; (· first | (refine rv_tmp (v := .bool _) rfl) | exact rv_tmp rfl); (· exact Ent.auto)))
    exact ⟨Ent.refl _, rfl⟩
  by_cases hr : RightP c
  case neg =>
    refine fn_intro 105 Try.func3 rfl rfl rfl ?_
    refine walk ?_
    refine s_box (cs := cv c) rfl rfl rfl ?_
    intro b2
    refine walk ?_
    refine s_call rfl (cRight (c := c)) rfl ?_
    rintro _ _ ⟨e_, rfl⟩
    obtain rfl := e_.symm
    refine walk ?_
    rw [decide_eq_false hr]
    refine walk ?_
    refine s_call rfl (works_spec) rfl ?_
    rintro _ _ ⟨e_, rfl⟩
    obtain rfl := e_.symm
    refine walk ?_
    (first | (apply retRD1 (G := H) (.inr rfl) rfl; (· first | (refine rv_tmp (v := .bool _) rfl) | exact rv_tmp rfl); (· exact Ent.auto)) | (apply retRD1 (G := H) (.inl rfl) rfl; (· first | (refine rv_tmp (v := .bool _) rfl) | exact rv_tmp rfl); (· exact Ent.auto)))
    exact ⟨Ent.refl _, rfl⟩
  have hrp := hr
  obtain ⟨_, c1, c2, c3, c4, c5, c6, _, _, c9, c10⟩ := hrp
  refine fn_intro 105 Try.func3 rfl rfl rfl ?_
  refine walk ?_
  refine s_box (cs := cv c) rfl rfl rfl ?_
  intro b2
  refine walk ?_
  refine s_call rfl (cRight (c := c)) rfl ?_
  rintro _ _ ⟨e_, rfl⟩
  obtain rfl := e_.symm
  refine walk ?_
  rw [decide_eq_true hr]
  refine walk ?_
  refine s_call rfl (iNew (c := c) hr) rfl ?_
  rintro _ _ ⟨x, L, hL, rfl, rfl⟩
  have ok0 : L.I.ok 1 := by rw [hL]; exact new_ok hr
  have in0 : Inv L.I [c.s, c.s, c.s, c.s] := by rw [hL]; exact inv_new hr
  have hc0 : L.I.c = c := by rw [hL]; unfold newI; rfl
  refine walk ?_
  refine s_buildInts (cs := zs [c.s, c.s, c.s, c.s]) rfl rfl rfl rfl rfl ?_
  intro b6
  refine walk ?_
  refine wp_loopF (α := Nat × Ide × List Int) [4, 7, 8, 9, 35, 36, 37, 38, 39, 40, 41, 42, 43, 44, 45, 46, 47, 48, 49, 50, 51, 52, 53, 54, 55, 56, 57, 58, 59, 60, 61, 62, 63, 64, 65, 66, 67, 68, 69, 70, 71, 72, 73, 74, 75, 76, 77, 78, 79, 80, 81, 82, 83, 84, 85, 86, 87, 88, 89, 90, 91, 92, 93, 94, 95, 96, 97] (fun z => [(7, .int .i64 z.1)]) (fun z => IdeAt x (L.put z.2.1) + (blk b6 (zs z.2.2) 3 + (blk b2 (cv c) 23 + H))) (fun z => z.1 ≤ l.length ∧ z.2.1.ok (1 + 3 * z.1) ∧ Inv z.2.1 z.2.2 ∧ z.2.1.c = c) (fun z => l.length - z.1) (0, L.I, [c.s, c.s, c.s, c.s]) agreed Ent.auto ⟨Nat.zero_le _, ok0, in0, hc0⟩ ?_
  rintro ⟨k, I, cnt⟩ f ⟨hk, ok, inv, hIc⟩
  simp only at hk ok inv hIc
  simp only [putAll]
  have okL : (L.put I).I.ok (1 + 3 * k) := ok
  by_cases hlt : k < l.length
  · obtain ⟨n, hn⟩ : ∃ n, l[k] = n := ⟨_, rfl⟩
    obtain ⟨bs, os, rfl, hcs⟩ : ∃ b o, ao = some ⟨b, o, none⟩ ∧ Cells B H b o (nvs l) := by
      rcases ha with h | ⟨b, o, h1, h2⟩
      · rw [h] at hl; simp at hl; omega
      · exact ⟨b, o, h1, h2⟩
    have hcell := nvs_cells hcs hlt
    rw [hn] at hcell
    have hc0 := hcell.cell (j := 0) (v := .int .i64 n.kind) rfl
    have hc4 := hcell.cell (j := 4) (v := .int .i64 n.x) rfl
    by_cases hmay : mayB I n = true
    · have htk : takeI (L.put I).I [n] = (1, stepI I n) := by
        rw [takeI_cons, if_pos (show mayB (L.put I).I n = true from hmay)]; rfl
      have htv : (if (takeI (L.put I).I [n]).1 = [n].length then (0 : Int) else 260) = 0 := by rw [htk]; rfl
      have ok2 : (L.put (stepI I n)).I.ok (1 + 3 * k + 3) := ok.step hmay
      have ok3 : (stepI I n).ok (1 + 3 * ((k + 1 : Nat) : Int)) := by
        have e : 1 + 3 * ((k + 1 : Nat) : Int) = 1 + 3 * (k : Int) + 3 := by omega
        rw [e]; exact ok.step hmay
      have in2 : Inv (stepI I n) (cntS cnt n) := inv_step inv ok hmay
      have hc2 : (stepI I n).c = c := by rw [stepI_c, hIc]
      obtain ⟨hk16, hrt, _⟩ := mayB_of hmay
      obtain ⟨_, _, _, hx4⟩ := right_of hrt
      obtain ⟨cnt2, hcnt2⟩ : ∃ z, cntS cnt n = z := ⟨_, rfl⟩
      rw [hcnt2] at in2
      by_cases h5 : n.kind = 5
      · have hx := hx4 (by rw [h5]; decide)
        rw [h5] at hx
        have hx' : 0 ≤ n.x ∧ n.x < 4 := hx
        obtain ⟨j, hj⟩ := Int.eq_ofNat_of_zero_le hx'.1
        have hjl : j < cnt.length := by rw [inv.cl]; omega
        obtain ⟨v, hv⟩ : ∃ v, cnt[j]? = some v := ⟨_, List.getElem?_eq_getElem hjl⟩
        have hvb : 0 ≤ v ∧ v ≤ 1073741824 := by
          have hsl := ok.sl
          obtain ⟨e1, _, _, e4, e5⟩ := inv.se j I.sem[j].1 I.sem[j].2 (List.getElem?_eq_getElem (by omega))
          rw [hv] at e1
          cases e1
          exact ⟨e4, e5⟩
        have ccell := cnt_cell (B := B) (b := b6) hv
        have hmod : cnt.modify j (· - 1) = cnt2 := by rw [← hcnt2]; unfold cntS; rw [if_pos h5, hj, Int.toNat_natCast]
        have hxm : n.x % 4 = (j : Int) := by omega
        refine walk ?_
        refine s_buildSlice (cs := nv n) rfl ?_ rfl ?_
        · kernel_rfl
        intro bn
        refine walk ?_
        refine s_call rfl (iTake (x := x) (L := L.put I) (l := [n]) (s := .slice (some ⟨bn, 0, none⟩) 1 1) (Rd.ent (G := blk bn (nv n) 33) (Rd.blk0 (e := 33) rfl (by simp [maxLen])) InH.ent) okL (by simp only [List.length_cons, List.length_nil]; omega)) rfl ?_
        rintro _ _ ⟨rfl, rfl⟩
        rw [htv, htk]
        refine walk ?_
        refine s_call rfl (pick_spec (i := n.x) (m := 4) (by omega)) rfl ?_
        rintro _ _ ⟨e_, rfl⟩
        obtain rfl := e_.symm
        refine walk ?_
        rw [hxm]
        refine walk ?_
        refine s_store (v := .int .i64 (v - 1)) (cs' := zs cnt2) rfl rfl rfl (by rw [zs_length]; omega) (by rw [← hmod]; exact cnt_set (f := (· - 1)) hv) ?_
        refine walk ?_
        refine walk ?_
        refine s_call rfl (keeps_c (x := x) (L := L.put (stepI I n)) (cnt := cnt2) (sc := .slice (some ⟨b6, 0, none⟩) 4 4) hc2 ok2 (by omega) in2 (Rd.ent (G := blk b6 (zs cnt2) 3) (Rd.blk0 (e := 3) (by rw [zs_length]; exact in2.cl) (by simp [maxLen])) InH.ent)) (by rfl) ?_
        rintro _ _ ⟨e_, rfl⟩
        obtain rfl := e_.symm
        refine walk ?_
        exact ⟨(k + 1, stepI I n, cnt2), asided, agreed, Ent.auto, ⟨by omega, ok3, in2, hc2⟩, by simp only; omega⟩
      · by_cases h7 : n.kind = 7
        · have hx := hx4 (by rw [h7]; decide)
          rw [h7] at hx
          have hx' : 0 ≤ n.x ∧ n.x < 4 := hx
          obtain ⟨j, hj⟩ := Int.eq_ofNat_of_zero_le hx'.1
          have hjl : j < cnt.length := by rw [inv.cl]; omega
          obtain ⟨v, hv⟩ : ∃ v, cnt[j]? = some v := ⟨_, List.getElem?_eq_getElem hjl⟩
          have hvb : 0 ≤ v ∧ v ≤ 1073741824 := by
            have hsl := ok.sl
            obtain ⟨e1, _, _, e4, e5⟩ := inv.se j I.sem[j].1 I.sem[j].2 (List.getElem?_eq_getElem (by omega))
            rw [hv] at e1
            cases e1
            exact ⟨e4, e5⟩
          have ccell := cnt_cell (B := B) (b := b6) hv
          have hmod : cnt.modify j (· + 1) = cnt2 := by rw [← hcnt2]; unfold cntS; rw [if_neg h5, if_pos h7, hj, Int.toNat_natCast]
          have hxm : n.x % 4 = (j : Int) := by omega
          refine walk ?_
          refine s_buildSlice (cs := nv n) rfl ?_ rfl ?_
          · kernel_rfl
          intro bn
          refine walk ?_
          refine s_call rfl (iTake (x := x) (L := L.put I) (l := [n]) (s := .slice (some ⟨bn, 0, none⟩) 1 1) (Rd.ent (G := blk bn (nv n) 33) (Rd.blk0 (e := 33) rfl (by simp [maxLen])) InH.ent) okL (by simp only [List.length_cons, List.length_nil]; omega)) rfl ?_
          rintro _ _ ⟨rfl, rfl⟩
          rw [htv, htk]
          refine walk ?_
          refine s_call rfl (pick_spec (i := n.x) (m := 4) (by omega)) rfl ?_
          rintro _ _ ⟨e_, rfl⟩
          obtain rfl := e_.symm
          refine walk ?_
          rw [hxm]
          refine walk ?_
          refine s_store (v := .int .i64 (v + 1)) (cs' := zs cnt2) rfl rfl rfl (by rw [zs_length]; omega) (by rw [← hmod]; exact cnt_set (f := (· + 1)) hv) ?_
          refine walk ?_
          refine walk ?_
          refine s_call rfl (keeps_c (x := x) (L := L.put (stepI I n)) (cnt := cnt2) (sc := .slice (some ⟨b6, 0, none⟩) 4 4) hc2 ok2 (by omega) in2 (Rd.ent (G := blk b6 (zs cnt2) 3) (Rd.blk0 (e := 3) (by rw [zs_length]; exact in2.cl) (by simp [maxLen])) InH.ent)) (by rfl) ?_
          rintro _ _ ⟨e_, rfl⟩
          obtain rfl := e_.symm
          refine walk ?_
          exact ⟨(k + 1, stepI I n, cnt2), asided, agreed, Ent.auto, ⟨by omega, ok3, in2, hc2⟩, by simp only; omega⟩
        · have hcc : cnt = cnt2 := by rw [← hcnt2]; unfold cntS; rw [if_neg h5, if_neg h7]
          refine walk ?_
          refine s_buildSlice (cs := nv n) rfl ?_ rfl ?_
          · kernel_rfl
          intro bn
          refine walk ?_
          refine s_call rfl (iTake (x := x) (L := L.put I) (l := [n]) (s := .slice (some ⟨bn, 0, none⟩) 1 1) (Rd.ent (G := blk bn (nv n) 33) (Rd.blk0 (e := 33) rfl (by simp [maxLen])) InH.ent) okL (by simp only [List.length_cons, List.length_nil]; omega)) rfl ?_
          rintro _ _ ⟨rfl, rfl⟩
          rw [htv, htk]
          rw [hcc]
          refine walk ?_
          refine walk ?_
          refine s_call rfl (keeps_c (x := x) (L := L.put (stepI I n)) (cnt := cnt2) (sc := .slice (some ⟨b6, 0, none⟩) 4 4) hc2 ok2 (by omega) in2 (Rd.ent (G := blk b6 (zs cnt2) 3) (Rd.blk0 (e := 3) (by rw [zs_length]; exact in2.cl) (by simp [maxLen])) InH.ent)) (by rfl) ?_
          rintro _ _ ⟨e_, rfl⟩
          obtain rfl := e_.symm
          refine walk ?_
          exact ⟨(k + 1, stepI I n, cnt2), asided, agreed, Ent.auto, ⟨by omega, ok3, in2, hc2⟩, by simp only; omega⟩
    · have htk : takeI (L.put I).I [n] = (0, I) := by
        rw [takeI_cons, if_neg (show ¬ mayB (L.put I).I n = true from hmay)]
      have htv : (if (takeI (L.put I).I [n]).1 = [n].length then (0 : Int) else 260) = 260 := by rw [htk]; rfl
      have ok3 : I.ok (1 + 3 * ((k + 1 : Nat) : Int)) := by
        have e : 1 + 3 * ((k + 1 : Nat) : Int) = 1 + 3 * (k : Int) + 1 + 1 + 1 := by omega
        rw [e]; exact ok.mono.mono.mono
      refine walk ?_
      refine s_buildSlice (cs := nv n) rfl ?_ rfl ?_
      · kernel_rfl
      intro bn
      refine walk ?_
      refine s_call rfl (iTake (x := x) (L := L.put I) (l := [n]) (s := .slice (some ⟨bn, 0, none⟩) 1 1) (Rd.ent (G := blk bn (nv n) 33) (Rd.blk0 (e := 33) rfl (by simp [maxLen])) InH.ent) okL (by simp only [List.length_cons, List.length_nil]; omega)) rfl ?_
      rintro _ _ ⟨rfl, rfl⟩
      rw [htv, htk]
      refine walk ?_
      refine s_call rfl (keeps_c (x := x) (L := L.put I) (cnt := cnt) (sc := .slice (some ⟨b6, 0, none⟩) 4 4) hIc okL (by omega) inv (Rd.ent (G := blk b6 (zs cnt) 3) (Rd.blk0 (e := 3) (by rw [zs_length]; exact inv.cl) (by simp [maxLen])) InH.ent)) (by rfl) ?_
      rintro _ _ ⟨e_, rfl⟩
      obtain rfl := e_.symm
      refine walk ?_
      exact ⟨(k + 1, I, cnt), asided, agreed, Ent.auto, ⟨by omega, ok3, inv, hIc⟩, by simp only; omega⟩
  · refine walk ?_
    refine s_call rfl (keeps_c (x := x) (L := L.put I) (cnt := cnt) (sc := .slice (some ⟨b6, 0, none⟩) 4 4) hIc okL (by omega) inv (Rd.ent (G := blk b6 (zs cnt) 3) (Rd.blk0 (e := 3) (by rw [zs_length]; exact inv.cl) (by simp [maxLen])) InH.ent)) (by rfl) ?_
    rintro _ _ ⟨e_, rfl⟩
    obtain rfl := e_.symm
    refine walk ?_
    refine s_call rfl (works_spec) rfl ?_
    rintro _ _ ⟨e_, rfl⟩
    obtain rfl := e_.symm
    refine walk ?_
    (first | (apply retRD1 (G := H) (.inr rfl) rfl; (· first | (refine rv_tmp (v := .bool _) rfl) | exact rv_tmp rfl); (· exact Ent.auto)) | (apply retRD1 (G := H) (.inl rfl) rfl; (· first | (refine rv_tmp (v := .bool _) rfl) | exact rv_tmp rfl); (· exact Ent.auto)))
    exact ⟨Ent.refl _, rfl⟩
end
end Go.Proofs.Ytlhnmbajbhaaoaa
