/- A clock as the document tells of it. No condition. -/
import Derived.Test.YtipbcccjhaommaaDoorCkClk2
namespace Go.Proofs.YtipbcccjhaommaaDoor
open Go Go.SL Go.SL.Flo
set_option linter.unusedSimpArgs false
set_option linter.unusedVariables false
set_option maxRecDepth 10000
set_option maxHeartbeats 4000000
/-- The document's clock. -/
def rC (now : Int) (s : Value) : Value := .agg #[.int .i64 now, s]
attribute [local irreducible] WP WPL QSeq QBlk QRet Does Cell Cells Rd Mine Ent Aside RV e0 Slid QScp ClkAt
section
variable {B : World} {F H : HProp} {b : Nat} {n t d now : Int} {c : Clk} {s : Value} {e : TypeId} {ao : Option Addr} {cap : Nat} {f : FuncId} {args : List Value} {R : Value → HProp → Prop} {m : Nat}
theorem rAdd : Does Tryd.prog B 27 [rC now (.slice ao m cap), .int .i64 n] H fun r H' => H' = H ∧ r = .tuple #[rC (if n < 0 then now else sumI [now, n]) (.slice ao m cap), .int .i64 (if n < 0 then 2 else 0)] := by
  refine Does.frame0 ?_
  unfold rC
  by_cases h : n < 0
  · rw [if_pos h, if_pos h]
    refine fn_intro 16 Tryd.func27 rfl rfl rfl ?_
    refine walk ?_
    refine s_box (cs := [.int .i64 now, .slice ao m cap]) rfl rfl rfl ?_
    intro b1
    refine walk ?_
    refine s_alloc rfl ?_
    intro b2
    refine walk ?_
    refine s_storeV (vs := [.int .i64 now, .slice ao m cap]) rfl rfl rfl rfl rfl ?_
    refine walk ?_
    (first | (apply retRD2 (G := H) (.inr rfl) rfl; (· first | (refine rv_cell (v := .agg _) rfl (Cell.blk rfl)) | exact rv_cellA rfl Cells.blk0 rfl | (apply rv_cell; (· exact rfl); (· assumption)) | (apply rv_cellA; (· exact rfl); (· assumption); (· exact rfl))); (· first | (refine rv_tmp (v := .int _ _) rfl) | exact rv_tmp rfl); (· exact Ent.auto)) | (apply retRD2 (G := H) (.inl rfl) rfl; (· first | (refine rv_cell (v := .agg _) rfl (Cell.blk rfl)) | exact rv_cellA rfl Cells.blk0 rfl | (apply rv_cell; (· exact rfl); (· assumption)) | (apply rv_cellA; (· exact rfl); (· assumption); (· exact rfl))); (· first | (refine rv_tmp (v := .int _ _) rfl) | exact rv_tmp rfl); (· exact Ent.auto)))
    exact ⟨Ent.refl _, rfl⟩
  · rw [if_neg h, if_neg h]
    refine fn_intro 16 Tryd.func27 rfl rfl rfl ?_
    refine walk ?_
    refine s_box (cs := [.int .i64 now, .slice ao m cap]) rfl rfl rfl ?_
    intro b1
    refine walk ?_
    refine s_alloc rfl ?_
    intro b2
    refine walk ?_
    refine s_buildInts (cs := zs [now, n]) rfl rfl rfl rfl rfl ?_
    intro b3
    refine s_call rfl (rSumP (l := [now, n]) (Rd.blk0 (e := 2) rfl (by simp [maxLen]))) rfl ?_
    rintro _ _ ⟨e_, rfl⟩
    obtain rfl := e_.symm
    refine walk ?_
    refine s_store1 (v := .int .i64 _) rfl rfl rfl rfl ?_
    refine walk ?_
    refine s_storeV (vs := [.int .i64 (sumI [now, n]), .slice ao m cap]) rfl rfl rfl rfl rfl ?_
    refine walk ?_
    (first | (apply retRD2 (G := H) (.inr rfl) rfl; (· first | (refine rv_cell (v := .agg _) rfl (Cell.blk rfl)) | exact rv_cellA rfl Cells.blk0 rfl | (apply rv_cell; (· exact rfl); (· assumption)) | (apply rv_cellA; (· exact rfl); (· assumption); (· exact rfl))); (· first | (refine rv_tmp (v := .int _ _) rfl) | exact rv_tmp rfl); (· exact Ent.auto)) | (apply retRD2 (G := H) (.inl rfl) rfl; (· first | (refine rv_cell (v := .agg _) rfl (Cell.blk rfl)) | exact rv_cellA rfl Cells.blk0 rfl | (apply rv_cell; (· exact rfl); (· assumption)) | (apply rv_cellA; (· exact rfl); (· assumption); (· exact rfl))); (· first | (refine rv_tmp (v := .int _ _) rfl) | exact rv_tmp rfl); (· exact Ent.auto)))
    exact ⟨Ent.refl _, rfl⟩
theorem rSince (h : now ≤ 4611686018427387904) (ht : t < 9223372036854775808) : Does Tryd.prog B 30 [rC now (.slice ao m cap), .int .i64 t] H fun r H' => H' = H ∧ r = .int .i64 (max 0 (now - max 0 t)) := by
  refine Does.frame0 ?_
  unfold rC
  by_cases h0 : t < 0
  · by_cases h1 : 0 > now
    · have e1 : max 0 (now - max 0 t) = 0 := by omega
      rw [e1]
      refine fn_intro 15 Tryd.func30 rfl rfl rfl ?_
      refine walk ?_
      refine s_box (cs := [.int .i64 now, .slice ao m cap]) rfl rfl rfl ?_
      intro b1
      refine walk ?_
      (first | (apply retRD1 (G := H) (.inr rfl) rfl; (· first | (refine rv_tmp (v := .int _ _) rfl) | exact rv_tmp rfl); (· exact Ent.auto)) | (apply retRD1 (G := H) (.inl rfl) rfl; (· first | (refine rv_tmp (v := .int _ _) rfl) | exact rv_tmp rfl); (· exact Ent.auto)))
      exact ⟨Ent.refl _, rfl⟩
    · have e1 : max 0 (now - max 0 t) = now - 0 := by omega
      rw [e1]
      refine fn_intro 15 Tryd.func30 rfl rfl rfl ?_
      refine walk ?_
      refine s_box (cs := [.int .i64 now, .slice ao m cap]) rfl rfl rfl ?_
      intro b1
      refine walk ?_
      (first | (apply retRD1 (G := H) (.inr rfl) rfl; (· first | (refine rv_tmp (v := .int _ _) rfl) | exact rv_tmp rfl); (· exact Ent.auto)) | (apply retRD1 (G := H) (.inl rfl) rfl; (· first | (refine rv_tmp (v := .int _ _) rfl) | exact rv_tmp rfl); (· exact Ent.auto)))
      exact ⟨Ent.refl _, rfl⟩
  · by_cases h1 : t > now
    · have e1 : max 0 (now - max 0 t) = 0 := by omega
      rw [e1]
      refine fn_intro 15 Tryd.func30 rfl rfl rfl ?_
      refine walk ?_
      refine s_box (cs := [.int .i64 now, .slice ao m cap]) rfl rfl rfl ?_
      intro b1
      refine walk ?_
      (first | (apply retRD1 (G := H) (.inr rfl) rfl; (· first | (refine rv_tmp (v := .int _ _) rfl) | exact rv_tmp rfl); (· exact Ent.auto)) | (apply retRD1 (G := H) (.inl rfl) rfl; (· first | (refine rv_tmp (v := .int _ _) rfl) | exact rv_tmp rfl); (· exact Ent.auto)))
      exact ⟨Ent.refl _, rfl⟩
    · have e1 : max 0 (now - max 0 t) = now - t := by omega
      rw [e1]
      refine fn_intro 15 Tryd.func30 rfl rfl rfl ?_
      refine walk ?_
      refine s_box (cs := [.int .i64 now, .slice ao m cap]) rfl rfl rfl ?_
      intro b1
      refine walk ?_
      (first | (apply retRD1 (G := H) (.inr rfl) rfl; (· first | (refine rv_tmp (v := .int _ _) rfl) | exact rv_tmp rfl); (· exact Ent.auto)) | (apply retRD1 (G := H) (.inl rfl) rfl; (· first | (refine rv_tmp (v := .int _ _) rfl) | exact rv_tmp rfl); (· exact Ent.auto)))
      exact ⟨Ent.refl _, rfl⟩
theorem rMark {s : Value} (hs : Rd B H 1 s c.laps.length (zs c.laps)) (hl : c.laps.length ≤ 64) : Does Tryd.prog B 29 [rC c.now s] H fun r H' => ∃ ao cap, r = rC c.now (.slice ao (markC c).laps.length cap) ∧ H' = Slid 2 (.slice ao (markC c).laps.length cap) (markC c).laps.length (zs (markC c).laps) + H := by
  refine Does.weak (R := fun r H' => ∃ ao cap, r = rC c.now (.slice ao (markC c).laps.length cap) ∧ Ent H' (Slid 2 (.slice ao (markC c).laps.length cap) (markC c).laps.length (zs (markC c).laps) + H)) ?_ fun v H1 ⟨ao, cap, h, e⟩ => ⟨_, e, ao, cap, h, rfl⟩
  have hs' := hs
  unfold Rd at hs'
  obtain ⟨ao, cap, rfl, hsl, hsm, hsa⟩ := hs'
  unfold rC
  have hlen := mark_len c
  refine fn_intro 21 Tryd.func29 rfl rfl rfl ?_
  refine walk ?_
  refine s_box (cs := [.int .i64 c.now, .slice ao c.laps.length cap]) rfl rfl rfl ?_
  intro b1
  refine walk ?_
  refine s_alloc rfl ?_
  intro b2
  refine WPL.ent (G := Mine 2 1 (.slice none 0 0) 0 [] + _) (by rw [Mine.nil, HProp.emp_add]; exact Ent.refl _) ?_
  refine walk ?_
  refine s_append (v := .slice none 0 0) rfl rfl (hs.ent InH.ent) (zs_one _) rfl ?_ rfl ?_
  · simp only [maxLen]; omega
  intro v1
  rw [List.nil_append, Nat.zero_add]
  refine walk ?_
  refine s_buildInts (cs := [.int .i64 c.now]) rfl rfl rfl rfl rfl ?_
  intro b3
  refine walk ?_
  refine s_append (v := v1) rfl rfl (Rd.blk0 (m := 1) (e := 2) rfl (by simp [maxLen])) rfl rfl ?_ rfl ?_
  · simp only [maxLen]; omega
  intro v2
  rw [← zs_push]
  refine WPL.shape ?_
  rintro a2 c2 rfl _ hk1 hk2
  unfold maxLen at hk2
  have hmine := Slid.of_mine (e := 2) (v := .slice a2 (c.laps.length + 1) c2) (n := c.laps.length + 1) (cs := zs (c.laps ++ [c.now]))
  by_cases h64 : c.laps.length = 64
  · have hml : (markC c).laps.length = c.laps.length := by omega
    have hcut := hmine.trans (Slid.cut (e := 2) (ao := a2) (cap := c2) (cs := zs (c.laps ++ [c.now])) (n := c.laps.length + 1) (l := 1) (by omega))
    rw [zs_drop] at hcut
    have e1 : (markC c).laps = (c.laps ++ [c.now]).drop 1 := by unfold markC; rw [show c.laps.length + 1 - 64 = 1 by omega]
    refine walk ?_
    (apply s_sliceL (l := 1); (· exact rfl); (· exact rfl); (· omega); (· omega); (· exact rfl))
    refine walk ?_
    refine s_store1 (v := .slice _ _ _) rfl rfl rfl rfl ?_
    refine walk ?_
    refine s_storeV (vs := [.int .i64 c.now, .slice (partAddr a2 c2 1 1) (c.laps.length + 1 - 1) (c2 - 1)]) rfl rfl rfl rfl rfl ?_
    refine walk ?_
    refine retR1 (.inr rfl) rfl (rv_cellA (vs := [.int .i64 c.now, .slice (partAddr a2 c2 1 1) (c.laps.length + 1 - 1) (c2 - 1)]) rfl Cells.blk0 rfl) ?_
    refine ⟨partAddr a2 c2 1 1, c2 - 1, by rw [hml]; rfl, ?_⟩
    rw [hml, e1]
    exact Ent.step hcut Ent.auto
  · have hml : (markC c).laps.length = c.laps.length + 1 := by omega
    have e1 : (markC c).laps = c.laps ++ [c.now] := by unfold markC; rw [show c.laps.length + 1 - 64 = 0 by omega]; rfl
    refine walk ?_
    refine s_store1 (v := .slice _ _ _) rfl rfl rfl rfl ?_
    refine walk ?_
    refine s_storeV (vs := [.int .i64 c.now, .slice a2 (c.laps.length + 1) c2]) rfl rfl rfl rfl rfl ?_
    refine walk ?_
    refine retR1 (.inr rfl) rfl (rv_cellA (vs := [.int .i64 c.now, .slice a2 (c.laps.length + 1) c2]) rfl Cells.blk0 rfl) ?_
    refine ⟨a2, c2, by rw [hml], ?_⟩
    rw [hml, e1]
    exact Ent.step hmine Ent.auto
theorem rMillis {fs : List Nat} (hs : Rd B H 1 s fs.length (fs.map flt)) (hf : ∀ f ∈ fs, f < 2 ^ 64) (hl : fs.length ≤ 1000000) :
    Does Tryd.prog B 28 [rC c.now (.slice ao m cap), s] H fun r H' => H' = H ∧ r = .tuple #[rC (milGo c 0 fs).1.now (.slice ao m cap), .int .i64 ((milGo c 0 fs).2.1 : Nat), .int .i64 (milGo c 0 fs).2.2] := by
  refine Does.frame0 ?_
  unfold Rd at hs
  obtain ⟨ao2, cap2, rfl, hln, hm, hc⟩ := hs
  unfold maxLen at hm
  unfold rC
  refine fn_intro 38 Tryd.func28 rfl rfl rfl ?_
  refine walk ?_
  refine s_box (cs := [.int .i64 c.now, .slice ao m cap]) rfl rfl rfl ?_
  intro b1
  refine walk ?_
  refine s_alloc rfl ?_
  intro b2
  refine walk ?_
  refine wp_loopF (α := Nat × Int) [5, 6, 7, 8, 9, 10, 11, 12, 13, 14, 15, 16, 17, 18, 19, 20, 21, 22, 23, 24, 25, 26, 27, 28, 29, 30, 31, 32, 33, 34] (fun x => [(7, .int .i64 x.1), (5, .int .i64 0), (6, .int .i64 0)]) (fun x => blk b2 [.int .i64 0, .slice none 0 0] 41 + (blk b1 [.int .i64 x.2, .slice ao m cap] 41 + H)) (fun x => x.1 ≤ fs.length ∧ milGo c 0 fs = milGo ⟨x.2, c.laps⟩ x.1 (fs.drop x.1)) (fun x => fs.length - x.1) (0, c.now) agreed (Ent.refl _) ⟨Nat.zero_le _, by simp⟩ ?_
  rintro ⟨k, now⟩ g ⟨hk, hmil⟩
  simp only at hk hmil
  simp only [putAll]
  by_cases hlt : k < fs.length
  · obtain ⟨bl, o, rfl, hcs⟩ := Rd.addr hln hc (by omega : k < fs.length)
    have hcell := hcs.cell (j := k) (v := flt fs[k]) (by rw [List.getElem?_map, List.getElem?_eq_getElem hlt]; rfl)
    have hb64 := hf fs[k] (List.getElem_mem hlt)
    have hdrop : fs.drop k = fs[k] :: fs.drop (k + 1) := List.drop_eq_getElem_cons hlt
    rw [hdrop] at hmil
    by_cases hg : FGood fs[k]
    · have hnv := nanV_good hg
      rw [milGo_step hg] at hmil
      refine walk ?_
      refine s_call rfl (rnanos_spec hb64) rfl ?_
      rintro _ _ ⟨e_, rfl⟩
      obtain rfl := e_.symm
      refine walk ?_
      rw [hnv]
      refine walk ?_
      refine s_call rfl (rAdd (now := now) (ao := ao) (m := m) (cap := cap) (n := ((nanosR (fs[k] % 2 ^ 63) : Nat) : Int))) rfl ?_
      rintro _ _ ⟨rfl, rfl⟩
      rw [if_neg (by omega), if_neg (by omega)]
      unfold rC
      refine walk ?_
      refine s_storeV (vs := [.int .i64 (sumI [now, ((nanosR (fs[k] % 2 ^ 63) : Nat) : Int)]), .slice ao m cap]) rfl rfl rfl rfl rfl ?_
      refine walk ?_
      exact ⟨(k + 1, sumI [now, ((nanosR (fs[k] % 2 ^ 63) : Nat) : Int)]), asided, agreed, Ent.auto, ⟨hlt, hmil⟩, by simp only; omega⟩
    · have hnv := nanV_bad hg
      rw [milGo, if_neg hg] at hmil
      rw [hmil]
      refine walk ?_
      refine s_call rfl (rnanos_spec hb64) rfl ?_
      rintro _ _ ⟨e_, rfl⟩
      obtain rfl := e_.symm
      refine walk ?_
      rw [hnv]
      refine walk ?_
      refine s_storeV (vs := [.int .i64 now, .slice ao m cap]) rfl rfl rfl rfl rfl ?_
      refine walk ?_
      (first | (apply retRD3 (G := H) (.inr rfl) rfl; (· first | (refine rv_cell (v := .agg _) rfl (Cell.blk rfl)) | exact rv_cellA rfl Cells.blk0 rfl | (apply rv_cell; (· exact rfl); (· assumption)) | (apply rv_cellA; (· exact rfl); (· assumption); (· exact rfl))); (· first | (refine rv_tmp (v := .int _ _) rfl) | exact rv_tmp rfl); (· first | (refine rv_tmp (v := .int _ _) rfl) | exact rv_tmp rfl); (· exact Ent.auto)) | (apply retRD3 (G := H) (.inl rfl) rfl; (· first | (refine rv_cell (v := .agg _) rfl (Cell.blk rfl)) | exact rv_cellA rfl Cells.blk0 rfl | (apply rv_cell; (· exact rfl); (· assumption)) | (apply rv_cellA; (· exact rfl); (· assumption); (· exact rfl))); (· first | (refine rv_tmp (v := .int _ _) rfl) | exact rv_tmp rfl); (· first | (refine rv_tmp (v := .int _ _) rfl) | exact rv_tmp rfl); (· exact Ent.auto)))
      exact ⟨Ent.refl _, rfl⟩
  · obtain rfl : k = fs.length := by omega
    rw [List.drop_length, milGo] at hmil
    rw [hmil]
    refine walk ?_
    refine s_storeV (vs := [.int .i64 now, .slice ao m cap]) rfl rfl rfl rfl rfl ?_
    refine walk ?_
    (first | (apply retRD3 (G := H) (.inr rfl) rfl; (· first | (refine rv_cell (v := .agg _) rfl (Cell.blk rfl)) | exact rv_cellA rfl Cells.blk0 rfl | (apply rv_cell; (· exact rfl); (· assumption)) | (apply rv_cellA; (· exact rfl); (· assumption); (· exact rfl))); (· first | (refine rv_tmp (v := .int _ _) rfl) | exact rv_tmp rfl); (· first | (refine rv_tmp (v := .int _ _) rfl) | exact rv_tmp rfl); (· exact Ent.auto)) | (apply retRD3 (G := H) (.inl rfl) rfl; (· first | (refine rv_cell (v := .agg _) rfl (Cell.blk rfl)) | exact rv_cellA rfl Cells.blk0 rfl | (apply rv_cell; (· exact rfl); (· assumption)) | (apply rv_cellA; (· exact rfl); (· assumption); (· exact rfl))); (· first | (refine rv_tmp (v := .int _ _) rfl) | exact rv_tmp rfl); (· first | (refine rv_tmp (v := .int _ _) rfl) | exact rv_tmp rfl); (· exact Ent.auto)))
    exact ⟨Ent.refl _, rfl⟩
end
end Go.Proofs.YtipbcccjhaommaaDoor
