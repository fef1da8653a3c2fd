/- The document's line, given many new numbers. No condition. -/
import Derived.Test.YtgdeemneijpeeaaSmRef14
namespace Go.Proofs.Ytgdeemneijpeeaa
open Go Go.SL
set_option linter.unusedSimpArgs false
set_option linter.unusedVariables false
set_option maxRecDepth 10000
set_option maxHeartbeats 1000000
attribute [local irreducible] WP WPL QSeq QBlk QRet Does Cell Cells Rd Mine Ent Aside RV Yield
section
variable {B : World} {F H G : HProp} {L : List Int} {r : Value}
theorem nd_take (h : L.Nodup) {i : Nat} (hi : i < L.length) : L[i] ∉ L.take i := fun hm => by
  obtain ⟨q, hq, e⟩ := List.mem_take_iff_getElem.1 hm
  exact List.pairwise_iff_getElem.1 h q i (by omega) hi (by omega) e
theorem pushN14 {ao : Option Addr} {cap : Nat} (hr : Rd B H 1 (.slice ao L.length cap) L.length (zs L)) (hc : L.length ≤ cap) (hn : L.Nodup) (hL : L.length ≤ 1000000) : Does Try.prog B 16 [.slice none 0 0, .slice ao L.length cap] H fun v H' => H' = H ∧ ∃ a n c, v = .tuple #[.slice a n c, .int .i64 0] := by
  have hr' := hr
  unfold Rd at hr'
  obtain ⟨_, _, e_, hl, hm, ha⟩ := hr'
  cases e_
  refine fn_intro 31 Try.func16 rfl rfl rfl ?_
  refine walk ?_
  refine wp_loopF (α := Nat × Value) [4, 5, 6, 7, 9, 10, 11, 12, 13, 14, 15, 16, 17, 18, 19, 20, 21, 22, 23, 24, 25, 26, 27, 28, 29] (fun x => [(7, .int .i64 x.1), (6, x.2)]) (fun x => Mine 3 1 x.2 (L.take x.1).length (zs (L.take x.1)) + H) (fun x => x.1 ≤ L.length) (fun x => L.length - x.1) (0, .slice none 0 0) agreed ?_ (Nat.zero_le _) ?_
  · show Ent H (Mine 3 1 (.slice none 0 0) 0 [] + H)
    rw [Mine.nil, HProp.emp_add]
    exact Ent.refl _
  rintro ⟨i, v⟩ f hi
  simp only at hi
  simp only [putAll]
  refine WP.rd fun rd => ?_
  by_cases hlt : i < L.length
  · obtain ⟨bl, ol, rfl, hcl⟩ := Rd.addr hl ha hlt
    have hcell := hcl.cell (zs_get L i hlt)
    refine walk ?_
    refine s_call rfl (ahead14 (L := L.take i) (g := L[i]) (rd.ent InH.ent)) rfl ?_
    rintro _ _ ⟨e_, rfl⟩
    obtain rfl := e_.symm
    refine walk ?_
    rw [pos_none (nd_take hn hlt)]
    refine walk ?_
    (apply s_sliceLH (l := i) (h := i + 1); (· exact rfl); (· exact rfl); (· exact rfl); (· omega); (· omega); (· omega); (· exact rfl))
    have hx := hr.sliceLH i (i + 1) (by omega) (by omega) hc
    rw [Nat.mul_one, Nat.mul_one, zs_take, zs_drop, show i + 1 - i = 1 by omega] at hx
    have hone : (L.take (i + 1)).drop i = [L[i]] := by
      rw [List.take_succ_eq_append_getElem hlt, List.drop_append_of_le_length (by rw [List.length_take]; omega), List.drop_of_length_le (by rw [List.length_take]; omega)]; rfl
    rw [hone] at hx
    rw [show i + 1 - i = 1 by omega]
    refine walk ?_
    refine s_call rfl (join14 (x := L.take i) (y := [L[i]]) (rd.ent InH.ent) (hx.ent InH.ent) (by rw [List.length_take]; omega) (by simp)) rfl ?_
    rintro v' _ rfl
    rw [← List.take_succ_eq_append_getElem hlt]
    refine walk ?_
    exact ⟨(i + 1, v'), asided, agreed, Ent.auto, hlt, by simp only; omega⟩
  · refine WP.shape ?_
    rintro av cv rfl _ _ _
    refine walk ?_
    (first | (apply retRD2 (G := H) (.inr rfl) rfl; (· first | (refine rv_tmp (v := .slice _ _ _) rfl) | exact rv_tmp rfl); (· first | (refine rv_tmp (v := .int _ _) rfl) | exact rv_tmp rfl); (· exact Ent.auto)) | (apply retRD2 (G := H) (.inl rfl) rfl; (· first | (refine rv_tmp (v := .slice _ _ _) rfl) | exact rv_tmp rfl); (· first | (refine rv_tmp (v := .int _ _) rfl) | exact rv_tmp rfl); (· exact Ent.auto)))
    exact ⟨rfl, _, _, _, rfl⟩
end
end Go.Proofs.Ytgdeemneijpeeaa
