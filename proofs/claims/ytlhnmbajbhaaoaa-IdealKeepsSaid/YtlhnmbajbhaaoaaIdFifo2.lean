/- A line of numbers: all of it. No condition. -/
import Derived.Test.YtlhnmbajbhaaoaaIdFifo
namespace Go.Proofs.Ytlhnmbajbhaaoaa
open Go Go.SL
set_option linter.unusedSimpArgs false
set_option linter.unusedVariables false
set_option maxRecDepth 10000
set_option maxHeartbeats 1000000
attribute [local irreducible] WP WPL QSeq QBlk QRet Does Cell Cells Rd Mine Ent Aside RV Yield
section
variable {B : World} {F H G : HProp} {p o : Nat} {L : List Int} {y : Int}
theorem ln_gives {bd : Nat} (hl : LnIn B H p o L) : Gives B 96 [.pointer (some ⟨bd, 0, none⟩)] (blk bd [.pointer (some ⟨p, o, none⟩)] 112 + H) L := by
  intro l J Jx hy
  have hl0 := hl
  obtain ⟨x, h, t, c0, c1, c2, hf, F, rfl⟩ := hl
  simp only [HProp.add_assoc] at hy ⊢
  have hl1 : LnIn B (blk bd [.pointer (some ⟨p, o, none⟩)] 112 + (mapH x + (F + J []))) p o L := ⟨x, h, t, c0.ent Ent.auto, c1.ent Ent.auto, c2.ent Ent.auto, hf, _, HProp.add_left_comm _ _ _⟩
  refine fn_intro 27 Try.func96 rfl rfl rfl ?_
  refine walk ?_
  refine s_call rfl (lnHead hl1) rfl ?_
  rintro _ _ ⟨rfl, z, hz, rfl⟩
  refine walk ?_
  refine wp_loopF (α := Nat × Int) [3, 4, 5, 11, 12, 13, 14, 15, 16, 17, 18, 19, 20, 21, 22, 23, 24, 25, 26] (fun k => [(3, .int .i64 k.2), (4, .bool (decide (k.1 < L.length)))]) (fun k => blk bd [.pointer (some ⟨p, o, none⟩)] 112 + (mapH x + (F + J (L.take k.1)))) (fun k => k.1 ≤ L.length ∧ (k.1 < L.length → L[k.1]? = some k.2)) (fun k => L.length - k.1) (0, z) agreed (by rw [List.take_zero]; exact Ent.refl _) ⟨Nat.zero_le _, hz⟩ ?_
  rintro ⟨k, u⟩ g ⟨hk, hu⟩
  simp only [putAll] at hk hu ⊢
  by_cases hlt : k < L.length
  · have hu := hu hlt
    have hsplit : L = L.take k ++ L[k] :: L.drop (k + 1) := by
      rw [← List.drop_eq_getElem_cons hlt, List.take_append_drop]
    have hyk := hy _ _ _ hsplit
    rw [← List.take_succ_eq_append_getElem hlt] at hyk
    have hgx : L[k] = u := by rw [List.getElem?_eq_getElem hlt] at hu; exact Option.some.inj hu
    rw [hgx] at hyk
    rw [decide_eq_true hlt]
    refine walk ?_
    refine s_yield rfl rfl hyk rfl ?_
    rintro _ H' ⟨bo, rfl, he⟩
    refine WPL.ent he ?_
    cases bo with
    | true =>
      cases x with
      | none => exact absurd hlt (by rw [show L = [] from hf]; simp)
      | some x =>
        obtain ⟨b, m⟩ := x
        have c0 : Cell B (MapAt b m + F) p o (.map (some b)) := c0
        have hf : LinkF L m h t := hf
        obtain ⟨a', b', hm, ha, hb⟩ := hf.at_ k u hu
        have c3 : Cell B (blk bd [.pointer (some ⟨p, o, none⟩)] 112 + (MapAt b m + (F + J (L.take (k + 1))))) p o (.map (some b)) := c0.ent Ent.auto
        simp only [mapH, if_true] at *
        refine walk ?_
        refine s_mget (v := lk a' b' (decide (0 < k)) (decide (k + 1 < L.length))) rfl rfl (by rw [hm]; rfl) rfl ?_
        refine walk ?_
        refine walkG ?_
        repeat ((first | (show WPL _ _ _ _ _ (⟨_, .alloc _, _, _, _, none⟩ :: _) _ _ _; refine s_alloc rfl ?_; intro _) | (show WP _ _ _ _ (.region 3 _ true) _ _ _; (refine wp_draw [] (.look 0 (.look 1 (.look 2 (.look 3 (.look 4 (.look 5 .nil)))))) (by kernel_rfl) ?_; (apply dw_pure; (· exact rfl); (· exact rfl); (· (intro G; exact looked))); (apply dw_look; (· exact rfl); (· exact rfl); (· (exact looked))); (apply dw_pure; (· exact rfl); (· exact rfl); (· (intro G; exact looked))); (apply dw_look; (· exact rfl); (· exact rfl); (· (exact looked))); (apply dw_pure; (· exact rfl); (· exact rfl); (· (intro G; exact looked))); (apply dw_pure; (· exact rfl); (· exact rfl); (· (intro G; exact looked))); refine dw_nil ?_))); refine walkG ?_)
        exact ⟨(k + 1, b'), asided, agreed, Ent.auto, ⟨by omega, hb⟩, by simp only; omega⟩
    | false =>
      refine walk ?_
      refine ret0 (.inl rfl) rfl (.inr ⟨_, _, _, hsplit, ?_⟩)
      rw [hgx, ← hgx, ← List.take_succ_eq_append_getElem hlt]
      rfl
  · have hke : k = L.length := by omega
    subst hke
    rw [decide_eq_false hlt, List.take_length]
    refine walk ?_
    refine ret0 (.inl rfl) rfl (.inl rfl)
theorem lnEach : Does Try.prog B 88 [.pointer (some ⟨p, o, none⟩)] H fun r H' => ∃ bd, r = .func (.func 96) #[] #[.pointer (some ⟨bd, 0, none⟩)] ∧ H' = blk bd [.pointer (some ⟨p, o, none⟩)] 112 + H := by
  refine fn_intro 4 Try.func88 rfl rfl rfl ?_
  refine walk ?_
  refine s_box (cs := [.pointer (some ⟨p, o, none⟩)]) rfl rfl rfl ?_
  intro bd
  refine walk ?_
  refine s_makeFunc (first := []) (cap := [.tmp 1]) (vs := []) (us := [.pointer (some ⟨bd, 0, none⟩)]) rfl rfl rfl ?_
  refine walk ?_
  exact ret1 (v := .func _ _ _) (.inr rfl) rfl rfl ⟨bd, rfl, rfl⟩
theorem lnAll (hx : L.length ≤ 1000000) (hl : LnIn B H p o L) : Does Try.prog B 78 [.pointer (some ⟨p, o, none⟩)] H fun r H' => H' = Mine 3 1 r L.length (zs L) + H := by
  refine fn_intro 6 Try.func78 rfl rfl rfl ?_
  refine walk ?_
  refine s_call rfl (lnEach) rfl ?_
  rintro _ _ ⟨bd, rfl, rfl⟩
  refine walk ?_
  have e := collect_spec (F := emp) hx (ln_gives (bd := bd) hl)
  simp only [HProp.add_emp] at e
  refine s_call rfl e rfl ?_
  rintro r _ rfl
  refine walk ?_
  (first | (apply retRD1 (G := (Mine 3 1 r L.length (zs L) + H)) (.inr rfl) rfl; (· first | (refine rv_tmp (v := .slice _ _ _) rfl) | exact rv_tmp rfl); (· exact Ent.auto)) | (apply retRD1 (G := (Mine 3 1 r L.length (zs L) + H)) (.inl rfl) rfl; (· first | (refine rv_tmp (v := .slice _ _ _) rfl) | exact rv_tmp rfl); (· exact Ent.auto)))
  exact rfl
end
end Go.Proofs.Ytlhnmbajbhaaoaa
