/- Notes are taken. No condition. -/
import Derived.Test.YtlhnmbajbhaaoaaIdId8
import Derived.Test.YtlhnmbajbhaaoaaSL4
namespace Go.Proofs.Ytlhnmbajbhaaoaa
open Go Go.SL
set_option linter.unusedSimpArgs false
set_option linter.unusedVariables false
set_option maxRecDepth 10000
set_option maxHeartbeats 2000000
/-- Notes, as they lie in memory. -/
def nvs : List Nt → List Value
  | [] => []
  | n :: l => nv n ++ nvs l
theorem nvs_len (l : List Nt) : (nvs l).length = l.length * 5 := by
  induction l with
  | nil => rfl
  | cons a l ih => simp only [nvs, List.length_append, ih, List.length_cons, List.length_nil]; omega
theorem nvs_app (a b : List Nt) : nvs (a ++ b) = nvs a ++ nvs b := by
  induction a with
  | nil => rfl
  | cons r a ih => simp only [List.cons_append, nvs, ih, List.append_assoc]
theorem nvs_one : ∀ l : List Nt, (nvs l).all Value.oneCell' = true
  | [] => rfl
  | n :: l => by simp [nvs, nvs_one l, Value.oneCell']
theorem nvs_split {l : List Nt} {k : Nat} (h : k < l.length) : nvs l = nvs (l.take k) ++ (nv l[k] ++ nvs (l.drop (k + 1))) := by
  have e : l = l.take k ++ l[k] :: l.drop (k + 1) := by rw [← List.drop_eq_getElem_cons h, List.take_append_drop]
  conv => lhs; rw [e]
  rw [nvs_app]; rfl
theorem nvs_at {l : List Nt} {k j : Nat} (h : k < l.length) (hj : j < 5) : (nvs l)[k * 5 + j]? = (nv l[k])[j]? := by
  have hl : (nvs (l.take k)).length = k * 5 := by rw [nvs_len, List.length_take]; omega
  rw [nvs_split h, List.getElem?_append_right (by omega), hl, Nat.add_sub_cancel_left, List.getElem?_append_left (by simpa using hj)]
theorem nvs_take (l : List Nt) (k : Nat) (h : k ≤ l.length) : (nvs l).take (k * 5) = nvs (l.take k) := by
  have hl : (nvs (l.take k)).length = k * 5 := by rw [nvs_len, List.length_take]; omega
  conv => lhs; rw [← List.take_append_drop k l, nvs_app]
  rw [List.take_left' hl]
theorem takeI_cons (I : Ide) (n : Nt) (l : List Nt) : takeI I (n :: l) = if mayB I n = true then ((takeI (stepI I n) l).1 + 1, (takeI (stepI I n) l).2) else (0, I) := rfl
theorem nvs_cells {B : World} {H : HProp} {b o : Nat} {l : List Nt} (hc : Cells B H b o (nvs l)) {k : Nat} (hk : k < l.length) : Cells B H b (o + k * 5) (nv l[k]) := by
  intro w hw j v hj
  have hj5 : j < 5 := (List.getElem?_eq_some_iff.1 hj).1
  have h2 := hc.cell (j := k * 5 + j) (v := v) (by rw [nvs_at hk hj5]; exact hj)
  rw [← Nat.add_assoc] at h2
  exact h2 w hw
instance : Plain Try.prog 64 := Plain.of (by kernel_rfl) (by kernel_rfl)
instance : FieldV Try.prog 66 3 64 3 := ⟨by kernel_rfl⟩
attribute [local irreducible] WP WPL QSeq QBlk QRet Does Cell Cells Rd Mine Ent Aside RV Yield TabAt SemAt IdeAt
section
variable {B : World} {H F G : HProp} {x : Nat} {L : IdL} {n : Nt} {l : List Nt} {s : Value} {K : Int}
theorem iTake [i : HasAt IdeAt H x L F] (hs : Rd B F 5 s l.length (nvs l)) (ok : L.I.ok K) (hK : K + 3 * l.length ≤ 99000) :
    Does Try.prog B 8 [ptr x, s] H fun r H' => H' = IdeAt x (L.put (takeI L.I l).2) + F ∧ r = .tuple #[.int .i64 ((takeI L.I l).1 : Int), .int .i64 (if (takeI L.I l).1 = l.length then 0 else 260)] := by
  have h0 := ok.many
  unfold Rd at hs
  obtain ⟨ao, cap, rfl, hl, hm, hc⟩ := hs
  unfold maxLen at hm
  rw [i.eq]
  refine Does.same ?_
  refine fn_intro 41 Try.func8 rfl rfl rfl ?_
  refine walk ?_
  refine wp_loopF (α := Nat × Ide) [4, 5, 6, 7, 12, 13, 14, 15, 16, 17, 18, 19, 20, 21, 22, 23, 24, 25, 26, 27, 28, 29, 30, 31, 32, 33, 34, 35, 36, 37, 38] (fun z => [(12, .int .i64 (z.1 : Nat))]) (fun z => IdeAt x (L.put z.2) + F)
    (fun z => z.1 ≤ l.length ∧ z.2.ok (K + 3 * z.1) ∧ takeI L.I l = (z.1 + (takeI z.2 (l.drop z.1)).1, (takeI z.2 (l.drop z.1)).2)) (fun z => l.length - z.1) (0, L.I) agreed (Ent.refl _) ⟨Nat.zero_le _, by simpa using ok, by simp⟩ ?_
  rintro ⟨k, J⟩ f ⟨hk, okJ, htk⟩
  simp only at hk okJ htk
  simp only [putAll]
  by_cases hlt : k < l.length
  · obtain ⟨bs, os, rfl, hcs⟩ : ∃ b o, ao = some ⟨b, o, none⟩ ∧ Cells B F b o (nvs l) := by
      rcases hc with h | ⟨b, o, h1, h2⟩
      · rw [h] at hl; simp at hl; omega
      · exact ⟨b, o, h1, h2⟩
    have hcell := nvs_cells hcs hlt
    rw [List.drop_eq_getElem_cons hlt, takeI_cons] at htk
    obtain ⟨n, hn⟩ : ∃ n, l[k] = n := ⟨_, rfl⟩
    rw [hn] at htk hcell
    have okJ' : (L.put J).I.ok (K + 3 * k) := okJ
    have mb := okJ.many
    refine walk ?_
    refine s_alloc rfl ?_
    intro b7
    refine walk ?_
    refine s_storeV (vs := nv n) rfl rfl rfl rfl rfl ?_
    refine walk ?_
    refine s_call rfl (iMay (x := x) (L := L.put J) (n := n) okJ' (by omega)) rfl ?_
    rintro _ _ ⟨e_, rfl⟩
    obtain rfl := e_.symm
    rw [show mayB (L.put J).I n = mayB J n from rfl]
    cases hmay : mayB J n with
    | false =>
      rw [if_neg (by rw [hmay]; simp)] at htk
      have e1 : (takeI L.I l).1 = k := by rw [htk]; simp
      have e2 : (takeI L.I l).2 = J := by rw [htk]
      refine walk ?_
      (first | (apply retRD2 (G := (IdeAt x (L.put J) + F)) (.inr rfl) rfl; (· first | (refine rv_tmp (v := .int _ _) rfl) | exact rv_tmp rfl); (· first | (refine rv_tmp (v := .int _ _) rfl) | exact rv_tmp rfl); (· exact Ent.auto)) | (apply retRD2 (G := (IdeAt x (L.put J) + F)) (.inl rfl) rfl; (· first | (refine rv_tmp (v := .int _ _) rfl) | exact rv_tmp rfl); (· first | (refine rv_tmp (v := .int _ _) rfl) | exact rv_tmp rfl); (· exact Ent.auto)))
      exact ⟨by rw [e2]; exact Ent.refl _, by rw [e1, if_neg (by omega)]⟩
    | true =>
      rw [if_pos hmay] at htk
      obtain ⟨hk16, hr, hy⟩ := mayB_of hmay
      obtain ⟨kk, hkk⟩ := Int.eq_ofNat_of_zero_le (show 0 ≤ n.kind by omega)
      have hk1 : 1 ≤ kk ∧ kk ≤ 16 := by omega
      have hka := kind_at (c := J.c) hk1
      rw [← hkk] at hka
      have okS := okJ.step hmay
      have okS' : (stepI J n).ok (K + 3 * ((k + 1 : Nat) : Int)) := by
        have e : K + 3 * ((k + 1 : Nat) : Int) = K + 3 * (k : Int) + 3 := by omega
        rw [e]; exact okS
      have okD := okJ.doK hr hk16
      have md := okD.many
      haveI := do_call hk1
      have z10 : Cell B (IdeAt x (L.put (doK J n))) x 10 (.int .i64 (doK J n).many) := ide_cell rfl
      refine walk ?_
      (refine wp_draw [1, 8] (.look 0 (.look 2 (.look 3 (.look 6 (.look 7 (.act 1 (.look 4 (.look 5 (.act 8 .nil .stop))) .stop)))))) (by kernel_rfl) ?_; (apply dw_pure; (· exact rfl); (· exact rfl); (· (intro G; exact looked))); (apply dw_pure; (· exact rfl); (· exact rfl); (· (intro G; exact looked))); (apply dw_look; (· exact rfl); (· exact rfl); (· (exact looked))); (apply dw_pure; (· exact rfl); (· exact rfl); (· (intro G; exact looked))); (apply dw_look; (· exact rfl); (· exact rfl); (· (exact looked))); skip)
      refine dw_do rfl rfl ?_ dw_stop
      refine s_call rfl (iKinds (L := L.put J) (x := x)) rfl ?_
      rintro _ _ ⟨e_, rfl⟩
      obtain rfl := e_.symm
      refine wpl_nil (qone ⟨(by (refine st_again ?_ ?_; (· exact looked)); (refine st_again ?_ ?_; (· exact looked)); exact st_nil), ?_⟩)
      ((apply dw_pure; (· exact rfl); (· exact rfl); (· (intro G; refine s_indexVA (j := kk) (cs := kindsC J.c) (vs := [str (fK n.kind), .int .i64 (xK J.c n.kind), .func (.func (mayF kk)) #[] #[], .func (.func (doF kk)) #[] #[]]) rfl rfl hkk (by omega) hka rfl ?_; exact looked))); (apply dw_pure; (· exact rfl); (· exact rfl); (· (intro G; refine s_fieldV (cs := [str (fK n.kind), .int .i64 (xK J.c n.kind), .func (.func (mayF kk)) #[] #[], .func (.func (doF kk)) #[] #[]]) rfl rfl rfl ?_; exact looked))); skip)
      refine dw_do rfl rfl ?_ dw_stop
      refine s_callV (f := doF kk) (first := []) (cap := []) (vs := [ptr x, noteV n]) rfl rfl (do_any (x := x) (L := L.put J) (n := n) okJ' (by omega) hr hy hkk hk1) rfl ?_
      rintro _ _ ⟨rfl, rfl⟩
      rw [show (L.put J).put (doK (L.put J).I n) = L.put (doK J n) from rfl]
      refine wpl_nil (qone ⟨(by refine st_past (by kernel_rfl) ?_; refine st_past (by kernel_rfl) ?_; exact st_nil), ?_⟩)
      (refine dw_nil ?_; skip)
      refine walk ?_
      rw [ide_openP]
      refine s_store (v := .int .i64 ((doK J n).many + 1)) (cs' := ideJ L (stepI J n)) rfl rfl rfl (by simp) rfl ?_
      refine walk ?_
      refine ⟨(k + 1, stepI J n), asided, agreed, ?_, ⟨by omega, okS', by rw [htk]; simp only [Prod.mk.injEq, and_true]; omega⟩, by simp only; omega⟩
      rw [ide_openP]
      show Ent _ (blk x (ideJ L (stepI J n)) 56 + (blk L.bm (mcs (doK J n).ms ++ L.sm) 61 + (blk L.bp (zs (doK J n).ps ++ L.sp) 3 + (TabAt L.q (doK J n).tab + (SemAt L.s (doK J n).sem + F)))))
      exact Ent.auto
  · have hkl : k = l.length := by omega
    rw [hkl, List.drop_length] at htk
    have e1 : (takeI L.I l).1 = l.length := by rw [htk]; simp [takeI]
    have e2 : (takeI L.I l).2 = J := by rw [htk]; rfl
    refine walk ?_
    (first | (apply retRD2 (G := (IdeAt x (L.put J) + F)) (.inr rfl) rfl; (· first | (refine rv_tmp (v := .int _ _) rfl) | exact rv_tmp rfl); (· first | (refine rv_tmp (v := .int _ _) rfl) | exact rv_tmp rfl); (· exact Ent.auto)) | (apply retRD2 (G := (IdeAt x (L.put J) + F)) (.inl rfl) rfl; (· first | (refine rv_tmp (v := .int _ _) rfl) | exact rv_tmp rfl); (· first | (refine rv_tmp (v := .int _ _) rfl) | exact rv_tmp rfl); (· exact Ent.auto)))
    exact ⟨by rw [e2]; exact Ent.refl _, by rw [e1, if_pos rfl]⟩
end
end Go.Proofs.Ytlhnmbajbhaaoaa
