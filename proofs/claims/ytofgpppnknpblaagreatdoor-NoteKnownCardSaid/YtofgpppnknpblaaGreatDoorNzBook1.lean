/- Rows of notes; a book: how it lies, what is read, what is added. No condition. -/
import Derived.Test.YtofgpppnknpblaaGreatDoorNzLaw26b
import Derived.Test.YtofgpppnknpblaaGreatDoorSL4
namespace Go.Proofs.YtofgpppnknpblaaGreatDoor
open Go Go.SL
set_option linter.unusedSimpArgs false
set_option linter.unusedVariables false
set_option maxRecDepth 10000
set_option maxHeartbeats 2000000
/-- Notes, as they lie in memory. -/
def nvs : List Nt → List Value
  | [] => []
  | n :: l => nv n ++ nvs l
theorem nvs_len (l : List Nt) : (nvs l).length = l.length * 5 := by
  induction l with
  | nil => rfl
  | cons a l ih => simp only [nvs, List.length_append, ih, List.length_cons, List.length_nil]; omega
theorem nvs_app (a b : List Nt) : nvs (a ++ b) = nvs a ++ nvs b := by
  induction a with
  | nil => rfl
  | cons r a ih => simp only [List.cons_append, nvs, ih, List.append_assoc]
theorem nvs_one : ∀ l : List Nt, (nvs l).all Value.oneCell' = true
  | [] => rfl
  | n :: l => by
    simp only [nvs, List.all_append, nvs_one l, Bool.and_true]
    rfl
theorem nvs_split {l : List Nt} {k : Nat} (h : k < l.length) : nvs l = nvs (l.take k) ++ (nv l[k] ++ nvs (l.drop (k + 1))) := by
  have e : l = l.take k ++ l[k] :: l.drop (k + 1) := by rw [← List.drop_eq_getElem_cons h, List.take_append_drop]
  conv => lhs; rw [e]
  rw [nvs_app]; rfl
theorem nvs_at {l : List Nt} {k j : Nat} (h : k < l.length) (hj : j < 5) : (nvs l)[k * 5 + j]? = (nv l[k])[j]? := by
  have hl : (nvs (l.take k)).length = k * 5 := by rw [nvs_len, List.length_take]; omega
  rw [nvs_split h, List.getElem?_append_right (by omega), hl, Nat.add_sub_cancel_left, List.getElem?_append_left (by simpa using hj)]
theorem nvs_take (l : List Nt) (k : Nat) (h : k ≤ l.length) : (nvs l).take (k * 5) = nvs (l.take k) := by
  have e : l = l.take k ++ l.drop k := (List.take_append_drop k l).symm
  have hl : (nvs (l.take k)).length = k * 5 := by rw [nvs_len, List.length_take]; omega
  conv => lhs; rw [e]
  rw [nvs_app, List.take_append_of_le_length (by omega), List.take_of_length_le (by omega)]
theorem nvs_drop (l : List Nt) (k : Nat) (h : k ≤ l.length) : (nvs l).drop (k * 5) = nvs (l.drop k) := by
  have e : l = l.take k ++ l.drop k := (List.take_append_drop k l).symm
  have hl : (nvs (l.take k)).length = k * 5 := by rw [nvs_len, List.length_take]; omega
  conv => lhs; rw [e]
  rw [nvs_app, List.drop_append_of_le_length (by omega), List.drop_of_length_le (by omega)]; rfl
theorem nvs_cells {B : World} {H : HProp} {b o : Nat} {l : List Nt} (h : Cells B H b o (nvs l)) {k : Nat} (hk : k < l.length) : Cells B H b (o + k * 5) (nv l[k]) := fun w hw j v hj => by
  have hj5 : j < 5 := (List.getElem?_eq_some_iff.1 hj).1
  rw [Nat.add_assoc]
  exact h w hw (k * 5 + j) v (by rw [nvs_at hk hj5]; exact hj)
theorem nvs_set {l : List Nt} {k : Nat} {sp : List Value} {c : UInt8} {v : Int} (h : k < l.length) (hc : isL c) : (nvs l ++ sp).set (k * 5 + placeL c) (.int .i64 v) = nvs (l.set k (setL l[k] c v)) ++ sp := by
  have hl : (nvs (l.take k)).length = k * 5 := by rw [nvs_len, List.length_take]; omega
  have hp := place_lt c
  have e2 : l.set k (setL l[k] c v) = l.take k ++ setL l[k] c v :: l.drop (k + 1) := by rw [List.set_eq_take_append_cons_drop, if_pos h]
  rw [e2, nvs_app, nvs_split h]
  simp only [nvs, List.append_assoc]
  rw [List.set_append_right _ _ (by omega), hl, Nat.add_sub_cancel_left, List.set_append_left _ _ (by simpa using hp), nv_set hc]
attribute [local irreducible] WP WPL QSeq QBlk QRet Does Cell Cells Rd Mine Ent Aside RV Yield IterAt
section
variable {B : World} {F H G : HProp} {n : Nt} {k v i : Int} {b : Nat} {s u fv : Value} {L M : List Nt}
theorem Rd.addr5 {m : Nat} {ao : Option Addr} {cs : List Value} (hl : cs.length = m * 5) (h : cs = [] ∨ ∃ b o, ao = some ⟨b, o, none⟩ ∧ Cells B H b o cs) (hk : 0 < m) : ∃ b o, ao = some ⟨b, o, none⟩ ∧ Cells B H b o cs := by
  rcases h with h | h
  · rw [h] at hl; simp at hl; omega
  · exact h
theorem dNotes (hs : Rd B H 5 s L.length (nvs L)) (hL : L.length ≤ 1000000) : Does Tryz.prog B 25 [s] H fun r H' => H' = Mine 25 5 r L.length (nvs L) + H := by
  refine Does.weak (R := fun r H' => Ent H' (Mine 25 5 r L.length (nvs L) + H)) ?_ fun v H1 e => ⟨_, e, rfl⟩
  unfold Rd at hs
  obtain ⟨ao, cap, rfl, hl, hm, ha⟩ := hs
  refine fn_intro 20 Tryz.func25 rfl rfl rfl ?_
  refine walk ?_
  refine wp_loopF (α := Nat × Value) [3, 4, 5, 6, 7, 8, 9, 10, 11, 12, 13, 14, 15, 16, 17, 18] (fun x => [(3, x.2), (4, .int .i64 x.1)]) (fun x => Mine 25 5 x.2 x.1 (nvs (L.take x.1)) + H) (fun x => x.1 ≤ L.length) (fun x => L.length - x.1) (0, .slice none 0 0) agreed ?_ (Nat.zero_le _) ?_
  · show Ent _ (Mine 25 5 (.slice none 0 0) 0 [] + _)
    rw [Mine.nil, HProp.emp_add]
    exact Ent.refl _
  rintro ⟨j, v⟩ f hj
  simp only at hj
  simp only [putAll]
  by_cases hlt : j < L.length
  · obtain ⟨bl, ol, rfl, hcl⟩ := Rd.addr5 hl ha (show 0 < L.length by omega)
    have hcells := nvs_cells hcl hlt
    refine walk ?_
    refine s_call rfl (dNote (n := L[j])) rfl ?_
    rintro _ _ ⟨e_, rfl⟩
    obtain rfl := e_.symm
    refine walk ?_
    refine s_buildRows [nv L[j]] rfl rfl rfl rfl rfl rfl ?_
    intro b17
    refine s_append (v := v) rfl rfl (Rd.blk0 (m := 1) (sz := 5) (e := 25) rfl (by simp [maxLen])) rfl rfl ?_ rfl ?_
    · simp only [maxLen]; omega
    intro v'
    refine walk ?_
    refine ⟨(j + 1, v'), asided, agreed, ?_, hlt, by simp only; omega⟩
    have e : nvs (L.take (j + 1)) = nvs (L.take j) ++ [nv L[j]].flatten := by rw [take_push hlt, nvs_app]; simp [nvs]
    simp only [e]
    exact Ent.auto
  · obtain rfl : j = L.length := by omega
    rw [List.take_length]
    refine walk ?_
    (first | refine ret1 (v := .slice _ _ _) (.inr rfl) rfl rfl ?_ | refine ret1  (.inr rfl) rfl rfl ?_ | refine ret1 (v := .slice _ _ _) (.inl rfl) rfl rfl ?_ | refine ret1  (.inl rfl) rfl rfl ?_)
    exact (Ent.refl _)
theorem sameNotes [i : HasOwn H s 31 5 L.length (nvs L) F] (hu : Rd B F 5 u M.length (nvs M)) : Does Tryz.prog B 27 [s, u] H fun r H' => H' = F ∧ r = .bool (decide (L = M)) := by
  rw [i.eq]
  refine Does.shape ?_
  rintro ao cap rfl _ hc hm
  have hm' : cap ≤ 9223372036854775807 := by simpa [maxLen] using hm
  unfold Rd at hu
  obtain ⟨ao2, cap2, rfl, hl2, hm2, ha2⟩ := hu
  unfold maxLen at hm2
  refine Does.weak (R := fun r H' => Ent H' F ∧ r = .bool (decide (L = M))) ?_ fun v H1 ⟨e, h⟩ => ⟨_, e, rfl, h⟩
  refine fn_intro 31 Tryz.func27 rfl rfl rfl ?_
  by_cases hlen : L.length = M.length
  · refine walk ?_
    refine wp_loopS (α := Nat × List Nt) [4, 5, 11, 12, 13, 14, 15, 16, 17, 18, 19, 20, 21, 22, 23, 24, 25, 26, 27, 28, 29, 30] (fun x => [(5, .int .i64 x.1)]) (fun x => Mine 31 5 (.slice ao L.length cap) L.length (nvs x.2)) (fun x => x.1 ≤ L.length ∧ x.2.length = L.length ∧ L.take x.1 = M.take x.1 ∧ x.2.drop x.1 = L.drop x.1) (fun x => L.length - x.1) (0, L) agreed ⟨Nat.zero_le _, rfl, rfl, rfl⟩ ?_
    rintro ⟨j, ys⟩ f ⟨hj, hyl, hpre, hdr⟩
    simp only at hj hyl hpre hdr
    simp only [putAll]
    by_cases hlt : j < L.length
    · have hjm : j < M.length := by omega
      have hjy : j < ys.length := by omega
      have hy : ys[j]'hjy = L[j] := by
        have h1 : (ys.drop j)[0]? = (L.drop j)[0]? := by rw [hdr]
        rw [List.getElem?_drop, List.getElem?_drop, Nat.add_zero, List.getElem?_eq_getElem (by omega), List.getElem?_eq_getElem hlt] at h1
        exact Option.some.inj h1
      obtain ⟨b2, o2, rfl, hcl2⟩ := Rd.addr5 hl2 ha2 (show 0 < M.length by omega)
      have hcells2 := nvs_cells hcl2 hjm
      refine WP.open (by omega) ?_
      rintro bo sp rfl hsp
      have hcells : Cells B (blk bo (nvs ys ++ sp) 31) bo (0 + j * 5) (nv L[j]) := by
        refine Cells.blk fun q w hq => ?_
        have hq5 : q < 5 := (List.getElem?_eq_some_iff.1 hq).1
        rw [List.getElem?_append_left (by rw [nvs_len]; omega), Nat.zero_add, nvs_at (by omega) hq5, hy]
        exact hq
      refine walk ?_
      (refine wp_draw [4] (.look 0 (.look 1 (.look 2 (.look 3 (.look 5 (.look 6 (.look 7 (.look 8 (.act 4 (.look 9 .nil) .stop))))))))) (by kernel_rfl) ?_; (apply dw_pure; (· exact rfl); (· exact rfl); (· (intro G; exact looked))); (apply dw_pure; (· exact rfl); (· exact rfl); (· (intro G; exact looked))); (apply dw_pure; (· exact rfl); (· exact rfl); (· (intro G; exact looked))); (apply dw_look; (· exact rfl); (· exact rfl); (· (exact looked))); (apply dw_pure; (· exact rfl); (· exact rfl); (· (intro G; exact looked))); (apply dw_pure; (· exact rfl); (· exact rfl); (· (intro G; exact looked))); (apply dw_pure; (· exact rfl); (· exact rfl); (· (intro G; exact looked))); (apply dw_look; (· exact rfl); (· exact rfl); (· (exact looked))); skip)
      refine dw_do rfl rfl ?_ dw_stop
      refine s_call rfl (dNote (n := L[j])) rfl ?_
      rintro _ _ ⟨e_, rfl⟩
      obtain rfl := e_.symm
      refine wpl_nil (qone ⟨(by (refine st_again ?_ ?_; (· exact looked)); refine st_past (by kernel_rfl) ?_; exact st_nil), ?_⟩)
      ((apply dw_pure; (· exact rfl); (· exact rfl); (· (intro G; (refine s_neqF (ntSc L[j]) (ntSc (M[j]'hjm)) (b := !decide (L[j] = M[j]'hjm)) rfl rfl rfl rfl (by congr 1; exact decide_eq_decide.2 (ntSc_eq _ _)) rfl ?_); exact looked))); refine dw_nil ?_; skip)
      by_cases he : L[j] = M[j]'hjm
      · rw [decide_eq_true he]
        refine walk ?_
        refine s_store (v := .int .i64 77) (cs' := nvs (ys.set j (setL (ys[j]'hjy) 103 77)) ++ sp) rfl rfl rfl (by rw [List.length_append, nvs_len]; omega) ?_ ?_
        · rw [Nat.zero_add]
          exact nvs_set (c := 103) (show j < ys.length by omega) (.inl rfl)
        refine walk ?_
        refine ⟨(j + 1, ys.set j (setL (ys[j]'hjy) 103 77)), asided, agreed, ?_, ⟨hlt, by simp [hyl], ?_, ?_⟩, by simp only; omega⟩
        · refine Ent.step (A := blk bo (nvs (ys.set j (setL (ys[j]'hjy) 103 77)) ++ sp) 31) (Mine.of_blk (sz := 5) (spare := sp) rfl (by rw [nvs_len, List.length_set]; omega) hc hm ?_) (Ent.refl _)
          rw [List.length_append, nvs_len, List.length_set]
          rw [List.length_append, nvs_len] at hsp
          exact hsp
        · rw [take_push hlt, take_push hjm, hpre, he]
        · rw [List.drop_set_of_lt (by omega), ← List.drop_drop, hdr, List.drop_drop]
      · rw [decide_eq_false he]
        refine walk ?_
        (first | (apply retRD1 (G := F) (.inr rfl) rfl; (· first | (refine rv_tmp (v := .bool _) rfl) | exact rv_tmp rfl); (· exact Ent.auto)) | (apply retRD1 (G := F) (.inl rfl) rfl; (· first | (refine rv_tmp (v := .bool _) rfl) | exact rv_tmp rfl); (· exact Ent.auto)))
        exact ⟨Ent.refl _, by rw [decide_eq_false fun e => he (by subst e; rfl)]⟩
    · have heq : L = M := by
        rw [List.take_of_length_le (by omega), List.take_of_length_le (by omega)] at hpre
        exact hpre
      refine walk ?_
      (first | (apply retRD1 (G := F) (.inr rfl) rfl; (· first | (refine rv_tmp (v := .bool _) rfl) | exact rv_tmp rfl); (· exact Ent.auto)) | (apply retRD1 (G := F) (.inl rfl) rfl; (· first | (refine rv_tmp (v := .bool _) rfl) | exact rv_tmp rfl); (· exact Ent.auto)))
      exact ⟨Ent.refl _, by rw [decide_eq_true heq]⟩
  · refine walk ?_
    (first | (apply retRD1 (G := F) (.inr rfl) rfl; (· first | (refine rv_tmp (v := .bool _) rfl) | exact rv_tmp rfl); (· exact Ent.auto)) | (apply retRD1 (G := F) (.inl rfl) rfl; (· first | (refine rv_tmp (v := .bool _) rfl) | exact rv_tmp rfl); (· exact Ent.auto)))
    exact ⟨Ent.refl _, by rw [decide_eq_false fun e => hlen (by rw [e])]⟩
theorem cloneN {m : Nat} {cs : List Value} (hs : Rd B H 5 s m cs) (h1 : cs.all Value.oneCell' = true) (hb : m ≤ 1000000000) :
    Does Tryz.prog B 47 [s] H (fun r H' => H' = Mine 31 5 r m cs + H) := by
  have hs' := hs
  unfold Rd at hs
  obtain ⟨ao, cap, rfl, hl, hm, hc⟩ := hs
  refine fn_intro 8 Tryz.func47 rfl rfl rfl ?_
  cases ao with
  | none =>
    have : cs = [] := by
      rcases hc with h | ⟨b, o, h, _⟩
      · exact h
      · cases h
    subst this
    have : m = 0 := by simp at hl; omega
    subst this
    refine walk ?_
    refine s_eqnilS rfl rfl (b := true) rfl rfl ?_
    refine walk ?_
    refine ret1 (v := .slice none 0 0) (.inr rfl) rfl rfl ?_
    rw [Mine.nil, HProp.emp_add]
  | some a =>
    refine walk ?_
    refine s_eqnilS rfl rfl (b := false) rfl rfl ?_
    refine walk ?_
    refine s_buildRows [] rfl rfl rfl rfl rfl rfl ?_
    intro b
    refine walk ?_
    refine WPL.ent ((Mine.of_blk (sz := 5) (n := 0) (cap := 0) (cs := []) (spare := []) rfl rfl (Nat.le_refl _) (by simp [maxLen]) rfl).frame_right _) ?_
    refine s_append (v := .slice _ _ _) rfl rfl hs' h1 rfl ?_ rfl ?_
    · simp only [maxLen]; omega
    intro v'
    simp only [Nat.zero_add, List.nil_append]
    refine walk ?_
    exact ret1 (.inr rfl) rfl rfl rfl
end
end Go.Proofs.YtofgpppnknpblaaGreatDoor
