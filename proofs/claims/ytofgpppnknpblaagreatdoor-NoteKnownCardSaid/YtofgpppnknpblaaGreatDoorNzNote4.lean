/- Notes told, and made. No condition. -/
import Derived.Test.YtofgpppnknpblaaGreatDoorNzNote3
namespace Go.Proofs.YtofgpppnknpblaaGreatDoor
open Go Go.SL
set_option linter.unusedSimpArgs false
set_option linter.unusedVariables false
set_option maxRecDepth 10000
set_option maxHeartbeats 2000000
theorem hasOf_nat (i : Nat) : hasOf (i : Int) = hasK i := by unfold hasOf; rw [if_pos (by omega)]; rfl
/-- What numbers make of a kind, letter by letter. -/
def fillJ (k : Int) (L : List UInt8) (l : List Int) (j : Nat) : Nt := ((L.zip l).take j).foldl (fun n x => setL n x.1 x.2) ⟨k, -1, -1, -1, -1⟩
theorem fill_next {k : Int} {L : List UInt8} {l : List Int} {j : Nat} (h1 : j < L.length) (h2 : j < l.length) : fillJ k L l (j + 1) = setL (fillJ k L l j) L[j] l[j] := by
  unfold fillJ
  rw [take_push (by rw [List.length_zip]; omega), List.foldl_append]
  simp
theorem setL_kind (n : Nt) (c : UInt8) (v : Int) : (setL n c v).kind = n.kind := by
  unfold setL
  split
  · rfl
  split
  · rfl
  split <;> rfl
theorem fill_kind (k : Int) (L : List UInt8) (l : List Int) : ∀ j, j ≤ L.length → j ≤ l.length → (fillJ k L l j).kind = k
  | 0, _, _ => rfl
  | j + 1, h1, h2 => by rw [fill_next (by omega) (by omega), setL_kind, fill_kind k L l j (by omega) (by omega)]
def fillN (k : Int) (l : List Int) : Nt := fillJ k (hasOf k) l (hasOf k).length
def newN (k : Int) (l : List Int) : Nt × Int := if l.length = (hasOf k).length ∧ RightN (fillN k l) then (fillN k l, 0) else (zeroN, 260)
theorem new_none {k : Int} {l : List Int} (h : hasOf k = []) : newN k l = (zeroN, 260) := by
  unfold newN
  rw [if_neg]
  rintro ⟨_, hr⟩
  refine hr.1 ?_
  unfold fillN
  rw [fill_kind k _ _ _ (Nat.le_refl _) (by rw [h]; simp), h]
attribute [local irreducible] WP WPL QSeq QBlk QRet Does Cell Cells Rd Mine Ent Aside RV Yield IterAt
section
variable {B : World} {F H G : HProp} {n : Nt} {k v : Int} {c : UInt8} {b : Nat}
theorem nText (T : Tab B) (hn : nsOk n) : Does Tryz.prog B 21 [noteV n] H fun r H' => H' = H ∧ r = str (textN n) := by
  refine Does.frame0 ?_
  refine fn_intro 39 Tryz.func21 rfl rfl rfl ?_
  refine walk ?_
  refine s_box (cs := nv n) rfl rfl rfl ?_
  intro b
  refine walk ?_
  refine s_call rfl (nRight) rfl ?_
  rintro _ _ ⟨e_, rfl⟩
  obtain rfl := e_.symm
  refine walk ?_
  unfold textN
  by_cases hR : RightN n
  · have hk := hasOf_kind hR.1
    obtain ⟨i, hi⟩ := Int.eq_ofNat_of_zero_le (show 0 ≤ n.kind by omega)
    have hi1 : 1 ≤ i := by omega
    have hi2 : i < 17 := by omega
    have hw := word_len i hi2
    have hlen := has_len i hi2
    have e : hasOf n.kind = hasK i := by rw [hi, hasOf_nat]
    have hget := fun c (hc : c ∈ hasK i) => right_get hR (e ▸ hc)
    rw [decide_eq_true hR, if_pos hR, e, show n.kind.toNat = i by omega]
    have hjl := outN_len hn (wordK i) (hasK i)
    rw [← outN_join] at hjl
    refine walk ?_
    rw [hi]
    refine s_call rfl (of_spec hi1 hi2) rfl ?_
    rintro _ _ ⟨e_, rfl⟩
    obtain rfl := e_.symm
    refine walk ?_
    refine s_alloc rfl ?_
    intro b3
    refine walk ?_
    refine s_storeV (vs := formC i) rfl rfl rfl rfl rfl ?_
    refine walk ?_
    refine s_buildInts (cs := ss [wordK i]) rfl rfl rfl rfl rfl ?_
    intro b5
    refine walk ?_
    refine s_rangeS (l := hasK i) rfl rfl ?_
    intro b22
    refine walk ?_
    refine wp_loopF (α := Nat × Value) [5, 7, 23, 24, 25, 26, 27, 28, 29, 30, 31, 32, 33, 34, 35, 36] (fun x => [(5, x.2)]) (fun x => IterAt b22 (hasK i, x.1) + (Mine 9 1 x.2 (x.1 + 1) (ss (wordK i :: ((hasK i).take x.1).map (tok n))) + (blk b3 (formC i) 69 + (blk b (nv n) 31 + H)))) (fun x => x.1 ≤ (hasK i).length) (fun x => (hasK i).length - x.1) (0, .slice (some ⟨b5, 0, none⟩) 1 1) agreed ?_ (Nat.zero_le _) ?_
    · refine Ent.trans (Q := blk b5 (ss [wordK i]) 9 + (IterAt b22 (hasK i, 0) + (blk b3 (formC i) 69 + (blk b (nv n) 31 + H)))) Ent.auto ?_
      refine Ent.trans ((Mine.of_blk (sz := 1) (n := 1) (cap := 1) (cs := ss [wordK i]) (spare := []) (by rw [List.append_nil]) rfl (Nat.le_refl _) (by simp [maxLen]) rfl).frame_right _) ?_
      exact Ent.auto
    rintro ⟨j, vl⟩ f hj
    simp only at hj
    simp only [putAll]
    by_cases hlt : j < (hasK i).length
    · have hmem := List.getElem_mem hlt
      have hc := has_letters i hi2 _ hmem
      have hc128 : (hasK i)[j].toNat < 128 := by rcases hc with h | h | h | h <;> rw [h] <;> decide
      have hgt : (hasK i)[j]? = some (hasK i)[j] := List.getElem?_eq_getElem hlt
      have htk := take_push hlt
      have hge := hget _ hmem
      have hbig := hn (hasK i)[j]
      generalize (hasK i)[j] = c at *
      obtain ⟨u, hu⟩ := Int.eq_ofNat_of_zero_le hge
      have hcell : Cell B (blk b (nv n) 31) b (placeL c) (.int .i64 (u : Nat)) := Cell.blk (by rw [nv_at hc, hu])
      have hd := dg_len (n := u) (by omega)
      refine walk ?_
      refine s_nextC rfl hgt hc128 rfl ?_
      refine walk ?_
      refine s_runeS rfl hc128 rfl ?_
      refine walk ?_
      refine s_call rfl (place_spec (b := b) hc) rfl ?_
      rintro _ _ ⟨e_, rfl⟩
      obtain rfl := e_.symm
      refine walk ?_
      refine s_call rfl (itoaT T (n := u) (by omega)) rfl ?_
      rintro _ _ ⟨e_, rfl⟩
      obtain rfl := e_.symm
      refine walk ?_
      refine s_concat (l := [c]) rfl rfl (by simp only [List.length_cons, List.length_nil]; omega) rfl rfl ?_
      refine walk ?_
      refine s_buildInts (cs := [str ([c] ++ dg u)]) rfl rfl rfl rfl rfl ?_
      intro b35
      refine s_append (v := vl) rfl rfl (Rd.blk0 (m := 1) (e := 9) rfl (by simp [maxLen])) rfl rfl ?_ rfl ?_
      · simp only [maxLen]; omega
      intro vl'
      refine walk ?_
      refine ⟨(j + 1, vl'), asided, agreed, ?_, hlt, by simp only; omega⟩
      have e2 : ss (wordK i :: ((hasK i).take (j + 1)).map (tok n)) = ss (wordK i :: ((hasK i).take j).map (tok n)) ++ [str ([c] ++ dg u)] := by
        rw [htk, List.map_append, ← List.cons_append, ss_append]
        simp [ss, tok, hu]
      simp only [e2]
      exact Ent.auto
    · obtain rfl : j = (hasK i).length := by omega
      rw [List.take_length]
      refine WP.split (Mine 9 1 vl ((hasK i).length + 1) (ss (wordK i :: (hasK i).map (tok n)))) ?_
      refine WP.shape ?_
      rintro av cap rfl _ hcap _
      refine WP.open (by omega) ?_
      rintro g9 sp rfl _
      have hc9 : Cells B (blk g9 (ss (wordK i :: (hasK i).map (tok n)) ++ sp) 9) g9 0 (ss (wordK i :: (hasK i).map (tok n))) := by
        refine Cells.blk ?_
        intro j v h
        rw [Nat.zero_add, List.getElem?_append_left (List.getElem?_eq_some_iff.1 h).1]
        exact h
      have hll : (wordK i :: (hasK i).map (tok n)).length = (hasK i).length + 1 := by simp
      have hjs := joinS (B := B) (H := blk g9 (ss (wordK i :: (hasK i).map (tok n)) ++ sp) 9 + (IterAt b22 (hasK i, (hasK i).length) + (blk b3 (formC i) 69 + (blk b (nv n) 31 + H)))) (cap := cap) (sep := [32]) (hc9.ent InH.ent) (by omega) (by omega) (by omega) (by omega)
      rw [hll] at hjs
      refine walk ?_
      refine s_nextE rfl hlt rfl ?_
      refine walk ?_
      refine s_call rfl (hjs) rfl ?_
      rintro _ _ ⟨e_, rfl⟩
      obtain rfl := e_.symm
      refine walk ?_
      (first | (apply retRD1 (G := H) (.inr rfl) rfl; (· first | (refine rv_tmp (v := .string _) rfl) | exact rv_tmp rfl); (· exact Ent.auto)) | (apply retRD1 (G := H) (.inl rfl) rfl; (· first | (refine rv_tmp (v := .string _) rfl) | exact rv_tmp rfl); (· exact Ent.auto)))
      exact ⟨Ent.refl _, rfl⟩
  · rw [decide_eq_false hR, if_neg hR]
    refine walk ?_
    (first | (apply retRD1 (G := H) (.inr rfl) rfl; (· first | (refine rv_tmp (v := .string _) rfl) | exact rv_tmp rfl); (· exact Ent.auto)) | (apply retRD1 (G := H) (.inl rfl) rfl; (· first | (refine rv_tmp (v := .string _) rfl) | exact rv_tmp rfl); (· exact Ent.auto)))
    exact ⟨Ent.refl _, rfl⟩
theorem rWords : Does Tryz.prog B 16 [] H fun r H' => ∃ b, H' = blk b (ss wordT) 9 + H ∧ r = .slice (some ⟨b, 0, none⟩) 17 17 := by
  refine fn_intro 2 Tryz.func16 rfl rfl rfl ?_
  refine walk ?_
  refine s_buildInts (cs := ss wordT) rfl rfl rfl rfl rfl ?_
  intro b
  refine walk ?_
  (first | refine ret1 (v := .slice _ _ _) (.inr rfl) rfl rfl ?_ | refine ret1  (.inr rfl) rfl rfl ?_ | refine ret1 (v := .slice _ _ _) (.inl rfl) rfl rfl ?_ | refine ret1  (.inl rfl) rfl rfl ?_)
  exact ⟨b, rfl, rfl⟩
theorem rText (hn : nsOk n) : Does Tryz.prog B 6 [noteV n] H fun r H' => H' = H ∧ r = str (textN n) := by
  refine Does.frame0 ?_
  refine fn_intro 40 Tryz.func6 rfl rfl rfl ?_
  refine walk ?_
  refine s_box (cs := nv n) rfl rfl rfl ?_
  intro b
  refine walk ?_
  refine s_call rfl (rRight) rfl ?_
  rintro _ _ ⟨e_, rfl⟩
  obtain rfl := e_.symm
  refine walk ?_
  unfold textN
  by_cases hR : RightN n
  · have hk := hasOf_kind hR.1
    obtain ⟨i, hi⟩ := Int.eq_ofNat_of_zero_le (show 0 ≤ n.kind by omega)
    have hi1 : 1 ≤ i := by omega
    have hi2 : i < 17 := by omega
    have hw := word_len i hi2
    have hlen := has_len i hi2
    have e : hasOf n.kind = hasK i := by rw [hi, hasOf_nat]
    have hget := fun c (hc : c ∈ hasK i) => right_get hR (e ▸ hc)
    rw [decide_eq_true hR, if_pos hR, e, show n.kind.toNat = i by omega, outN_join]
    refine walk ?_
    (refine wp_draw [0] (.look 1 (.look 2 (.act 0 (.look 3 (.look 4 (.look 5 .nil))) .stop))) (by kernel_rfl) ?_; (apply dw_pure; (· exact rfl); (· exact rfl); (· (intro G; exact looked))); (apply dw_look; (· exact rfl); (· exact rfl); (· (exact looked))); skip)
    refine dw_do rfl rfl ?_ dw_stop
    refine s_call rfl rWords rfl ?_
    rintro _ _ ⟨bw, rfl, rfl⟩
    have hcw : Cell B (blk bw (ss wordT) 9) bw i (str (wordK i)) := Cell.blk (by rw [ss_get _ _ (by show i < 17; exact hi2)]; unfold wordK; rw [List.getD_eq_getElem?_getD, List.getElem?_eq_getElem (by show i < 17; exact hi2)]; rfl)
    refine wpl_nil (qone ⟨(by (refine st_again ?_ ?_; (· exact looked)); exact st_nil), ?_⟩)
    ((apply dw_pure; (· exact rfl); (· exact rfl); (· (intro G; (apply s_indexAddr (j := i) (o' := i); (· exact rfl); (· exact rfl); (· omega); (· omega); (· omega); (· exact rfl)); exact looked))); (apply dw_look; (· exact rfl); (· exact rfl); (· (exact looked))); (apply dw_pure; (· exact rfl); (· exact rfl); (· (intro G; exact looked))); refine dw_nil ?_; skip)
    refine walk ?_
    refine s_call rfl (rHas (k := n.kind)) rfl ?_
    rintro _ _ ⟨e_, rfl⟩
    obtain rfl := e_.symm
    refine walk ?_
    rw [e]
    refine wp_loopR (α := Nat) [3, 5, 17, 18, 19, 20, 21, 22, 23, 24, 25, 26, 27, 28, 29, 30, 31, 32, 33, 34, 35, 36, 37, 38] (fun j => [(3, str (outN n (wordK i) ((hasK i).take j))), (5, .int .i64 (j : Nat))]) (fun j => j ≤ (hasK i).length) (fun j => (hasK i).length - j) 0 ⟨by rw [List.take_zero, outN_nil]; rfl, rfl, trivial⟩ (Nat.zero_le _) ?_
    rintro j f hj
    simp only [putAll]
    have hol := outN_len hn (wordK i) ((hasK i).take j)
    rw [List.length_take] at hol
    refine walk ?_
    refine s_slen rfl rfl ?_
    by_cases hlt : j < (hasK i).length
    · have hmem := List.getElem_mem hlt
      have hc := has_letters i hi2 _ hmem
      have htk := take_push hlt
      have hge := hget _ hmem
      have hbig := hn (hasK i)[j]
      have hsl : ((hasK i).take (j + 1)).drop j = [(hasK i)[j]] := by
        rw [htk, List.drop_append_of_le_length (by rw [List.length_take]; omega), List.drop_of_length_le (by rw [List.length_take]; omega)]; rfl
      have hcc : ∃ c, (hasK i)[j] = c := ⟨_, rfl⟩
      obtain ⟨c, hcc⟩ := hcc
      rw [hcc] at hc htk hge hbig hsl
      obtain ⟨u, hu⟩ := Int.eq_ofNat_of_zero_le hge
      have hd := dg_len (n := u) (by omega)
      refine walk ?_
      (refine wp_draw [12, 14] (.look 0 (.look 1 (.look 2 (.look 3 (.look 4 (.look 5 (.look 6 (.look 7 (.look 8 (.look 9 (.look 10 (.look 11 (.act 12 (.look 13 (.act 14 (.look 15 (.look 16 .nil)) .stop)) .stop))))))))))))) (by kernel_rfl) ?_; (apply dw_pure; (· exact rfl); (· exact rfl); (· (intro G; exact looked))); (apply dw_pure; (· exact rfl); (· exact rfl); (· (intro G; (refine s_concat (m := [32]) rfl rfl (by simp only [List.length_cons, List.length_nil]; omega) rfl rfl ?_); exact looked))); (apply dw_pure; (· exact rfl); (· exact rfl); (· (intro G; exact looked))); (apply dw_pure; (· exact rfl); (· exact rfl); (· (intro G; exact looked))); (apply dw_pure; (· exact rfl); (· exact rfl); (· (intro G; exact looked))); (apply dw_pure; (· exact rfl); (· exact rfl); (· (intro G; exact looked))); (apply dw_pure; (· exact rfl); (· exact rfl); (· (intro G; (refine s_sslice (l := hasK i) (a := j) (b := j + 1) rfl ⟨.i64, rfl⟩ ⟨.i64, rfl⟩ (by omega) (by omega) hsl rfl ?_); exact looked))); (apply dw_pure; (· exact rfl); (· exact rfl); (· (intro G; (refine s_concat (m := [c]) rfl rfl (by simp only [List.length_append, List.length_cons, List.length_nil]; omega) rfl rfl ?_); exact looked))); (apply dw_look; (· exact rfl); (· exact rfl); (· (exact looked))); (apply dw_pure; (· exact rfl); (· exact rfl); (· (intro G; exact looked))); (apply dw_pure; (· exact rfl); (· exact rfl); (· (intro G; exact looked))); (apply dw_pure; (· exact rfl); (· exact rfl); (· (intro G; (refine s_sindex (j := j) rfl rfl rfl hlt rfl ?_); exact looked))); skip)
      refine dw_do rfl rfl ?_ dw_stop
      rw [hcc]
      refine s_call rfl (rnumber (n := n) hc) rfl ?_
      rintro _ _ ⟨e_, rfl⟩
      obtain rfl := e_.symm
      rw [hu]
      refine wpl_nil (qone ⟨(by refine st_past (by kernel_rfl) ?_; exact st_nil), ?_⟩)
      ((apply dw_pure; (· exact rfl); (· exact rfl); (· (intro G; exact looked))); skip)
      refine dw_do rfl rfl ?_ dw_stop
      refine s_call rfl (digitsU (n := u) (by omega)) rfl ?_
      rintro _ _ ⟨e_, rfl⟩
      obtain rfl := e_.symm
      refine wpl_nil (qone ⟨(by refine st_past (by kernel_rfl) ?_; exact st_nil), ?_⟩)
      ((apply dw_pure; (· exact rfl); (· exact rfl); (· (intro G; (refine s_concat rfl rfl (by simp only [List.length_append, List.length_cons, List.length_nil]; omega) rfl rfl ?_); exact looked))); (apply dw_pure; (· exact rfl); (· exact rfl); (· (intro G; exact looked))); refine dw_nil ?_; skip)
      refine walk ?_
      refine ⟨j + 1, asided, ?_, Ent.refl _, hlt, by omega⟩
      rw [htk, outN_push, hu]
      exact agreed
    · obtain rfl : j = (hasK i).length := by omega
      rw [List.take_length]
      refine walk ?_
      (first | (apply retRD1 (G := H) (.inr rfl) rfl; (· first | (refine rv_tmp (v := .string _) rfl) | exact rv_tmp rfl); (· exact Ent.auto)) | (apply retRD1 (G := H) (.inl rfl) rfl; (· first | (refine rv_tmp (v := .string _) rfl) | exact rv_tmp rfl); (· exact Ent.auto)))
      exact ⟨Ent.refl _, rfl⟩
  · rw [decide_eq_false hR, if_neg hR]
    refine walk ?_
    (first | (apply retRD1 (G := H) (.inr rfl) rfl; (· first | (refine rv_tmp (v := .string _) rfl) | exact rv_tmp rfl); (· exact Ent.auto)) | (apply retRD1 (G := H) (.inl rfl) rfl; (· first | (refine rv_tmp (v := .string _) rfl) | exact rv_tmp rfl); (· exact Ent.auto)))
    exact ⟨Ent.refl _, rfl⟩
end
end Go.Proofs.YtofgpppnknpblaaGreatDoor
