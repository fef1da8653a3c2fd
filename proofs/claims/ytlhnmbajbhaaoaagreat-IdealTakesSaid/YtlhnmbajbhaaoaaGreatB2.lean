/- A line of numbers: one comes. No condition. -/
import Derived.Test.YtlhnmbajbhaaoaaGreatSL2
import Derived.Test.YtlhnmbajbhaaoaaGreatB1
import Derived.Test.YtlhnmbajbhaaoaaGreatSL3
namespace Go.Proofs.YtlhnmbajbhaaoaaGreat
open Go Go.SL
set_option linter.unusedSimpArgs false
set_option linter.unusedVariables false
set_option maxRecDepth 10000
set_option maxHeartbeats 1000000
attribute [local irreducible] WP WPL QSeq QBlk QRet Does Cell Cells Rd Mine Ent Aside RV Yield
section
variable {B : World} {F H G : HProp} {p o e : Nat} {L : List Int} {y h t : Int} {s : Value} {x : MapO} {A Z : List Value}
theorem LnIn.under (h : LnIn B H p o L) : LnIn B (G + H) p o L := by
  obtain ⟨x, h, t, c0, c1, c2, hf, F, rfl⟩ := h
  exact ⟨x, h, t, c0.ent Ent.auto, c1.ent Ent.auto, c2.ent Ent.auto, hf, G + F, by ac_rfl⟩
theorem lnIn0 (hf : LnF x h t L) : LnIn B (blk p (A ++ mapV x :: .int .i64 h :: .int .i64 t :: Z) e + (mapH x + F)) p A.length L :=
  ⟨x, h, t, mid0, mid1, mid2, hf, blk p (A ++ mapV x :: .int .i64 h :: .int .i64 t :: Z) e + F, by ac_rfl⟩
theorem lnFits (hl : LnIn B H p o L) (hy : y ∉ L) (hs : Rd B H 1 s 1 [.int .i64 y]) : Does Tryz.prog B 119 [.pointer (some ⟨p, o, none⟩), s] H fun r H' => H' = H ∧ r = .bool true := by
  unfold Rd at hs
  obtain ⟨ao, cap, rfl, hsl, hsm, ha⟩ := hs
  obtain ⟨bl, ol, rfl, hcl⟩ := Rd.addr hsl ha (k := 0) (by simp)
  refine fn_intro 33 Tryz.func119 rfl rfl rfl ?_
  refine walk ?_
  refine s_makeMap rfl ?_
  intro bs
  refine walk ?_
  refine wp_loopF (α := Nat × Assoc) [4, 7, 8, 9, 13, 14, 15, 16, 17, 18, 19, 20, 21, 22, 23, 24, 25, 26, 27, 28, 29, 30, 31, 32] (fun k => [(13, .int .i64 (k.1 : Nat))]) (fun k => MapAt bs k.2 + H) (fun k => k.1 ≤ 1 ∧ (k.1 = 0 → k.2 = [])) (fun k => 1 - k.1) (0, []) agreed (Ent.refl _) ⟨by omega, fun _ => rfl⟩ ?_
  rintro ⟨k, m⟩ g ⟨hk, hm⟩
  simp only [putAll] at hk hm ⊢
  by_cases hlt : k < 1
  · have h0 : k = 0 := by omega
    subst h0
    have := hm rfl
    subst this
    refine walk ?_
    have hcl0 : Cell B H bl ol (.int .i64 y) := hcl.cell (j := 0) rfl
    refine s_load rfl (hcl0.ent Ent.auto) rfl ?_
    refine walk ?_
    refine s_mget2 (v := lk 0 0 false false) (bo := false) rfl rfl rfl rfl rfl ?_
    refine walk ?_
    refine walkG ?_
    repeat ((first | (show WPL _ _ _ _ _ (⟨_, .load _ _, _, _, _, none⟩ :: _) _ _ _; first | refine s_load (v := .int _ _) rfl mid1 rfl ?_ | refine s_load (v := .int _ _) rfl mid2 rfl ?_ | refine s_load (v := .map _) rfl mid0 rfl ?_) | (show WPL _ _ _ _ _ (⟨_, .alloc _, _, _, _, none⟩ :: _) _ _ _; refine s_alloc rfl ?_; intro _)); refine walkG ?_)
    skip
    refine s_call rfl (lnHas (y := y) hl.under.under) rfl ?_
    rintro _ _ ⟨rfl, rfl⟩
    rw [decide_eq_false hy]
    refine walk ?_
    (refine s_build (cs := [.int .i64 0, .int .i64 0, .bool false, .bool false]) ?_ rfl ?_; (· kernel_rfl))
    refine s_mset (v := lk 0 0 false false) (k := y) rfl rfl rfl ?_
    refine walk ?_
    exact ⟨(1, mset [] y (lk 0 0 false false)), asided, agreed, Ent.auto, ⟨by omega, by omega⟩, by simp⟩
  · have h1 : k = 1 := by omega
    subst h1
    refine walk ?_
    (first | (apply retRD1 (G := H) (.inr rfl) rfl; (· first | (refine rv_tmp (v := .bool _) rfl) | exact rv_tmp rfl); (· exact Ent.auto)) | (apply retRD1 (G := H) (.inl rfl) rfl; (· first | (refine rv_tmp (v := .bool _) rfl) | exact rv_tmp rfl); (· exact Ent.auto)))
    exact ⟨rfl, rfl⟩
theorem lnPush (hf : LnF x h t L) (hy : y ∉ L) (hs : Rd B F 1 s 1 [.int .i64 y]) :
    Does Tryz.prog B 105 [.pointer (some ⟨p, A.length, none⟩), s] (blk p (A ++ mapV x :: .int .i64 h :: .int .i64 t :: Z) e + (mapH x + F)) fun r H' =>
      ∃ b m h' t', r = .int .i64 0 ∧ LinkF (L ++ [y]) m h' t' ∧ H' = blk p (A ++ .map (some b) :: .int .i64 h' :: .int .i64 t' :: Z) e + (MapAt b m + F) := by
  have hs0 : Rd B (blk p (A ++ mapV x :: .int .i64 h :: .int .i64 t :: Z) e + (mapH x + F)) 1 s 1 [.int .i64 y] := hs.ent Ent.auto
  have hs1 := hs
  unfold Rd at hs1
  obtain ⟨ao, cap, rfl, hsl, hsm, ha⟩ := hs1
  obtain ⟨bl, ol, rfl, hcl⟩ := Rd.addr hsl ha (k := 0) (by simp)
  have hcl0 : Cell B F bl ol (.int .i64 y) := hcl.cell (j := 0) rfl
  refine fn_intro 83 Tryz.func105 rfl rfl rfl ?_
  refine walk ?_
  refine s_call rfl (lnFits (lnIn0 hf) hy hs0) rfl ?_
  rintro _ _ ⟨e_, rfl⟩
  obtain rfl := e_.symm
  refine walk ?_
  cases x with
  | none =>
    have hL0 : L = [] := hf
    have hf : LinkF L [] h t := hL0 ▸ LinkF.nil h t
    clear hL0
    simp only [mapV, mapH, HProp.emp_add]
    refine walkG ?_
    repeat ((first | (show WPL _ _ _ _ _ (⟨_, .load _ _, _, _, _, none⟩ :: _) _ _ _; first | refine s_load (v := .int _ _) rfl mid1 rfl ?_ | refine s_load (v := .int _ _) rfl mid2 rfl ?_ | refine s_load (v := .map _) rfl mid0 rfl ?_) | (show WPL _ _ _ _ _ (⟨_, .alloc _, _, _, _, none⟩ :: _) _ _ _; refine s_alloc rfl ?_; intro _)); refine walkG ?_)
    refine s_eqnilM (b := true) rfl rfl rfl rfl ?_
    refine walkG ?_
    repeat ((first | (show WPL _ _ _ _ _ (⟨_, .load _ _, _, _, _, none⟩ :: _) _ _ _; first | refine s_load (v := .int _ _) rfl mid1 rfl ?_ | refine s_load (v := .int _ _) rfl mid2 rfl ?_ | refine s_load (v := .map _) rfl mid0 rfl ?_) | (show WPL _ _ _ _ _ (⟨_, .alloc _, _, _, _, none⟩ :: _) _ _ _; refine s_alloc rfl ?_; intro _)); refine walkG ?_)
    refine s_makeMap rfl ?_
    intro b
    refine walkG ?_
    repeat ((first | (show WPL _ _ _ _ _ (⟨_, .load _ _, _, _, _, none⟩ :: _) _ _ _; first | refine s_load (v := .int _ _) rfl mid1 rfl ?_ | refine s_load (v := .int _ _) rfl mid2 rfl ?_ | refine s_load (v := .map _) rfl mid0 rfl ?_) | (show WPL _ _ _ _ _ (⟨_, .alloc _, _, _, _, none⟩ :: _) _ _ _; refine s_alloc rfl ?_; intro _)); refine walkG ?_)
    refine s_storeM0 (v := .map (some b)) rfl rfl rfl ?_
    generalize ([] : Assoc) = m at hf ⊢
    refine walkG ?_
    repeat ((first | (show WPL _ _ _ _ _ (⟨_, .load _ _, _, _, _, none⟩ :: _) _ _ _; first | refine s_load (v := .int _ _) rfl mid1 rfl ?_ | refine s_load (v := .int _ _) rfl mid2 rfl ?_ | refine s_load (v := .map _) rfl mid0 rfl ?_) | (show WPL _ _ _ _ _ (⟨_, .alloc _, _, _, _, none⟩ :: _) _ _ _; refine s_alloc rfl ?_; intro _)); refine walkG ?_)
    refine wp_loopF (α := Option (Assoc × Int × Int)) [6, 7, 8, 28, 29, 30, 31, 32, 33, 34, 35, 36, 37, 38, 39, 40, 41, 42, 43, 44, 45, 46, 47, 48, 49, 50, 51, 52, 53, 54, 55, 56, 57, 58, 59, 60, 61, 62, 63, 64, 65, 66, 67, 68, 69, 70, 71, 72, 73, 74, 75, 76, 77, 78, 79, 80, 81, 82] (fun k => match k with | none => [(28, .int .i64 ((0 : Nat) : Int))] | some _ => [(28, .int .i64 ((1 : Nat) : Int))]) (fun k => match k with | none => blk p (A ++ .map (some b) :: .int .i64 h :: .int .i64 t :: Z) e + (MapAt b m + F) | some w => blk p (A ++ .map (some b) :: .int .i64 w.2.1 :: .int .i64 w.2.2 :: Z) e + (MapAt b w.1 + F)) (fun k => ∀ w, k = some w → LinkF (L ++ [y]) w.1 w.2.1 w.2.2) (fun k => if k.isNone then 1 else 0) none agreed (Ent.refl _) (by simp) ?_
    rintro (_ | ⟨m', h', t'⟩) g hk
    · simp only [putAll]
      clear hk
      have hmy : mget m y = none := by
        have := hf.there (x := y)
        rw [decide_eq_false hy] at this
        cases hm : mget m y with
        | none => rfl
        | some v => rw [hm] at this; simp at this
      refine walkG ?_
      repeat ((first | (show WPL _ _ _ _ _ (⟨_, .load _ _, _, _, _, none⟩ :: _) _ _ _; first | refine s_load (v := .int _ _) rfl mid1 rfl ?_ | refine s_load (v := .int _ _) rfl mid2 rfl ?_ | refine s_load (v := .map _) rfl mid0 rfl ?_) | (show WPL _ _ _ _ _ (⟨_, .alloc _, _, _, _, none⟩ :: _) _ _ _; refine s_alloc rfl ?_; intro _)); refine walkG ?_)
      (refine s_build (cs := [.int .i64 0, .int .i64 0, .bool false, .bool false]) ?_ rfl ?_; (· kernel_rfl))
      refine walkG ?_
      repeat ((first | (show WPL _ _ _ _ _ (⟨_, .load _ _, _, _, _, none⟩ :: _) _ _ _; first | refine s_load (v := .int _ _) rfl mid1 rfl ?_ | refine s_load (v := .int _ _) rfl mid2 rfl ?_ | refine s_load (v := .map _) rfl mid0 rfl ?_) | (show WPL _ _ _ _ _ (⟨_, .alloc _, _, _, _, none⟩ :: _) _ _ _; refine s_alloc rfl ?_; intro _)); refine walkG ?_)
      refine s_mlen rfl rfl ?_
      rw [hf.len]
      by_cases hL : 0 < L.length
      · skip
        have hne : L ≠ [] := fun e => by rw [e] at hL; simp at hL
        obtain ⟨a, b0, pp, hm, hpu⟩ := hf.push hne hy
        have hty : ¬ y = t := fun e => by rw [e, hm] at hmy; cases hmy
        refine walkG ?_
        repeat ((first | (show WPL _ _ _ _ _ (⟨_, .load _ _, _, _, _, none⟩ :: _) _ _ _; first | refine s_load (v := .int _ _) rfl mid1 rfl ?_ | refine s_load (v := .int _ _) rfl mid2 rfl ?_ | refine s_load (v := .map _) rfl mid0 rfl ?_) | (show WPL _ _ _ _ _ (⟨_, .alloc _, _, _, _, none⟩ :: _) _ _ _; refine s_alloc rfl ?_; intro _)); refine walkG ?_)
        (refine wp_draw [9, 10] (.look 0 (.look 1 (.look 2 (.look 3 (.look 4 (.look 5 (.look 6 (.look 7 (.look 8 (.act 9 (.act 10 .nil .stop) .stop)))))))))) (by kernel_rfl) ?_; refine dwP ?_; refine dwP ?_; refine dwP ?_; (apply dw_look; (· exact rfl); (· exact rfl); (· (refine s_load (v := .map _) rfl mid0 rfl ?_; exact looked))); refine dwP ?_; refine dwP ?_; refine dwP ?_; (apply dw_look; (· exact rfl); (· exact rfl); (· (refine s_load (v := .int _ _) rfl mid2 rfl ?_; exact looked))); (apply dw_look; (· exact rfl); (· exact rfl); (· (refine s_mget (v := lk a b0 pp false) rfl rfl (by rw [hm]; rfl) rfl ?_; exact looked))); skip)
        refine dw_do rfl rfl ?_ dw_stop
        refine s_alloc rfl ?_
        intro b9
        refine wpl_nil (qone ⟨(by (refine st_again ?_ ?_; (· refine s_mget (v := lk a b0 pp false) rfl rfl (by rw [hm]; rfl) rfl ?_; exact looked)); (refine st_again ?_ ?_; (· refine s_load (v := .int _ _) rfl mid2 rfl ?_; exact looked)); (refine st_again ?_ ?_; (· refine s_load (v := .map _) rfl mid0 rfl ?_; exact looked)); exact st_nil), ?_⟩)
        (skip)
        refine dw_do0 rfl rfl ?_ dw_stop
        (first | refine s_store1 (v := .int _ _) rfl rfl rfl rfl ?_ | refine s_store1 (v := .pointer _) rfl rfl rfl rfl ?_ | refine s_store1 (v := .slice _ _ _) rfl rfl rfl rfl ?_ | refine s_store1 (v := .bool _) rfl rfl rfl rfl ?_ | refine s_store1 (v := .string _) rfl rfl rfl rfl ?_ | refine s_store1 (v := .map _) rfl rfl rfl rfl ?_ | refine s_store1 (v := _) rfl rfl rfl rfl ?_ | refine s_storeV rfl rfl rfl rfl rfl ?_)
        refine wpl_nil (qone0 ⟨(by refine st_past (by kernel_rfl) ?_; refine st_past (by kernel_rfl) ?_; refine st_past (by kernel_rfl) ?_; exact st_nil), ?_⟩)
        (refine dw_nil ?_; skip)
        refine walkG ?_
        repeat ((first | (show WPL _ _ _ _ _ (⟨_, .load _ _, _, _, _, none⟩ :: _) _ _ _; first | refine s_load (v := .int _ _) rfl mid1 rfl ?_ | refine s_load (v := .int _ _) rfl mid2 rfl ?_ | refine s_load (v := .map _) rfl mid0 rfl ?_) | (show WPL _ _ _ _ _ (⟨_, .alloc _, _, _, _, none⟩ :: _) _ _ _; refine s_alloc rfl ?_; intro _)); refine walkG ?_)
        (refine wp_draw [9] (.look 0 (.look 1 (.look 2 (.look 3 (.look 4 (.look 5 (.look 6 (.look 7 (.look 8 (.act 9 .nil .stop)))))))))) (by kernel_rfl) ?_; refine dwP ?_; refine dwP ?_; refine dwP ?_; (apply dw_look; (· exact rfl); (· exact rfl); (· (refine s_load (v := .map _) rfl mid0 rfl ?_; exact looked))); refine dwP ?_; refine dwP ?_; refine dwP ?_; (apply dw_look; (· exact rfl); (· exact rfl); (· (refine s_load (v := .int _ _) rfl mid2 rfl ?_; exact looked))); refine dwL ?_; skip)
        refine dw_do0 rfl rfl ?_ dw_stop
        refine s_mset (v := lk a y pp true) (k := t) rfl rfl rfl ?_
        refine wpl_nil (qone0 ⟨(by refine st_past (by kernel_rfl) ?_; refine st_past (by kernel_rfl) ?_; refine st_past (by kernel_rfl) ?_; exact st_nil), ?_⟩)
        (refine dw_nil ?_; skip)
        refine walkG ?_
        repeat ((first | (show WPL _ _ _ _ _ (⟨_, .load _ _, _, _, _, none⟩ :: _) _ _ _; first | refine s_load (v := .int _ _) rfl mid1 rfl ?_ | refine s_load (v := .int _ _) rfl mid2 rfl ?_ | refine s_load (v := .map _) rfl mid0 rfl ?_) | (show WPL _ _ _ _ _ (⟨_, .alloc _, _, _, _, none⟩ :: _) _ _ _; refine s_alloc rfl ?_; intro _)); refine walkG ?_)
        (refine wp_draw [8, 10, 13] (.look 0 (.look 1 (.look 2 (.look 3 (.look 4 (.look 5 (.look 6 (.look 7 (.act 8 (.look 9 (.act 10 (.look 11 (.look 12 (.act 13 .nil .stop))) .stop)) .stop))))))))) (by kernel_rfl) ?_; refine dwP ?_; refine dwP ?_; refine dwP ?_; (apply dw_look; (· exact rfl); (· exact rfl); (· (refine s_load (v := .map _) rfl mid0 rfl ?_; exact looked))); refine dwP ?_; refine dwP ?_; refine dwL ?_; refine dwP ?_; skip)
        refine dw_do rfl rfl ?_ dw_stop
        refine s_mentry (k := y) (v := lk 0 0 false false) rfl rfl (by rw [mget_mset, if_neg hty, hmy]; rfl) rfl ?_
        intro st
        refine wpl_nil (qone ⟨(by (refine st_again ?_ ?_; (· exact looked)); refine st_past (by kernel_rfl) ?_; exact st_nil), ?_⟩)
        (refine dwP ?_; skip)
        refine dw_do0 rfl rfl ?_ dw_stop
        refine s_mestore (v := lk t 0 true false) (k := y) (st := st) rfl rfl rfl ?_
        rw [mset_mset]
        refine wpl_nil (qone0 ⟨(by refine st_past (by kernel_rfl) ?_; refine st_past (by kernel_rfl) ?_; exact st_nil), ?_⟩)
        (refine dwP ?_; refine dwP ?_; skip)
        refine dw_do0 rfl rfl ?_ dw_stop
        refine s_storeM2 (v := .int .i64 y) rfl rfl rfl ?_
        refine wpl_nil (qone0 ⟨(by refine st_past (by kernel_rfl) ?_; refine st_past (by kernel_rfl) ?_; exact st_nil), ?_⟩)
        (refine dw_nil ?_; skip)
        refine walkG ?_
        repeat ((first | (show WPL _ _ _ _ _ (⟨_, .load _ _, _, _, _, none⟩ :: _) _ _ _; first | refine s_load (v := .int _ _) rfl mid1 rfl ?_ | refine s_load (v := .int _ _) rfl mid2 rfl ?_ | refine s_load (v := .map _) rfl mid0 rfl ?_) | (show WPL _ _ _ _ _ (⟨_, .alloc _, _, _, _, none⟩ :: _) _ _ _; refine s_alloc rfl ?_; intro _)); refine walkG ?_)
        exact ⟨some (mset (mset m t (lk a y pp true)) y (lk t 0 true false), h, y), asided, agreed, Ent.auto, fun w e => by cases e; exact hpu, by simp⟩
      · skip
        have hL0 : L = [] := List.length_eq_zero_iff.1 (by omega)
        subst hL0
        have hpu := hf.first (x := y)
        refine walkG ?_
        repeat ((first | (show WPL _ _ _ _ _ (⟨_, .load _ _, _, _, _, none⟩ :: _) _ _ _; first | refine s_load (v := .int _ _) rfl mid1 rfl ?_ | refine s_load (v := .int _ _) rfl mid2 rfl ?_ | refine s_load (v := .map _) rfl mid0 rfl ?_) | (show WPL _ _ _ _ _ (⟨_, .alloc _, _, _, _, none⟩ :: _) _ _ _; refine s_alloc rfl ?_; intro _)); refine walkG ?_)
        refine s_storeM1 (v := .int .i64 y) rfl rfl rfl ?_
        refine walkG ?_
        repeat ((first | (show WPL _ _ _ _ _ (⟨_, .load _ _, _, _, _, none⟩ :: _) _ _ _; first | refine s_load (v := .int _ _) rfl mid1 rfl ?_ | refine s_load (v := .int _ _) rfl mid2 rfl ?_ | refine s_load (v := .map _) rfl mid0 rfl ?_) | (show WPL _ _ _ _ _ (⟨_, .alloc _, _, _, _, none⟩ :: _) _ _ _; refine s_alloc rfl ?_; intro _)); refine walkG ?_)
        (refine wp_draw [8, 10, 13] (.look 0 (.look 1 (.look 2 (.look 3 (.look 4 (.look 5 (.look 6 (.look 7 (.act 8 (.look 9 (.act 10 (.look 11 (.look 12 (.act 13 .nil .stop))) .stop)) .stop))))))))) (by kernel_rfl) ?_; refine dwP ?_; refine dwP ?_; refine dwP ?_; (apply dw_look; (· exact rfl); (· exact rfl); (· (refine s_load (v := .map _) rfl mid0 rfl ?_; exact looked))); refine dwP ?_; refine dwP ?_; refine dwL ?_; refine dwP ?_; skip)
        refine dw_do rfl rfl ?_ dw_stop
        refine s_mentry (k := y) (v := lk 0 0 false false) rfl rfl (by rw [hmy]; rfl) rfl ?_
        intro st
        refine wpl_nil (qone ⟨(by (refine st_again ?_ ?_; (· exact looked)); refine st_past (by kernel_rfl) ?_; exact st_nil), ?_⟩)
        (refine dwP ?_; skip)
        refine dw_do0 rfl rfl ?_ dw_stop
        refine s_mestore (v := lk 0 0 false false) (k := y) (st := st) rfl rfl rfl ?_
        rw [mset_mset]
        refine wpl_nil (qone0 ⟨(by refine st_past (by kernel_rfl) ?_; refine st_past (by kernel_rfl) ?_; exact st_nil), ?_⟩)
        (refine dwP ?_; refine dwP ?_; skip)
        refine dw_do0 rfl rfl ?_ dw_stop
        refine s_storeM2 (v := .int .i64 y) rfl rfl rfl ?_
        refine wpl_nil (qone0 ⟨(by refine st_past (by kernel_rfl) ?_; refine st_past (by kernel_rfl) ?_; exact st_nil), ?_⟩)
        (refine dw_nil ?_; skip)
        refine walkG ?_
        repeat ((first | (show WPL _ _ _ _ _ (⟨_, .load _ _, _, _, _, none⟩ :: _) _ _ _; first | refine s_load (v := .int _ _) rfl mid1 rfl ?_ | refine s_load (v := .int _ _) rfl mid2 rfl ?_ | refine s_load (v := .map _) rfl mid0 rfl ?_) | (show WPL _ _ _ _ _ (⟨_, .alloc _, _, _, _, none⟩ :: _) _ _ _; refine s_alloc rfl ?_; intro _)); refine walkG ?_)
        exact ⟨some (mset m y (lk 0 0 false false), y, y), asided, agreed, Ent.auto, fun w e => by cases e; exact hpu, by simp⟩
    · simp only [putAll]
      have hw := hk _ rfl
      refine walkG ?_
      repeat ((first | (show WPL _ _ _ _ _ (⟨_, .load _ _, _, _, _, none⟩ :: _) _ _ _; first | refine s_load (v := .int _ _) rfl mid1 rfl ?_ | refine s_load (v := .int _ _) rfl mid2 rfl ?_ | refine s_load (v := .map _) rfl mid0 rfl ?_) | (show WPL _ _ _ _ _ (⟨_, .alloc _, _, _, _, none⟩ :: _) _ _ _; refine s_alloc rfl ?_; intro _)); refine walkG ?_)
      (first | (apply retRD1 (G := (blk p (A ++ .map (some b) :: .int .i64 h' :: .int .i64 t' :: Z) e + (MapAt b m' + F))) (.inr rfl) rfl; (· first | (refine rv_tmp (v := .int _ _) rfl) | exact rv_tmp rfl); (· exact Ent.auto)) | (apply retRD1 (G := (blk p (A ++ .map (some b) :: .int .i64 h' :: .int .i64 t' :: Z) e + (MapAt b m' + F))) (.inl rfl) rfl; (· first | (refine rv_tmp (v := .int _ _) rfl) | exact rv_tmp rfl); (· exact Ent.auto)))
      exact ⟨b, m', h', t', rfl, hw, rfl⟩
  | some x =>
    obtain ⟨b, m⟩ := x
    have hf : LinkF L m h t := hf
    simp only [mapV, mapH]
    refine walkG ?_
    repeat ((first | (show WPL _ _ _ _ _ (⟨_, .load _ _, _, _, _, none⟩ :: _) _ _ _; first | refine s_load (v := .int _ _) rfl mid1 rfl ?_ | refine s_load (v := .int _ _) rfl mid2 rfl ?_ | refine s_load (v := .map _) rfl mid0 rfl ?_) | (show WPL _ _ _ _ _ (⟨_, .alloc _, _, _, _, none⟩ :: _) _ _ _; refine s_alloc rfl ?_; intro _)); refine walkG ?_)
    refine s_eqnilM (b := false) rfl rfl rfl rfl ?_
    refine walkG ?_
    repeat ((first | (show WPL _ _ _ _ _ (⟨_, .load _ _, _, _, _, none⟩ :: _) _ _ _; first | refine s_load (v := .int _ _) rfl mid1 rfl ?_ | refine s_load (v := .int _ _) rfl mid2 rfl ?_ | refine s_load (v := .map _) rfl mid0 rfl ?_) | (show WPL _ _ _ _ _ (⟨_, .alloc _, _, _, _, none⟩ :: _) _ _ _; refine s_alloc rfl ?_; intro _)); refine walkG ?_)
    refine wp_loopF (α := Option (Assoc × Int × Int)) [6, 7, 8, 28, 29, 30, 31, 32, 33, 34, 35, 36, 37, 38, 39, 40, 41, 42, 43, 44, 45, 46, 47, 48, 49, 50, 51, 52, 53, 54, 55, 56, 57, 58, 59, 60, 61, 62, 63, 64, 65, 66, 67, 68, 69, 70, 71, 72, 73, 74, 75, 76, 77, 78, 79, 80, 81, 82] (fun k => match k with | none => [(28, .int .i64 ((0 : Nat) : Int))] | some _ => [(28, .int .i64 ((1 : Nat) : Int))]) (fun k => match k with | none => blk p (A ++ .map (some b) :: .int .i64 h :: .int .i64 t :: Z) e + (MapAt b m + F) | some w => blk p (A ++ .map (some b) :: .int .i64 w.2.1 :: .int .i64 w.2.2 :: Z) e + (MapAt b w.1 + F)) (fun k => ∀ w, k = some w → LinkF (L ++ [y]) w.1 w.2.1 w.2.2) (fun k => if k.isNone then 1 else 0) none agreed (Ent.refl _) (by simp) ?_
    rintro (_ | ⟨m', h', t'⟩) g hk
    · simp only [putAll]
      clear hk
      have hmy : mget m y = none := by
        have := hf.there (x := y)
        rw [decide_eq_false hy] at this
        cases hm : mget m y with
        | none => rfl
        | some v => rw [hm] at this; simp at this
      refine walkG ?_
      repeat ((first | (show WPL _ _ _ _ _ (⟨_, .load _ _, _, _, _, none⟩ :: _) _ _ _; first | refine s_load (v := .int _ _) rfl mid1 rfl ?_ | refine s_load (v := .int _ _) rfl mid2 rfl ?_ | refine s_load (v := .map _) rfl mid0 rfl ?_) | (show WPL _ _ _ _ _ (⟨_, .alloc _, _, _, _, none⟩ :: _) _ _ _; refine s_alloc rfl ?_; intro _)); refine walkG ?_)
      (refine s_build (cs := [.int .i64 0, .int .i64 0, .bool false, .bool false]) ?_ rfl ?_; (· kernel_rfl))
      refine walkG ?_
      repeat ((first | (show WPL _ _ _ _ _ (⟨_, .load _ _, _, _, _, none⟩ :: _) _ _ _; first | refine s_load (v := .int _ _) rfl mid1 rfl ?_ | refine s_load (v := .int _ _) rfl mid2 rfl ?_ | refine s_load (v := .map _) rfl mid0 rfl ?_) | (show WPL _ _ _ _ _ (⟨_, .alloc _, _, _, _, none⟩ :: _) _ _ _; refine s_alloc rfl ?_; intro _)); refine walkG ?_)
      refine s_mlen rfl rfl ?_
      rw [hf.len]
      by_cases hL : 0 < L.length
      · skip
        have hne : L ≠ [] := fun e => by rw [e] at hL; simp at hL
        obtain ⟨a, b0, pp, hm, hpu⟩ := hf.push hne hy
        have hty : ¬ y = t := fun e => by rw [e, hm] at hmy; cases hmy
        refine walkG ?_
        repeat ((first | (show WPL _ _ _ _ _ (⟨_, .load _ _, _, _, _, none⟩ :: _) _ _ _; first | refine s_load (v := .int _ _) rfl mid1 rfl ?_ | refine s_load (v := .int _ _) rfl mid2 rfl ?_ | refine s_load (v := .map _) rfl mid0 rfl ?_) | (show WPL _ _ _ _ _ (⟨_, .alloc _, _, _, _, none⟩ :: _) _ _ _; refine s_alloc rfl ?_; intro _)); refine walkG ?_)
        (refine wp_draw [9, 10] (.look 0 (.look 1 (.look 2 (.look 3 (.look 4 (.look 5 (.look 6 (.look 7 (.look 8 (.act 9 (.act 10 .nil .stop) .stop)))))))))) (by kernel_rfl) ?_; refine dwP ?_; refine dwP ?_; refine dwP ?_; (apply dw_look; (· exact rfl); (· exact rfl); (· (refine s_load (v := .map _) rfl mid0 rfl ?_; exact looked))); refine dwP ?_; refine dwP ?_; refine dwP ?_; (apply dw_look; (· exact rfl); (· exact rfl); (· (refine s_load (v := .int _ _) rfl mid2 rfl ?_; exact looked))); (apply dw_look; (· exact rfl); (· exact rfl); (· (refine s_mget (v := lk a b0 pp false) rfl rfl (by rw [hm]; rfl) rfl ?_; exact looked))); skip)
        refine dw_do rfl rfl ?_ dw_stop
        refine s_alloc rfl ?_
        intro b9
        refine wpl_nil (qone ⟨(by (refine st_again ?_ ?_; (· refine s_mget (v := lk a b0 pp false) rfl rfl (by rw [hm]; rfl) rfl ?_; exact looked)); (refine st_again ?_ ?_; (· refine s_load (v := .int _ _) rfl mid2 rfl ?_; exact looked)); (refine st_again ?_ ?_; (· refine s_load (v := .map _) rfl mid0 rfl ?_; exact looked)); exact st_nil), ?_⟩)
        (skip)
        refine dw_do0 rfl rfl ?_ dw_stop
        (first | refine s_store1 (v := .int _ _) rfl rfl rfl rfl ?_ | refine s_store1 (v := .pointer _) rfl rfl rfl rfl ?_ | refine s_store1 (v := .slice _ _ _) rfl rfl rfl rfl ?_ | refine s_store1 (v := .bool _) rfl rfl rfl rfl ?_ | refine s_store1 (v := .string _) rfl rfl rfl rfl ?_ | refine s_store1 (v := .map _) rfl rfl rfl rfl ?_ | refine s_store1 (v := _) rfl rfl rfl rfl ?_ | refine s_storeV rfl rfl rfl rfl rfl ?_)
        refine wpl_nil (qone0 ⟨(by refine st_past (by kernel_rfl) ?_; refine st_past (by kernel_rfl) ?_; refine st_past (by kernel_rfl) ?_; exact st_nil), ?_⟩)
        (refine dw_nil ?_; skip)
        refine walkG ?_
        repeat ((first | (show WPL _ _ _ _ _ (⟨_, .load _ _, _, _, _, none⟩ :: _) _ _ _; first | refine s_load (v := .int _ _) rfl mid1 rfl ?_ | refine s_load (v := .int _ _) rfl mid2 rfl ?_ | refine s_load (v := .map _) rfl mid0 rfl ?_) | (show WPL _ _ _ _ _ (⟨_, .alloc _, _, _, _, none⟩ :: _) _ _ _; refine s_alloc rfl ?_; intro _)); refine walkG ?_)
        (refine wp_draw [9] (.look 0 (.look 1 (.look 2 (.look 3 (.look 4 (.look 5 (.look 6 (.look 7 (.look 8 (.act 9 .nil .stop)))))))))) (by kernel_rfl) ?_; refine dwP ?_; refine dwP ?_; refine dwP ?_; (apply dw_look; (· exact rfl); (· exact rfl); (· (refine s_load (v := .map _) rfl mid0 rfl ?_; exact looked))); refine dwP ?_; refine dwP ?_; refine dwP ?_; (apply dw_look; (· exact rfl); (· exact rfl); (· (refine s_load (v := .int _ _) rfl mid2 rfl ?_; exact looked))); refine dwL ?_; skip)
        refine dw_do0 rfl rfl ?_ dw_stop
        refine s_mset (v := lk a y pp true) (k := t) rfl rfl rfl ?_
        refine wpl_nil (qone0 ⟨(by refine st_past (by kernel_rfl) ?_; refine st_past (by kernel_rfl) ?_; refine st_past (by kernel_rfl) ?_; exact st_nil), ?_⟩)
        (refine dw_nil ?_; skip)
        refine walkG ?_
        repeat ((first | (show WPL _ _ _ _ _ (⟨_, .load _ _, _, _, _, none⟩ :: _) _ _ _; first | refine s_load (v := .int _ _) rfl mid1 rfl ?_ | refine s_load (v := .int _ _) rfl mid2 rfl ?_ | refine s_load (v := .map _) rfl mid0 rfl ?_) | (show WPL _ _ _ _ _ (⟨_, .alloc _, _, _, _, none⟩ :: _) _ _ _; refine s_alloc rfl ?_; intro _)); refine walkG ?_)
        (refine wp_draw [8, 10, 13] (.look 0 (.look 1 (.look 2 (.look 3 (.look 4 (.look 5 (.look 6 (.look 7 (.act 8 (.look 9 (.act 10 (.look 11 (.look 12 (.act 13 .nil .stop))) .stop)) .stop))))))))) (by kernel_rfl) ?_; refine dwP ?_; refine dwP ?_; refine dwP ?_; (apply dw_look; (· exact rfl); (· exact rfl); (· (refine s_load (v := .map _) rfl mid0 rfl ?_; exact looked))); refine dwP ?_; refine dwP ?_; refine dwL ?_; refine dwP ?_; skip)
        refine dw_do rfl rfl ?_ dw_stop
        refine s_mentry (k := y) (v := lk 0 0 false false) rfl rfl (by rw [mget_mset, if_neg hty, hmy]; rfl) rfl ?_
        intro st
        refine wpl_nil (qone ⟨(by (refine st_again ?_ ?_; (· exact looked)); refine st_past (by kernel_rfl) ?_; exact st_nil), ?_⟩)
        (refine dwP ?_; skip)
        refine dw_do0 rfl rfl ?_ dw_stop
        refine s_mestore (v := lk t 0 true false) (k := y) (st := st) rfl rfl rfl ?_
        rw [mset_mset]
        refine wpl_nil (qone0 ⟨(by refine st_past (by kernel_rfl) ?_; refine st_past (by kernel_rfl) ?_; exact st_nil), ?_⟩)
        (refine dwP ?_; refine dwP ?_; skip)
        refine dw_do0 rfl rfl ?_ dw_stop
        refine s_storeM2 (v := .int .i64 y) rfl rfl rfl ?_
        refine wpl_nil (qone0 ⟨(by refine st_past (by kernel_rfl) ?_; refine st_past (by kernel_rfl) ?_; exact st_nil), ?_⟩)
        (refine dw_nil ?_; skip)
        refine walkG ?_
        repeat ((first | (show WPL _ _ _ _ _ (⟨_, .load _ _, _, _, _, none⟩ :: _) _ _ _; first | refine s_load (v := .int _ _) rfl mid1 rfl ?_ | refine s_load (v := .int _ _) rfl mid2 rfl ?_ | refine s_load (v := .map _) rfl mid0 rfl ?_) | (show WPL _ _ _ _ _ (⟨_, .alloc _, _, _, _, none⟩ :: _) _ _ _; refine s_alloc rfl ?_; intro _)); refine walkG ?_)
        exact ⟨some (mset (mset m t (lk a y pp true)) y (lk t 0 true false), h, y), asided, agreed, Ent.auto, fun w e => by cases e; exact hpu, by simp⟩
      · skip
        have hL0 : L = [] := List.length_eq_zero_iff.1 (by omega)
        subst hL0
        have hpu := hf.first (x := y)
        refine walkG ?_
        repeat ((first | (show WPL _ _ _ _ _ (⟨_, .load _ _, _, _, _, none⟩ :: _) _ _ _; first | refine s_load (v := .int _ _) rfl mid1 rfl ?_ | refine s_load (v := .int _ _) rfl mid2 rfl ?_ | refine s_load (v := .map _) rfl mid0 rfl ?_) | (show WPL _ _ _ _ _ (⟨_, .alloc _, _, _, _, none⟩ :: _) _ _ _; refine s_alloc rfl ?_; intro _)); refine walkG ?_)
        refine s_storeM1 (v := .int .i64 y) rfl rfl rfl ?_
        refine walkG ?_
        repeat ((first | (show WPL _ _ _ _ _ (⟨_, .load _ _, _, _, _, none⟩ :: _) _ _ _; first | refine s_load (v := .int _ _) rfl mid1 rfl ?_ | refine s_load (v := .int _ _) rfl mid2 rfl ?_ | refine s_load (v := .map _) rfl mid0 rfl ?_) | (show WPL _ _ _ _ _ (⟨_, .alloc _, _, _, _, none⟩ :: _) _ _ _; refine s_alloc rfl ?_; intro _)); refine walkG ?_)
        (refine wp_draw [8, 10, 13] (.look 0 (.look 1 (.look 2 (.look 3 (.look 4 (.look 5 (.look 6 (.look 7 (.act 8 (.look 9 (.act 10 (.look 11 (.look 12 (.act 13 .nil .stop))) .stop)) .stop))))))))) (by kernel_rfl) ?_; refine dwP ?_; refine dwP ?_; refine dwP ?_; (apply dw_look; (· exact rfl); (· exact rfl); (· (refine s_load (v := .map _) rfl mid0 rfl ?_; exact looked))); refine dwP ?_; refine dwP ?_; refine dwL ?_; refine dwP ?_; skip)
        refine dw_do rfl rfl ?_ dw_stop
        refine s_mentry (k := y) (v := lk 0 0 false false) rfl rfl (by rw [hmy]; rfl) rfl ?_
        intro st
        refine wpl_nil (qone ⟨(by (refine st_again ?_ ?_; (· exact looked)); refine st_past (by kernel_rfl) ?_; exact st_nil), ?_⟩)
        (refine dwP ?_; skip)
        refine dw_do0 rfl rfl ?_ dw_stop
        refine s_mestore (v := lk 0 0 false false) (k := y) (st := st) rfl rfl rfl ?_
        rw [mset_mset]
        refine wpl_nil (qone0 ⟨(by refine st_past (by kernel_rfl) ?_; refine st_past (by kernel_rfl) ?_; exact st_nil), ?_⟩)
        (refine dwP ?_; refine dwP ?_; skip)
        refine dw_do0 rfl rfl ?_ dw_stop
        refine s_storeM2 (v := .int .i64 y) rfl rfl rfl ?_
        refine wpl_nil (qone0 ⟨(by refine st_past (by kernel_rfl) ?_; refine st_past (by kernel_rfl) ?_; exact st_nil), ?_⟩)
        (refine dw_nil ?_; skip)
        refine walkG ?_
        repeat ((first | (show WPL _ _ _ _ _ (⟨_, .load _ _, _, _, _, none⟩ :: _) _ _ _; first | refine s_load (v := .int _ _) rfl mid1 rfl ?_ | refine s_load (v := .int _ _) rfl mid2 rfl ?_ | refine s_load (v := .map _) rfl mid0 rfl ?_) | (show WPL _ _ _ _ _ (⟨_, .alloc _, _, _, _, none⟩ :: _) _ _ _; refine s_alloc rfl ?_; intro _)); refine walkG ?_)
        exact ⟨some (mset m y (lk 0 0 false false), y, y), asided, agreed, Ent.auto, fun w e => by cases e; exact hpu, by simp⟩
    · simp only [putAll]
      have hw := hk _ rfl
      refine walkG ?_
      repeat ((first | (show WPL _ _ _ _ _ (⟨_, .load _ _, _, _, _, none⟩ :: _) _ _ _; first | refine s_load (v := .int _ _) rfl mid1 rfl ?_ | refine s_load (v := .int _ _) rfl mid2 rfl ?_ | refine s_load (v := .map _) rfl mid0 rfl ?_) | (show WPL _ _ _ _ _ (⟨_, .alloc _, _, _, _, none⟩ :: _) _ _ _; refine s_alloc rfl ?_; intro _)); refine walkG ?_)
      (first | (apply retRD1 (G := (blk p (A ++ .map (some b) :: .int .i64 h' :: .int .i64 t' :: Z) e + (MapAt b m' + F))) (.inr rfl) rfl; (· first | (refine rv_tmp (v := .int _ _) rfl) | exact rv_tmp rfl); (· exact Ent.auto)) | (apply retRD1 (G := (blk p (A ++ .map (some b) :: .int .i64 h' :: .int .i64 t' :: Z) e + (MapAt b m' + F))) (.inl rfl) rfl; (· first | (refine rv_tmp (v := .int _ _) rfl) | exact rv_tmp rfl); (· exact Ent.auto)))
      exact ⟨b, m', h', t', rfl, hw, rfl⟩
end
end Go.Proofs.YtlhnmbajbhaaoaaGreat
