/- A line of numbers: one comes. A line of numbers: one goes. Semaphores: how they lie; what is read. Semaphores: plain facts; shut and opened. Semaphores: what is done. Semaphores: new ones. No condition. -/
import Derived.Test.YtlhnmbajbhaaoaaGreatSL2
import Derived.Test.YtlhnmbajbhaaoaaGreatB1
import Derived.Test.YtlhnmbajbhaaoaaGreatSL3
namespace Go.Proofs.YtlhnmbajbhaaoaaGreat
open Go Go.SL
set_option linter.unusedSimpArgs false
set_option linter.unusedVariables false
set_option maxRecDepth 10000
set_option maxHeartbeats 1000000
attribute [local irreducible] WP WPL QSeq QBlk QRet Does Cell Cells Rd Mine Ent Aside RV Yield
section
variable {B : World} {F H G : HProp} {p o e : Nat} {L : List Int} {y h t : Int} {s : Value} {x : MapO} {A Z : List Value}
theorem LnIn.under (h : LnIn B H p o L) : LnIn B (G + H) p o L := by
  obtain ⟨x, h, t, c0, c1, c2, hf, F, rfl⟩ := h
  exact ⟨x, h, t, c0.ent Ent.auto, c1.ent Ent.auto, c2.ent Ent.auto, hf, G + F, by ac_rfl⟩
theorem lnIn0 (hf : LnF x h t L) : LnIn B (blk p (A ++ mapV x :: .int .i64 h :: .int .i64 t :: Z) e + (mapH x + F)) p A.length L :=
  ⟨x, h, t, mid0, mid1, mid2, hf, blk p (A ++ mapV x :: .int .i64 h :: .int .i64 t :: Z) e + F, by ac_rfl⟩
theorem lnFits (hl : LnIn B H p o L) (hy : y ∉ L) (hs : Rd B H 1 s 1 [.int .i64 y]) : Does Tryz.prog B 119 [.pointer (some ⟨p, o, none⟩), s] H fun r H' => H' = H ∧ r = .bool true := by
  unfold Rd at hs
  obtain ⟨ao, cap, rfl, hsl, hsm, ha⟩ := hs
  obtain ⟨bl, ol, rfl, hcl⟩ := Rd.addr hsl ha (k := 0) (by simp)
  refine fn_intro 33 Tryz.func119 rfl rfl rfl ?_
  refine walk ?_
  refine s_makeMap rfl ?_
  intro bs
  refine walk ?_
  refine wp_loopF (α := Nat × Assoc) [4, 7, 8, 9, 13, 14, 15, 16, 17, 18, 19, 20, 21, 22, 23, 24, 25, 26, 27, 28, 29, 30, 31, 32] (fun k => [(13, .int .i64 (k.1 : Nat))]) (fun k => MapAt bs k.2 + H) (fun k => k.1 ≤ 1 ∧ (k.1 = 0 → k.2 = [])) (fun k => 1 - k.1) (0, []) agreed (Ent.refl _) ⟨by omega, fun _ => rfl⟩ ?_
  rintro ⟨k, m⟩ g ⟨hk, hm⟩
  simp only [putAll] at hk hm ⊢
  by_cases hlt : k < 1
  · have h0 : k = 0 := by omega
    subst h0
    have := hm rfl
    subst this
    refine walk ?_
    have hcl0 : Cell B H bl ol (.int .i64 y) := hcl.cell (j := 0) rfl
    refine s_load rfl (hcl0.ent Ent.auto) rfl ?_
    refine walk ?_
    refine s_mget2 (v := lk 0 0 false false) (bo := false) rfl rfl rfl rfl rfl ?_
    refine walk ?_
    refine walkG ?_
    repeat ((first | (show WPL _ _ _ _ _ (⟨_, .load _ _, _, _, _, none⟩ :: _) _ _ _; first | refine s_load (v := .int _ _) rfl mid1 rfl ?_ | refine s_load (v := .int _ _) rfl mid2 rfl ?_ | refine s_load (v := .map _) rfl mid0 rfl ?_) | (show WPL _ _ _ _ _ (⟨_, .alloc _, _, _, _, none⟩ :: _) _ _ _; refine s_alloc rfl ?_; intro _)); refine walkG ?_)
    skip
    refine s_call rfl (lnHas (y := y) hl.under.under) rfl ?_
    rintro _ _ ⟨rfl, rfl⟩
    rw [decide_eq_false hy]
    refine walk ?_
    (refine s_build (cs := [.int .i64 0, .int .i64 0, .bool false, .bool false]) ?_ rfl ?_; (· kernel_rfl))
    refine s_mset (v := lk 0 0 false false) (k := y) rfl rfl rfl ?_
    refine walk ?_
    exact ⟨(1, mset [] y (lk 0 0 false false)), asided, agreed, Ent.auto, ⟨by omega, by omega⟩, by simp⟩
  · have h1 : k = 1 := by omega
    subst h1
    refine walk ?_
    (first | (apply retRD1 (G := H) (.inr rfl) rfl; (· first | (refine rv_tmp (v := .bool _) rfl) | exact rv_tmp rfl); (· exact Ent.auto)) | (apply retRD1 (G := H) (.inl rfl) rfl; (· first | (refine rv_tmp (v := .bool _) rfl) | exact rv_tmp rfl); (· exact Ent.auto)))
    exact ⟨rfl, rfl⟩
theorem lnPush (hf : LnF x h t L) (hy : y ∉ L) (hs : Rd B F 1 s 1 [.int .i64 y]) :
    Does Tryz.prog B 105 [.pointer (some ⟨p, A.length, none⟩), s] (blk p (A ++ mapV x :: .int .i64 h :: .int .i64 t :: Z) e + (mapH x + F)) fun r H' =>
      ∃ b m h' t', r = .int .i64 0 ∧ LinkF (L ++ [y]) m h' t' ∧ H' = blk p (A ++ .map (some b) :: .int .i64 h' :: .int .i64 t' :: Z) e + (MapAt b m + F) := by
  have hs0 : Rd B (blk p (A ++ mapV x :: .int .i64 h :: .int .i64 t :: Z) e + (mapH x + F)) 1 s 1 [.int .i64 y] := hs.ent Ent.auto
  have hs1 := hs
  unfold Rd at hs1
  obtain ⟨ao, cap, rfl, hsl, hsm, ha⟩ := hs1
  obtain ⟨bl, ol, rfl, hcl⟩ := Rd.addr hsl ha (k := 0) (by simp)
  have hcl0 : Cell B F bl ol (.int .i64 y) := hcl.cell (j := 0) rfl
  refine fn_intro 83 Tryz.func105 rfl rfl rfl ?_
  refine walk ?_
  refine s_call rfl (lnFits (lnIn0 hf) hy hs0) rfl ?_
  rintro _ _ ⟨e_, rfl⟩
  obtain rfl := e_.symm
  refine walk ?_
  cases x with
  | none =>
    have hL0 : L = [] := hf
    have hf : LinkF L [] h t := hL0 ▸ LinkF.nil h t
    clear hL0
    simp only [mapV, mapH, HProp.emp_add]
    refine walkG ?_
    repeat ((first | (show WPL _ _ _ _ _ (⟨_, .load _ _, _, _, _, none⟩ :: _) _ _ _; first | refine s_load (v := .int _ _) rfl mid1 rfl ?_ | refine s_load (v := .int _ _) rfl mid2 rfl ?_ | refine s_load (v := .map _) rfl mid0 rfl ?_) | (show WPL _ _ _ _ _ (⟨_, .alloc _, _, _, _, none⟩ :: _) _ _ _; refine s_alloc rfl ?_; intro _)); refine walkG ?_)
    refine s_eqnilM (b := true) rfl rfl rfl rfl ?_
    refine walkG ?_
    repeat ((first | (show WPL _ _ _ _ _ (⟨_, .load _ _, _, _, _, none⟩ :: _) _ _ _; first | refine s_load (v := .int _ _) rfl mid1 rfl ?_ | refine s_load (v := .int _ _) rfl mid2 rfl ?_ | refine s_load (v := .map _) rfl mid0 rfl ?_) | (show WPL _ _ _ _ _ (⟨_, .alloc _, _, _, _, none⟩ :: _) _ _ _; refine s_alloc rfl ?_; intro _)); refine walkG ?_)
    refine s_makeMap rfl ?_
    intro b
    refine walkG ?_
    repeat ((first | (show WPL _ _ _ _ _ (⟨_, .load _ _, _, _, _, none⟩ :: _) _ _ _; first | refine s_load (v := .int _ _) rfl mid1 rfl ?_ | refine s_load (v := .int _ _) rfl mid2 rfl ?_ | refine s_load (v := .map _) rfl mid0 rfl ?_) | (show WPL _ _ _ _ _ (⟨_, .alloc _, _, _, _, none⟩ :: _) _ _ _; refine s_alloc rfl ?_; intro _)); refine walkG ?_)
    refine s_storeM0 (v := .map (some b)) rfl rfl rfl ?_
    generalize ([] : Assoc) = m at hf ⊢
    refine walkG ?_
    repeat ((first | (show WPL _ _ _ _ _ (⟨_, .load _ _, _, _, _, none⟩ :: _) _ _ _; first | refine s_load (v := .int _ _) rfl mid1 rfl ?_ | refine s_load (v := .int _ _) rfl mid2 rfl ?_ | refine s_load (v := .map _) rfl mid0 rfl ?_) | (show WPL _ _ _ _ _ (⟨_, .alloc _, _, _, _, none⟩ :: _) _ _ _; refine s_alloc rfl ?_; intro _)); refine walkG ?_)
    refine wp_loopF (α := Option (Assoc × Int × Int)) [6, 7, 8, 28, 29, 30, 31, 32, 33, 34, 35, 36, 37, 38, 39, 40, 41, 42, 43, 44, 45, 46, 47, 48, 49, 50, 51, 52, 53, 54, 55, 56, 57, 58, 59, 60, 61, 62, 63, 64, 65, 66, 67, 68, 69, 70, 71, 72, 73, 74, 75, 76, 77, 78, 79, 80, 81, 82] (fun k => match k with | none => [(28, .int .i64 ((0 : Nat) : Int))] | some _ => [(28, .int .i64 ((1 : Nat) : Int))]) (fun k => match k with | none => blk p (A ++ .map (some b) :: .int .i64 h :: .int .i64 t :: Z) e + (MapAt b m + F) | some w => blk p (A ++ .map (some b) :: .int .i64 w.2.1 :: .int .i64 w.2.2 :: Z) e + (MapAt b w.1 + F)) (fun k => ∀ w, k = some w → LinkF (L ++ [y]) w.1 w.2.1 w.2.2) (fun k => if k.isNone then 1 else 0) none agreed (Ent.refl _) (by simp) ?_
    rintro (_ | ⟨m', h', t'⟩) g hk
    · simp only [putAll]
      clear hk
      have hmy : mget m y = none := by
        have := hf.there (x := y)
        rw [decide_eq_false hy] at this
        cases hm : mget m y with
        | none => rfl
        | some v => rw [hm] at this; simp at this
      refine walkG ?_
      repeat ((first | (show WPL _ _ _ _ _ (⟨_, .load _ _, _, _, _, none⟩ :: _) _ _ _; first | refine s_load (v := .int _ _) rfl mid1 rfl ?_ | refine s_load (v := .int _ _) rfl mid2 rfl ?_ | refine s_load (v := .map _) rfl mid0 rfl ?_) | (show WPL _ _ _ _ _ (⟨_, .alloc _, _, _, _, none⟩ :: _) _ _ _; refine s_alloc rfl ?_; intro _)); refine walkG ?_)
      (refine s_build (cs := [.int .i64 0, .int .i64 0, .bool false, .bool false]) ?_ rfl ?_; (· kernel_rfl))
      refine walkG ?_
      repeat ((first | (show WPL _ _ _ _ _ (⟨_, .load _ _, _, _, _, none⟩ :: _) _ _ _; first | refine s_load (v := .int _ _) rfl mid1 rfl ?_ | refine s_load (v := .int _ _) rfl mid2 rfl ?_ | refine s_load (v := .map _) rfl mid0 rfl ?_) | (show WPL _ _ _ _ _ (⟨_, .alloc _, _, _, _, none⟩ :: _) _ _ _; refine s_alloc rfl ?_; intro _)); refine walkG ?_)
      refine s_mlen rfl rfl ?_
      rw [hf.len]
      by_cases hL : 0 < L.length
      · skip
        have hne : L ≠ [] := fun e => by rw [e] at hL; simp at hL
        obtain ⟨a, b0, pp, hm, hpu⟩ := hf.push hne hy
        have hty : ¬ y = t := fun e => by rw [e, hm] at hmy; cases hmy
        refine walkG ?_
        repeat ((first | (show WPL _ _ _ _ _ (⟨_, .load _ _, _, _, _, none⟩ :: _) _ _ _; first | refine s_load (v := .int _ _) rfl mid1 rfl ?_ | refine s_load (v := .int _ _) rfl mid2 rfl ?_ | refine s_load (v := .map _) rfl mid0 rfl ?_) | (show WPL _ _ _ _ _ (⟨_, .alloc _, _, _, _, none⟩ :: _) _ _ _; refine s_alloc rfl ?_; intro _)); refine walkG ?_)
        (refine wp_draw [9, 10] (.look 0 (.look 1 (.look 2 (.look 3 (.look 4 (.look 5 (.look 6 (.look 7 (.look 8 (.act 9 (.act 10 .nil .stop) .stop)))))))))) (by kernel_rfl) ?_; refine dwP ?_; refine dwP ?_; refine dwP ?_; (apply dw_look; (· exact rfl); (· exact rfl); (· (refine s_load (v := .map _) rfl mid0 rfl ?_; exact looked))); refine dwP ?_; refine dwP ?_; refine dwP ?_; (apply dw_look; (· exact rfl); (· exact rfl); (· (refine s_load (v := .int _ _) rfl mid2 rfl ?_; exact looked))); (apply dw_look; (· exact rfl); (· exact rfl); (· (refine s_mget (v := lk a b0 pp false) rfl rfl (by rw [hm]; rfl) rfl ?_; exact looked))); skip)
        refine dw_do rfl rfl ?_ dw_stop
        refine s_alloc rfl ?_
        intro b9
        refine wpl_nil (qone ⟨(by (refine st_again ?_ ?_; (· refine s_mget (v := lk a b0 pp false) rfl rfl (by rw [hm]; rfl) rfl ?_; exact looked)); (refine st_again ?_ ?_; (· refine s_load (v := .int _ _) rfl mid2 rfl ?_; exact looked)); (refine st_again ?_ ?_; (· refine s_load (v := .map _) rfl mid0 rfl ?_; exact looked)); exact st_nil), ?_⟩)
        (skip)
        refine dw_do0 rfl rfl ?_ dw_stop
        (first | refine s_store1 (v := .int _ _) rfl rfl rfl rfl ?_ | refine s_store1 (v := .pointer _) rfl rfl rfl rfl ?_ | refine s_store1 (v := .slice _ _ _) rfl rfl rfl rfl ?_ | refine s_store1 (v := .bool _) rfl rfl rfl rfl ?_ | refine s_store1 (v := .string _) rfl rfl rfl rfl ?_ | refine s_store1 (v := .map _) rfl rfl rfl rfl ?_ | refine s_store1 (v := _) rfl rfl rfl rfl ?_ | refine s_storeV rfl rfl rfl rfl rfl ?_)
        refine wpl_nil (qone0 ⟨(by refine st_past (by kernel_rfl) ?_; refine st_past (by kernel_rfl) ?_; refine st_past (by kernel_rfl) ?_; exact st_nil), ?_⟩)
        (refine dw_nil ?_; skip)
        refine walkG ?_
        repeat ((first | (show WPL _ _ _ _ _ (⟨_, .load _ _, _, _, _, none⟩ :: _) _ _ _; first | refine s_load (v := .int _ _) rfl mid1 rfl ?_ | refine s_load (v := .int _ _) rfl mid2 rfl ?_ | refine s_load (v := .map _) rfl mid0 rfl ?_) | (show WPL _ _ _ _ _ (⟨_, .alloc _, _, _, _, none⟩ :: _) _ _ _; refine s_alloc rfl ?_; intro _)); refine walkG ?_)
        (refine wp_draw [9] (.look 0 (.look 1 (.look 2 (.look 3 (.look 4 (.look 5 (.look 6 (.look 7 (.look 8 (.act 9 .nil .stop)))))))))) (by kernel_rfl) ?_; refine dwP ?_; refine dwP ?_; refine dwP ?_; (apply dw_look; (· exact rfl); (· exact rfl); (· (refine s_load (v := .map _) rfl mid0 rfl ?_; exact looked))); refine dwP ?_; refine dwP ?_; refine dwP ?_; (apply dw_look; (· exact rfl); (· exact rfl); (· (refine s_load (v := .int _ _) rfl mid2 rfl ?_; exact looked))); refine dwL ?_; skip)
        refine dw_do0 rfl rfl ?_ dw_stop
        refine s_mset (v := lk a y pp true) (k := t) rfl rfl rfl ?_
        refine wpl_nil (qone0 ⟨(by refine st_past (by kernel_rfl) ?_; refine st_past (by kernel_rfl) ?_; refine st_past (by kernel_rfl) ?_; exact st_nil), ?_⟩)
        (refine dw_nil ?_; skip)
        refine walkG ?_
        repeat ((first | (show WPL _ _ _ _ _ (⟨_, .load _ _, _, _, _, none⟩ :: _) _ _ _; first | refine s_load (v := .int _ _) rfl mid1 rfl ?_ | refine s_load (v := .int _ _) rfl mid2 rfl ?_ | refine s_load (v := .map _) rfl mid0 rfl ?_) | (show WPL _ _ _ _ _ (⟨_, .alloc _, _, _, _, none⟩ :: _) _ _ _; refine s_alloc rfl ?_; intro _)); refine walkG ?_)
        (refine wp_draw [8, 10, 13] (.look 0 (.look 1 (.look 2 (.look 3 (.look 4 (.look 5 (.look 6 (.look 7 (.act 8 (.look 9 (.act 10 (.look 11 (.look 12 (.act 13 .nil .stop))) .stop)) .stop))))))))) (by kernel_rfl) ?_; refine dwP ?_; refine dwP ?_; refine dwP ?_; (apply dw_look; (· exact rfl); (· exact rfl); (· (refine s_load (v := .map _) rfl mid0 rfl ?_; exact looked))); refine dwP ?_; refine dwP ?_; refine dwL ?_; refine dwP ?_; skip)
        refine dw_do rfl rfl ?_ dw_stop
        refine s_mentry (k := y) (v := lk 0 0 false false) rfl rfl (by rw [mget_mset, if_neg hty, hmy]; rfl) rfl ?_
        intro st
        refine wpl_nil (qone ⟨(by (refine st_again ?_ ?_; (· exact looked)); refine st_past (by kernel_rfl) ?_; exact st_nil), ?_⟩)
        (refine dwP ?_; skip)
        refine dw_do0 rfl rfl ?_ dw_stop
        refine s_mestore (v := lk t 0 true false) (k := y) (st := st) rfl rfl rfl ?_
        rw [mset_mset]
        refine wpl_nil (qone0 ⟨(by refine st_past (by kernel_rfl) ?_; refine st_past (by kernel_rfl) ?_; exact st_nil), ?_⟩)
        (refine dwP ?_; refine dwP ?_; skip)
        refine dw_do0 rfl rfl ?_ dw_stop
        refine s_storeM2 (v := .int .i64 y) rfl rfl rfl ?_
        refine wpl_nil (qone0 ⟨(by refine st_past (by kernel_rfl) ?_; refine st_past (by kernel_rfl) ?_; exact st_nil), ?_⟩)
        (refine dw_nil ?_; skip)
        refine walkG ?_
        repeat ((first | (show WPL _ _ _ _ _ (⟨_, .load _ _, _, _, _, none⟩ :: _) _ _ _; first | refine s_load (v := .int _ _) rfl mid1 rfl ?_ | refine s_load (v := .int _ _) rfl mid2 rfl ?_ | refine s_load (v := .map _) rfl mid0 rfl ?_) | (show WPL _ _ _ _ _ (⟨_, .alloc _, _, _, _, none⟩ :: _) _ _ _; refine s_alloc rfl ?_; intro _)); refine walkG ?_)
        exact ⟨some (mset (mset m t (lk a y pp true)) y (lk t 0 true false), h, y), asided, agreed, Ent.auto, fun w e => by cases e; exact hpu, by simp⟩
      · skip
        have hL0 : L = [] := List.length_eq_zero_iff.1 (by omega)
        subst hL0
        have hpu := hf.first (x := y)
        refine walkG ?_
        repeat ((first | (show WPL _ _ _ _ _ (⟨_, .load _ _, _, _, _, none⟩ :: _) _ _ _; first | refine s_load (v := .int _ _) rfl mid1 rfl ?_ | refine s_load (v := .int _ _) rfl mid2 rfl ?_ | refine s_load (v := .map _) rfl mid0 rfl ?_) | (show WPL _ _ _ _ _ (⟨_, .alloc _, _, _, _, none⟩ :: _) _ _ _; refine s_alloc rfl ?_; intro _)); refine walkG ?_)
        refine s_storeM1 (v := .int .i64 y) rfl rfl rfl ?_
        refine walkG ?_
        repeat ((first | (show WPL _ _ _ _ _ (⟨_, .load _ _, _, _, _, none⟩ :: _) _ _ _; first | refine s_load (v := .int _ _) rfl mid1 rfl ?_ | refine s_load (v := .int _ _) rfl mid2 rfl ?_ | refine s_load (v := .map _) rfl mid0 rfl ?_) | (show WPL _ _ _ _ _ (⟨_, .alloc _, _, _, _, none⟩ :: _) _ _ _; refine s_alloc rfl ?_; intro _)); refine walkG ?_)
        (refine wp_draw [8, 10, 13] (.look 0 (.look 1 (.look 2 (.look 3 (.look 4 (.look 5 (.look 6 (.look 7 (.act 8 (.look 9 (.act 10 (.look 11 (.look 12 (.act 13 .nil .stop))) .stop)) .stop))))))))) (by kernel_rfl) ?_; refine dwP ?_; refine dwP ?_; refine dwP ?_; (apply dw_look; (· exact rfl); (· exact rfl); (· (refine s_load (v := .map _) rfl mid0 rfl ?_; exact looked))); refine dwP ?_; refine dwP ?_; refine dwL ?_; refine dwP ?_; skip)
        refine dw_do rfl rfl ?_ dw_stop
        refine s_mentry (k := y) (v := lk 0 0 false false) rfl rfl (by rw [hmy]; rfl) rfl ?_
        intro st
        refine wpl_nil (qone ⟨(by (refine st_again ?_ ?_; (· exact looked)); refine st_past (by kernel_rfl) ?_; exact st_nil), ?_⟩)
        (refine dwP ?_; skip)
        refine dw_do0 rfl rfl ?_ dw_stop
        refine s_mestore (v := lk 0 0 false false) (k := y) (st := st) rfl rfl rfl ?_
        rw [mset_mset]
        refine wpl_nil (qone0 ⟨(by refine st_past (by kernel_rfl) ?_; refine st_past (by kernel_rfl) ?_; exact st_nil), ?_⟩)
        (refine dwP ?_; refine dwP ?_; skip)
        refine dw_do0 rfl rfl ?_ dw_stop
        refine s_storeM2 (v := .int .i64 y) rfl rfl rfl ?_
        refine wpl_nil (qone0 ⟨(by refine st_past (by kernel_rfl) ?_; refine st_past (by kernel_rfl) ?_; exact st_nil), ?_⟩)
        (refine dw_nil ?_; skip)
        refine walkG ?_
        repeat ((first | (show WPL _ _ _ _ _ (⟨_, .load _ _, _, _, _, none⟩ :: _) _ _ _; first | refine s_load (v := .int _ _) rfl mid1 rfl ?_ | refine s_load (v := .int _ _) rfl mid2 rfl ?_ | refine s_load (v := .map _) rfl mid0 rfl ?_) | (show WPL _ _ _ _ _ (⟨_, .alloc _, _, _, _, none⟩ :: _) _ _ _; refine s_alloc rfl ?_; intro _)); refine walkG ?_)
        exact ⟨some (mset m y (lk 0 0 false false), y, y), asided, agreed, Ent.auto, fun w e => by cases e; exact hpu, by simp⟩
    · simp only [putAll]
      have hw := hk _ rfl
      refine walkG ?_
      repeat ((first | (show WPL _ _ _ _ _ (⟨_, .load _ _, _, _, _, none⟩ :: _) _ _ _; first | refine s_load (v := .int _ _) rfl mid1 rfl ?_ | refine s_load (v := .int _ _) rfl mid2 rfl ?_ | refine s_load (v := .map _) rfl mid0 rfl ?_) | (show WPL _ _ _ _ _ (⟨_, .alloc _, _, _, _, none⟩ :: _) _ _ _; refine s_alloc rfl ?_; intro _)); refine walkG ?_)
      (first | (apply retRD1 (G := (blk p (A ++ .map (some b) :: .int .i64 h' :: .int .i64 t' :: Z) e + (MapAt b m' + F))) (.inr rfl) rfl; (· first | (refine rv_tmp (v := .int _ _) rfl) | exact rv_tmp rfl); (· exact Ent.auto)) | (apply retRD1 (G := (blk p (A ++ .map (some b) :: .int .i64 h' :: .int .i64 t' :: Z) e + (MapAt b m' + F))) (.inl rfl) rfl; (· first | (refine rv_tmp (v := .int _ _) rfl) | exact rv_tmp rfl); (· exact Ent.auto)))
      exact ⟨b, m', h', t', rfl, hw, rfl⟩
  | some x =>
    obtain ⟨b, m⟩ := x
    have hf : LinkF L m h t := hf
    simp only [mapV, mapH]
    refine walkG ?_
    repeat ((first | (show WPL _ _ _ _ _ (⟨_, .load _ _, _, _, _, none⟩ :: _) _ _ _; first | refine s_load (v := .int _ _) rfl mid1 rfl ?_ | refine s_load (v := .int _ _) rfl mid2 rfl ?_ | refine s_load (v := .map _) rfl mid0 rfl ?_) | (show WPL _ _ _ _ _ (⟨_, .alloc _, _, _, _, none⟩ :: _) _ _ _; refine s_alloc rfl ?_; intro _)); refine walkG ?_)
    refine s_eqnilM (b := false) rfl rfl rfl rfl ?_
    refine walkG ?_
    repeat ((first | (show WPL _ _ _ _ _ (⟨_, .load _ _, _, _, _, none⟩ :: _) _ _ _; first | refine s_load (v := .int _ _) rfl mid1 rfl ?_ | refine s_load (v := .int _ _) rfl mid2 rfl ?_ | refine s_load (v := .map _) rfl mid0 rfl ?_) | (show WPL _ _ _ _ _ (⟨_, .alloc _, _, _, _, none⟩ :: _) _ _ _; refine s_alloc rfl ?_; intro _)); refine walkG ?_)
    refine wp_loopF (α := Option (Assoc × Int × Int)) [6, 7, 8, 28, 29, 30, 31, 32, 33, 34, 35, 36, 37, 38, 39, 40, 41, 42, 43, 44, 45, 46, 47, 48, 49, 50, 51, 52, 53, 54, 55, 56, 57, 58, 59, 60, 61, 62, 63, 64, 65, 66, 67, 68, 69, 70, 71, 72, 73, 74, 75, 76, 77, 78, 79, 80, 81, 82] (fun k => match k with | none => [(28, .int .i64 ((0 : Nat) : Int))] | some _ => [(28, .int .i64 ((1 : Nat) : Int))]) (fun k => match k with | none => blk p (A ++ .map (some b) :: .int .i64 h :: .int .i64 t :: Z) e + (MapAt b m + F) | some w => blk p (A ++ .map (some b) :: .int .i64 w.2.1 :: .int .i64 w.2.2 :: Z) e + (MapAt b w.1 + F)) (fun k => ∀ w, k = some w → LinkF (L ++ [y]) w.1 w.2.1 w.2.2) (fun k => if k.isNone then 1 else 0) none agreed (Ent.refl _) (by simp) ?_
    rintro (_ | ⟨m', h', t'⟩) g hk
    · simp only [putAll]
      clear hk
      have hmy : mget m y = none := by
        have := hf.there (x := y)
        rw [decide_eq_false hy] at this
        cases hm : mget m y with
        | none => rfl
        | some v => rw [hm] at this; simp at this
      refine walkG ?_
      repeat ((first | (show WPL _ _ _ _ _ (⟨_, .load _ _, _, _, _, none⟩ :: _) _ _ _; first | refine s_load (v := .int _ _) rfl mid1 rfl ?_ | refine s_load (v := .int _ _) rfl mid2 rfl ?_ | refine s_load (v := .map _) rfl mid0 rfl ?_) | (show WPL _ _ _ _ _ (⟨_, .alloc _, _, _, _, none⟩ :: _) _ _ _; refine s_alloc rfl ?_; intro _)); refine walkG ?_)
      (refine s_build (cs := [.int .i64 0, .int .i64 0, .bool false, .bool false]) ?_ rfl ?_; (· kernel_rfl))
      refine walkG ?_
      repeat ((first | (show WPL _ _ _ _ _ (⟨_, .load _ _, _, _, _, none⟩ :: _) _ _ _; first | refine s_load (v := .int _ _) rfl mid1 rfl ?_ | refine s_load (v := .int _ _) rfl mid2 rfl ?_ | refine s_load (v := .map _) rfl mid0 rfl ?_) | (show WPL _ _ _ _ _ (⟨_, .alloc _, _, _, _, none⟩ :: _) _ _ _; refine s_alloc rfl ?_; intro _)); refine walkG ?_)
      refine s_mlen rfl rfl ?_
      rw [hf.len]
      by_cases hL : 0 < L.length
      · skip
        have hne : L ≠ [] := fun e => by rw [e] at hL; simp at hL
        obtain ⟨a, b0, pp, hm, hpu⟩ := hf.push hne hy
        have hty : ¬ y = t := fun e => by rw [e, hm] at hmy; cases hmy
        refine walkG ?_
        repeat ((first | (show WPL _ _ _ _ _ (⟨_, .load _ _, _, _, _, none⟩ :: _) _ _ _; first | refine s_load (v := .int _ _) rfl mid1 rfl ?_ | refine s_load (v := .int _ _) rfl mid2 rfl ?_ | refine s_load (v := .map _) rfl mid0 rfl ?_) | (show WPL _ _ _ _ _ (⟨_, .alloc _, _, _, _, none⟩ :: _) _ _ _; refine s_alloc rfl ?_; intro _)); refine walkG ?_)
        (refine wp_draw [9, 10] (.look 0 (.look 1 (.look 2 (.look 3 (.look 4 (.look 5 (.look 6 (.look 7 (.look 8 (.act 9 (.act 10 .nil .stop) .stop)))))))))) (by kernel_rfl) ?_; refine dwP ?_; refine dwP ?_; refine dwP ?_; (apply dw_look; (· exact rfl); (· exact rfl); (· (refine s_load (v := .map _) rfl mid0 rfl ?_; exact looked))); refine dwP ?_; refine dwP ?_; refine dwP ?_; (apply dw_look; (· exact rfl); (· exact rfl); (· (refine s_load (v := .int _ _) rfl mid2 rfl ?_; exact looked))); (apply dw_look; (· exact rfl); (· exact rfl); (· (refine s_mget (v := lk a b0 pp false) rfl rfl (by rw [hm]; rfl) rfl ?_; exact looked))); skip)
        refine dw_do rfl rfl ?_ dw_stop
        refine s_alloc rfl ?_
        intro b9
        refine wpl_nil (qone ⟨(by (refine st_again ?_ ?_; (· refine s_mget (v := lk a b0 pp false) rfl rfl (by rw [hm]; rfl) rfl ?_; exact looked)); (refine st_again ?_ ?_; (· refine s_load (v := .int _ _) rfl mid2 rfl ?_; exact looked)); (refine st_again ?_ ?_; (· refine s_load (v := .map _) rfl mid0 rfl ?_; exact looked)); exact st_nil), ?_⟩)
        (skip)
        refine dw_do0 rfl rfl ?_ dw_stop
        (first | refine s_store1 (v := .int _ _) rfl rfl rfl rfl ?_ | refine s_store1 (v := .pointer _) rfl rfl rfl rfl ?_ | refine s_store1 (v := .slice _ _ _) rfl rfl rfl rfl ?_ | refine s_store1 (v := .bool _) rfl rfl rfl rfl ?_ | refine s_store1 (v := .string _) rfl rfl rfl rfl ?_ | refine s_store1 (v := .map _) rfl rfl rfl rfl ?_ | refine s_store1 (v := _) rfl rfl rfl rfl ?_ | refine s_storeV rfl rfl rfl rfl rfl ?_)
        refine wpl_nil (qone0 ⟨(by refine st_past (by kernel_rfl) ?_; refine st_past (by kernel_rfl) ?_; refine st_past (by kernel_rfl) ?_; exact st_nil), ?_⟩)
        (refine dw_nil ?_; skip)
        refine walkG ?_
        repeat ((first | (show WPL _ _ _ _ _ (⟨_, .load _ _, _, _, _, none⟩ :: _) _ _ _; first | refine s_load (v := .int _ _) rfl mid1 rfl ?_ | refine s_load (v := .int _ _) rfl mid2 rfl ?_ | refine s_load (v := .map _) rfl mid0 rfl ?_) | (show WPL _ _ _ _ _ (⟨_, .alloc _, _, _, _, none⟩ :: _) _ _ _; refine s_alloc rfl ?_; intro _)); refine walkG ?_)
        (refine wp_draw [9] (.look 0 (.look 1 (.look 2 (.look 3 (.look 4 (.look 5 (.look 6 (.look 7 (.look 8 (.act 9 .nil .stop)))))))))) (by kernel_rfl) ?_; refine dwP ?_; refine dwP ?_; refine dwP ?_; (apply dw_look; (· exact rfl); (· exact rfl); (· (refine s_load (v := .map _) rfl mid0 rfl ?_; exact looked))); refine dwP ?_; refine dwP ?_; refine dwP ?_; (apply dw_look; (· exact rfl); (· exact rfl); (· (refine s_load (v := .int _ _) rfl mid2 rfl ?_; exact looked))); refine dwL ?_; skip)
        refine dw_do0 rfl rfl ?_ dw_stop
        refine s_mset (v := lk a y pp true) (k := t) rfl rfl rfl ?_
        refine wpl_nil (qone0 ⟨(by refine st_past (by kernel_rfl) ?_; refine st_past (by kernel_rfl) ?_; refine st_past (by kernel_rfl) ?_; exact st_nil), ?_⟩)
        (refine dw_nil ?_; skip)
        refine walkG ?_
        repeat ((first | (show WPL _ _ _ _ _ (⟨_, .load _ _, _, _, _, none⟩ :: _) _ _ _; first | refine s_load (v := .int _ _) rfl mid1 rfl ?_ | refine s_load (v := .int _ _) rfl mid2 rfl ?_ | refine s_load (v := .map _) rfl mid0 rfl ?_) | (show WPL _ _ _ _ _ (⟨_, .alloc _, _, _, _, none⟩ :: _) _ _ _; refine s_alloc rfl ?_; intro _)); refine walkG ?_)
        (refine wp_draw [8, 10, 13] (.look 0 (.look 1 (.look 2 (.look 3 (.look 4 (.look 5 (.look 6 (.look 7 (.act 8 (.look 9 (.act 10 (.look 11 (.look 12 (.act 13 .nil .stop))) .stop)) .stop))))))))) (by kernel_rfl) ?_; refine dwP ?_; refine dwP ?_; refine dwP ?_; (apply dw_look; (· exact rfl); (· exact rfl); (· (refine s_load (v := .map _) rfl mid0 rfl ?_; exact looked))); refine dwP ?_; refine dwP ?_; refine dwL ?_; refine dwP ?_; skip)
        refine dw_do rfl rfl ?_ dw_stop
        refine s_mentry (k := y) (v := lk 0 0 false false) rfl rfl (by rw [mget_mset, if_neg hty, hmy]; rfl) rfl ?_
        intro st
        refine wpl_nil (qone ⟨(by (refine st_again ?_ ?_; (· exact looked)); refine st_past (by kernel_rfl) ?_; exact st_nil), ?_⟩)
        (refine dwP ?_; skip)
        refine dw_do0 rfl rfl ?_ dw_stop
        refine s_mestore (v := lk t 0 true false) (k := y) (st := st) rfl rfl rfl ?_
        rw [mset_mset]
        refine wpl_nil (qone0 ⟨(by refine st_past (by kernel_rfl) ?_; refine st_past (by kernel_rfl) ?_; exact st_nil), ?_⟩)
        (refine dwP ?_; refine dwP ?_; skip)
        refine dw_do0 rfl rfl ?_ dw_stop
        refine s_storeM2 (v := .int .i64 y) rfl rfl rfl ?_
        refine wpl_nil (qone0 ⟨(by refine st_past (by kernel_rfl) ?_; refine st_past (by kernel_rfl) ?_; exact st_nil), ?_⟩)
        (refine dw_nil ?_; skip)
        refine walkG ?_
        repeat ((first | (show WPL _ _ _ _ _ (⟨_, .load _ _, _, _, _, none⟩ :: _) _ _ _; first | refine s_load (v := .int _ _) rfl mid1 rfl ?_ | refine s_load (v := .int _ _) rfl mid2 rfl ?_ | refine s_load (v := .map _) rfl mid0 rfl ?_) | (show WPL _ _ _ _ _ (⟨_, .alloc _, _, _, _, none⟩ :: _) _ _ _; refine s_alloc rfl ?_; intro _)); refine walkG ?_)
        exact ⟨some (mset (mset m t (lk a y pp true)) y (lk t 0 true false), h, y), asided, agreed, Ent.auto, fun w e => by cases e; exact hpu, by simp⟩
      · skip
        have hL0 : L = [] := List.length_eq_zero_iff.1 (by omega)
        subst hL0
        have hpu := hf.first (x := y)
        refine walkG ?_
        repeat ((first | (show WPL _ _ _ _ _ (⟨_, .load _ _, _, _, _, none⟩ :: _) _ _ _; first | refine s_load (v := .int _ _) rfl mid1 rfl ?_ | refine s_load (v := .int _ _) rfl mid2 rfl ?_ | refine s_load (v := .map _) rfl mid0 rfl ?_) | (show WPL _ _ _ _ _ (⟨_, .alloc _, _, _, _, none⟩ :: _) _ _ _; refine s_alloc rfl ?_; intro _)); refine walkG ?_)
        refine s_storeM1 (v := .int .i64 y) rfl rfl rfl ?_
        refine walkG ?_
        repeat ((first | (show WPL _ _ _ _ _ (⟨_, .load _ _, _, _, _, none⟩ :: _) _ _ _; first | refine s_load (v := .int _ _) rfl mid1 rfl ?_ | refine s_load (v := .int _ _) rfl mid2 rfl ?_ | refine s_load (v := .map _) rfl mid0 rfl ?_) | (show WPL _ _ _ _ _ (⟨_, .alloc _, _, _, _, none⟩ :: _) _ _ _; refine s_alloc rfl ?_; intro _)); refine walkG ?_)
        (refine wp_draw [8, 10, 13] (.look 0 (.look 1 (.look 2 (.look 3 (.look 4 (.look 5 (.look 6 (.look 7 (.act 8 (.look 9 (.act 10 (.look 11 (.look 12 (.act 13 .nil .stop))) .stop)) .stop))))))))) (by kernel_rfl) ?_; refine dwP ?_; refine dwP ?_; refine dwP ?_; (apply dw_look; (· exact rfl); (· exact rfl); (· (refine s_load (v := .map _) rfl mid0 rfl ?_; exact looked))); refine dwP ?_; refine dwP ?_; refine dwL ?_; refine dwP ?_; skip)
        refine dw_do rfl rfl ?_ dw_stop
        refine s_mentry (k := y) (v := lk 0 0 false false) rfl rfl (by rw [hmy]; rfl) rfl ?_
        intro st
        refine wpl_nil (qone ⟨(by (refine st_again ?_ ?_; (· exact looked)); refine st_past (by kernel_rfl) ?_; exact st_nil), ?_⟩)
        (refine dwP ?_; skip)
        refine dw_do0 rfl rfl ?_ dw_stop
        refine s_mestore (v := lk 0 0 false false) (k := y) (st := st) rfl rfl rfl ?_
        rw [mset_mset]
        refine wpl_nil (qone0 ⟨(by refine st_past (by kernel_rfl) ?_; refine st_past (by kernel_rfl) ?_; exact st_nil), ?_⟩)
        (refine dwP ?_; refine dwP ?_; skip)
        refine dw_do0 rfl rfl ?_ dw_stop
        refine s_storeM2 (v := .int .i64 y) rfl rfl rfl ?_
        refine wpl_nil (qone0 ⟨(by refine st_past (by kernel_rfl) ?_; refine st_past (by kernel_rfl) ?_; exact st_nil), ?_⟩)
        (refine dw_nil ?_; skip)
        refine walkG ?_
        repeat ((first | (show WPL _ _ _ _ _ (⟨_, .load _ _, _, _, _, none⟩ :: _) _ _ _; first | refine s_load (v := .int _ _) rfl mid1 rfl ?_ | refine s_load (v := .int _ _) rfl mid2 rfl ?_ | refine s_load (v := .map _) rfl mid0 rfl ?_) | (show WPL _ _ _ _ _ (⟨_, .alloc _, _, _, _, none⟩ :: _) _ _ _; refine s_alloc rfl ?_; intro _)); refine walkG ?_)
        exact ⟨some (mset m y (lk 0 0 false false), y, y), asided, agreed, Ent.auto, fun w e => by cases e; exact hpu, by simp⟩
    · simp only [putAll]
      have hw := hk _ rfl
      refine walkG ?_
      repeat ((first | (show WPL _ _ _ _ _ (⟨_, .load _ _, _, _, _, none⟩ :: _) _ _ _; first | refine s_load (v := .int _ _) rfl mid1 rfl ?_ | refine s_load (v := .int _ _) rfl mid2 rfl ?_ | refine s_load (v := .map _) rfl mid0 rfl ?_) | (show WPL _ _ _ _ _ (⟨_, .alloc _, _, _, _, none⟩ :: _) _ _ _; refine s_alloc rfl ?_; intro _)); refine walkG ?_)
      (first | (apply retRD1 (G := (blk p (A ++ .map (some b) :: .int .i64 h' :: .int .i64 t' :: Z) e + (MapAt b m' + F))) (.inr rfl) rfl; (· first | (refine rv_tmp (v := .int _ _) rfl) | exact rv_tmp rfl); (· exact Ent.auto)) | (apply retRD1 (G := (blk p (A ++ .map (some b) :: .int .i64 h' :: .int .i64 t' :: Z) e + (MapAt b m' + F))) (.inl rfl) rfl; (· first | (refine rv_tmp (v := .int _ _) rfl) | exact rv_tmp rfl); (· exact Ent.auto)))
      exact ⟨b, m', h', t', rfl, hw, rfl⟩
end
end Go.Proofs.YtlhnmbajbhaaoaaGreat
namespace Go.Proofs.YtlhnmbajbhaaoaaGreat
open Go Go.SL
set_option linter.unusedSimpArgs false
set_option linter.unusedVariables false
set_option maxRecDepth 10000
set_option maxHeartbeats 2000000
attribute [local irreducible] WP WPL QSeq QBlk QRet Does Cell Cells Rd Mine Ent Aside RV Yield
section
variable {B : World} {F H G : HProp} {p o e : Nat} {L : List Int} {y h t : Int} {s : Value} {x : MapO} {A Z : List Value}
theorem getD_of {m : Assoc} {k : Int} {v z : Value} (h : mget m k = some v) : (mget m k).getD z = v := by rw [h]; rfl
theorem erase_at {k : Nat} (hn : L.Nodup) (hk : L[k]? = some y) : L.erase y = L.eraseIdx k := by
  induction L generalizing k with
  | nil => simp at hk
  | cons a l ih =>
    have hn' := List.nodup_cons.1 hn
    cases k with
    | zero => simp at hk; subst hk; simp
    | succ k =>
      simp at hk
      have hay : ¬ a = y := fun e => hn'.1 (e ▸ mem_of_at hk)
      rw [List.erase_cons, if_neg (by simpa using hay), List.eraseIdx_cons_succ, ih hn'.2 hk]
theorem vals3 {m : Assoc} {P : Int → Value → Prop} (hv : ∀ k v, mget m k = some v → ∃ a b p q, v = lk a b p q) (k : Int) : ∃ a b p q bo, (mget m k).getD (lk 0 0 false false) = lk a b p q ∧ (mget m k).isSome = bo ∧ (bo = true → mget m k = some (lk a b p q)) := by
  cases hm : mget m k with
  | none => exact ⟨0, 0, false, false, false, rfl, rfl, by simp⟩
  | some v =>
    obtain ⟨a, b, p, q, rfl⟩ := hv k v hm
    exact ⟨a, b, p, q, true, rfl, rfl, fun _ => rfl⟩
theorem rgIzFifo40 {p q : Prop} (k : q) (h : Owed q → p := by
  intro k_
  show WP _ _ _ _ (.region 7 _ true) _ _ _; (refine wp_draw [5, 7] (.look 0 (.look 1 (.look 2 (.look 3 (.look 4 (.act 5 (.look 6 (.act 7 .nil .stop)) .stop)))))) (by kernel_rfl) ?_; refine dwP ?_; refine dwL ?_; refine dwP ?_; refine dwL ?_; refine dwP ?_; skip); refine dw_do0 rfl rfl ?_ dw_stop; (first | refine s_store1 (v := .int _ _) rfl rfl rfl rfl ?_ | refine s_store1 (v := .pointer _) rfl rfl rfl rfl ?_ | refine s_store1 (v := .slice _ _ _) rfl rfl rfl rfl ?_ | refine s_store1 (v := .bool _) rfl rfl rfl rfl ?_ | refine s_store1 (v := .string _) rfl rfl rfl rfl ?_ | refine s_store1 (v := .map _) rfl rfl rfl rfl ?_ | refine s_store1 (v := _) rfl rfl rfl rfl ?_ | refine s_storeV rfl rfl rfl rfl rfl ?_); refine wpl_nil (qone0 ⟨(by (refine st_again ?_ ?_; (· exact looked)); refine st_past (by kernel_rfl) ?_; exact st_nil), ?_⟩); (refine dwP ?_; skip); refine dw_do0 rfl rfl ?_ dw_stop; (first | refine s_store1 (v := .int _ _) rfl rfl rfl rfl ?_ | refine s_store1 (v := .pointer _) rfl rfl rfl rfl ?_ | refine s_store1 (v := .slice _ _ _) rfl rfl rfl rfl ?_ | refine s_store1 (v := .bool _) rfl rfl rfl rfl ?_ | refine s_store1 (v := .string _) rfl rfl rfl rfl ?_ | refine s_store1 (v := .map _) rfl rfl rfl rfl ?_ | refine s_store1 (v := _) rfl rfl rfl rfl ?_ | refine s_storeV rfl rfl rfl rfl rfl ?_); refine wpl_nil (qone0 ⟨(by refine st_past (by kernel_rfl) ?_; refine st_past (by kernel_rfl) ?_; exact st_nil), ?_⟩); (refine dw_nil ?_; skip)
  exact k_.get) : p := h ⟨k⟩
theorem rgIzFifo41 {p q : Prop} (k : q) (h : Owed q → p := by
  intro k_
  show WP _ _ _ _ (.region 12 _ true) _ _ _; (refine wp_draw [5, 7] (.look 0 (.look 1 (.look 2 (.look 3 (.look 4 (.act 5 (.look 6 (.act 7 .nil .stop)) .stop)))))) (by kernel_rfl) ?_; refine dwP ?_; refine dwL ?_; refine dwP ?_; refine dwL ?_; refine dwP ?_; skip); refine dw_do0 rfl rfl ?_ dw_stop; (first | refine s_store1 (v := .int _ _) rfl rfl rfl rfl ?_ | refine s_store1 (v := .pointer _) rfl rfl rfl rfl ?_ | refine s_store1 (v := .slice _ _ _) rfl rfl rfl rfl ?_ | refine s_store1 (v := .bool _) rfl rfl rfl rfl ?_ | refine s_store1 (v := .string _) rfl rfl rfl rfl ?_ | refine s_store1 (v := .map _) rfl rfl rfl rfl ?_ | refine s_store1 (v := _) rfl rfl rfl rfl ?_ | refine s_storeV rfl rfl rfl rfl rfl ?_); refine wpl_nil (qone0 ⟨(by (refine st_again ?_ ?_; (· exact looked)); refine st_past (by kernel_rfl) ?_; exact st_nil), ?_⟩); (refine dwP ?_; skip); refine dw_do0 rfl rfl ?_ dw_stop; (first | refine s_store1 (v := .int _ _) rfl rfl rfl rfl ?_ | refine s_store1 (v := .pointer _) rfl rfl rfl rfl ?_ | refine s_store1 (v := .slice _ _ _) rfl rfl rfl rfl ?_ | refine s_store1 (v := .bool _) rfl rfl rfl rfl ?_ | refine s_store1 (v := .string _) rfl rfl rfl rfl ?_ | refine s_store1 (v := .map _) rfl rfl rfl rfl ?_ | refine s_store1 (v := _) rfl rfl rfl rfl ?_ | refine s_storeV rfl rfl rfl rfl rfl ?_); refine wpl_nil (qone0 ⟨(by refine st_past (by kernel_rfl) ?_; refine st_past (by kernel_rfl) ?_; exact st_nil), ?_⟩); (refine dw_nil ?_; skip)
  exact k_.get) : p := h ⟨k⟩
theorem lnRemove (hf : LnF x h t L) : Does Tryz.prog B 125 [.pointer (some ⟨p, A.length, none⟩), .int .i64 y] (blk p (A ++ mapV x :: .int .i64 h :: .int .i64 t :: Z) e + (mapH x + F)) fun r H' =>
      r = .bool (decide (y ∈ L)) ∧ ∃ x' h' t', LnF x' h' t' (L.erase y) ∧ H' = blk p (A ++ mapV x' :: .int .i64 h' :: .int .i64 t' :: Z) e + (mapH x' + F) := by
  refine fn_intro 91 Tryz.func125 rfl rfl rfl ?_
  refine walk ?_
  refine s_call rfl (lnHas (y := y) (lnIn0 hf)) rfl ?_
  rintro _ _ ⟨e_, rfl⟩
  obtain rfl := e_.symm
  refine walk ?_
  by_cases hy : y ∈ L
  · rw [decide_eq_true hy]
    cases x with
    | none => exact absurd hy (by rw [show L = [] from hf]; simp)
    | some x =>
      obtain ⟨b, m⟩ := x
      have hf : LinkF L m h t := hf
      obtain ⟨k, hk⟩ := List.getElem?_of_mem hy
      rw [erase_at hf.nd hk]
      obtain ⟨a, c, hm, hka, hkc, hcut⟩ := hf.cut hk
      have hkl : k < L.length := (List.getElem?_eq_some_iff.1 hk).1
      simp only [mapV, mapH]
      have hv1 : ∀ u v, mget (mdel m y) u = some v → ∃ a b p q, v = lk a b p q := by
        intro u v hu
        rw [mget_mdel hf.knd] at hu
        split at hu
        · cases hu
        · obtain ⟨_, a, b, _, rfl⟩ := hf.vals hu
          exact ⟨_, _, _, _, rfl⟩
      obtain ⟨a1, b1, p1, q1, bo1, hg1, hs1, hy1⟩ := vals3 (P := fun _ _ => True) hv1 a
      have hb1 : 0 < k → bo1 = true := by
        intro h0
        have hne : ¬ a = y := fun e => by
          have h1 := hka h0
          rw [e] at h1
          have := nd_inj hf.nd h1 hk
          omega
        rw [← hs1, mget_mdel hf.knd, if_neg hne]
        rw [hf.there]
        exact decide_eq_true (mem_of_at (hka h0))
      refine walkG ?_
      repeat ((first | (show WPL _ _ _ _ _ (⟨_, .load _ _, _, _, _, none⟩ :: _) _ _ _; first | refine s_load (v := .int _ _) rfl mid1 rfl ?_ | refine s_load (v := .int _ _) rfl mid2 rfl ?_ | refine s_load (v := .map _) rfl mid0 rfl ?_) | (show WPL _ _ _ _ _ (⟨_, .alloc _, _, _, _, none⟩ :: _) _ _ _; refine s_alloc rfl ?_; intro _) | (refine rgIzFifo40 ?_) | (refine rgIzFifo41 ?_)); refine walkG ?_)
      refine s_mget (v := lk a c (decide (0 < k)) (decide (k + 1 < L.length))) rfl rfl (getD_of hm) rfl ?_
      refine walkG ?_
      repeat ((first | (show WPL _ _ _ _ _ (⟨_, .load _ _, _, _, _, none⟩ :: _) _ _ _; first | refine s_load (v := .int _ _) rfl mid1 rfl ?_ | refine s_load (v := .int _ _) rfl mid2 rfl ?_ | refine s_load (v := .map _) rfl mid0 rfl ?_) | (show WPL _ _ _ _ _ (⟨_, .alloc _, _, _, _, none⟩ :: _) _ _ _; refine s_alloc rfl ?_; intro _) | (refine rgIzFifo40 ?_) | (refine rgIzFifo41 ?_)); refine walkG ?_)
      refine s_mdel0 (k := y) rfl rfl ?_
      refine walkG ?_
      repeat ((first | (show WPL _ _ _ _ _ (⟨_, .load _ _, _, _, _, none⟩ :: _) _ _ _; first | refine s_load (v := .int _ _) rfl mid1 rfl ?_ | refine s_load (v := .int _ _) rfl mid2 rfl ?_ | refine s_load (v := .map _) rfl mid0 rfl ?_) | (show WPL _ _ _ _ _ (⟨_, .alloc _, _, _, _, none⟩ :: _) _ _ _; refine s_alloc rfl ?_; intro _) | (refine rgIzFifo40 ?_) | (refine rgIzFifo41 ?_)); refine walkG ?_)
      (refine wp_draw [10, 11] (.look 0 (.look 1 (.look 2 (.look 3 (.look 4 (.look 5 (.look 6 (.look 7 (.look 8 (.look 9 (.act 10 (.act 11 (.look 12 .nil) .stop) .stop))))))))))) (by kernel_rfl) ?_; refine dwP ?_; refine dwP ?_; refine dwP ?_; (apply dw_look; (· exact rfl); (· exact rfl); (· (refine s_load (v := .map _) rfl mid0 rfl ?_; exact looked))); refine dwP ?_; refine dwL ?_; (apply dw_look; (· exact rfl); (· exact rfl); (· (refine s_mget2 (v := lk a1 b1 p1 q1) (bo := bo1) rfl rfl hg1 hs1 rfl ?_; exact looked))); refine dwP ?_; refine dwP ?_; refine dwP ?_; skip)
      refine dw_do rfl rfl ?_ dw_stop
      refine s_alloc rfl ?_
      intro b10
      refine wpl_nil (qone ⟨(by (refine st_again ?_ ?_; (· refine s_mget2 (v := lk a1 b1 p1 q1) (bo := bo1) rfl rfl hg1 hs1 rfl ?_; exact looked)); (refine st_again ?_ ?_; (· exact looked)); (refine st_again ?_ ?_; (· refine s_load (v := .map _) rfl mid0 rfl ?_; exact looked)); exact st_nil), ?_⟩)
      (skip)
      refine dw_do0 rfl rfl ?_ dw_stop
      (first | refine s_store1 (v := .int _ _) rfl rfl rfl rfl ?_ | refine s_store1 (v := .pointer _) rfl rfl rfl rfl ?_ | refine s_store1 (v := .slice _ _ _) rfl rfl rfl rfl ?_ | refine s_store1 (v := .bool _) rfl rfl rfl rfl ?_ | refine s_store1 (v := .string _) rfl rfl rfl rfl ?_ | refine s_store1 (v := .map _) rfl rfl rfl rfl ?_ | refine s_store1 (v := _) rfl rfl rfl rfl ?_ | refine s_storeV rfl rfl rfl rfl rfl ?_)
      refine wpl_nil (qone0 ⟨(by refine st_past (by kernel_rfl) ?_; refine st_past (by kernel_rfl) ?_; refine st_past (by kernel_rfl) ?_; exact st_nil), ?_⟩)
      (refine dwP ?_; refine dw_nil ?_; skip)
      by_cases h0 : 0 < k
      · obtain rfl := hb1 h0
        have hm1 := hy1 rfl
        simp only [decide_eq_true h0] at *
        refine walkG ?_
        repeat ((first | (show WPL _ _ _ _ _ (⟨_, .load _ _, _, _, _, none⟩ :: _) _ _ _; first | refine s_load (v := .int _ _) rfl mid1 rfl ?_ | refine s_load (v := .int _ _) rfl mid2 rfl ?_ | refine s_load (v := .map _) rfl mid0 rfl ?_) | (show WPL _ _ _ _ _ (⟨_, .alloc _, _, _, _, none⟩ :: _) _ _ _; refine s_alloc rfl ?_; intro _) | (refine rgIzFifo40 ?_) | (refine rgIzFifo41 ?_)); refine walkG ?_)
        (refine wp_draw [7] (.look 0 (.look 1 (.look 2 (.look 3 (.look 4 (.look 5 (.look 6 (.act 7 .nil .stop)))))))) (by kernel_rfl) ?_; refine dwP ?_; refine dwP ?_; refine dwP ?_; (apply dw_look; (· exact rfl); (· exact rfl); (· (refine s_load (v := .map _) rfl mid0 rfl ?_; exact looked))); refine dwP ?_; refine dwL ?_; refine dwL ?_; skip)
        refine dw_do0 rfl rfl ?_ dw_stop
        refine s_mset (v := lk a1 c p1 (decide (k + 1 < L.length))) (k := a) rfl rfl rfl ?_
        refine wpl_nil (qone0 ⟨(by refine st_past (by kernel_rfl) ?_; refine st_past (by kernel_rfl) ?_; refine st_past (by kernel_rfl) ?_; exact st_nil), ?_⟩)
        (refine dw_nil ?_; skip)
        refine walkG ?_
        repeat ((first | (show WPL _ _ _ _ _ (⟨_, .load _ _, _, _, _, none⟩ :: _) _ _ _; first | refine s_load (v := .int _ _) rfl mid1 rfl ?_ | refine s_load (v := .int _ _) rfl mid2 rfl ?_ | refine s_load (v := .map _) rfl mid0 rfl ?_) | (show WPL _ _ _ _ _ (⟨_, .alloc _, _, _, _, none⟩ :: _) _ _ _; refine s_alloc rfl ?_; intro _) | (refine rgIzFifo40 ?_) | (refine rgIzFifo41 ?_)); refine walkG ?_)
        obtain ⟨m2, hm2⟩ : ∃ m2, m2 = mset (mdel m y) a (lk a1 c p1 (decide (k + 1 < L.length))) := ⟨_, rfl⟩
        have hnew := fun m3 t3 => hcut m2 (h) m3 t3 (by rw [if_pos h0]; exact ⟨a1, b1, p1, q1, hm1, hm2, rfl⟩)
        rw [← hm2]
        have hv2 : ∀ u v, mget m2 u = some v → ∃ a b p q, v = lk a b p q := by
          subst hm2
          intro u v hu
          first
            | exact hv1 u v hu
            | (rw [mget_mset] at hu; split at hu; (· cases hu; exact ⟨_, _, _, _, rfl⟩); (· exact hv1 u v hu))
        obtain ⟨a2, b2, p2, q2, bo2, hg2, hs2, hy2⟩ := vals3 (P := fun _ _ => True) hv2 c
        have hb2 : k + 1 < L.length → bo2 = true := by
          intro h1
          have hne : ¬ c = y := fun e => by
            have h2 := hkc h1
            rw [e] at h2
            have := nd_inj hf.nd h2 hk
            omega
          have hin : (mget (mdel m y) c).isSome = true := by
            rw [mget_mdel hf.knd, if_neg hne, hf.there]
            exact decide_eq_true (mem_of_at (hkc h1))
          rw [← hs2]
          subst hm2
          first
            | exact hin
            | (rw [mget_mset]; split; (· rfl); (· exact hin))
        clear hm2
        refine walkG ?_
        repeat ((first | (show WPL _ _ _ _ _ (⟨_, .load _ _, _, _, _, none⟩ :: _) _ _ _; first | refine s_load (v := .int _ _) rfl mid1 rfl ?_ | refine s_load (v := .int _ _) rfl mid2 rfl ?_ | refine s_load (v := .map _) rfl mid0 rfl ?_) | (show WPL _ _ _ _ _ (⟨_, .alloc _, _, _, _, none⟩ :: _) _ _ _; refine s_alloc rfl ?_; intro _) | (refine rgIzFifo40 ?_) | (refine rgIzFifo41 ?_)); refine walkG ?_)
        (refine wp_draw [10, 11] (.look 0 (.look 1 (.look 2 (.look 3 (.look 4 (.look 5 (.look 6 (.look 7 (.look 8 (.look 9 (.act 10 (.act 11 (.look 12 .nil) .stop) .stop))))))))))) (by kernel_rfl) ?_; refine dwP ?_; refine dwP ?_; refine dwP ?_; (apply dw_look; (· exact rfl); (· exact rfl); (· (refine s_load (v := .map _) rfl mid0 rfl ?_; exact looked))); refine dwP ?_; refine dwL ?_; (apply dw_look; (· exact rfl); (· exact rfl); (· (refine s_mget2 (v := lk a2 b2 p2 q2) (bo := bo2) rfl rfl hg2 hs2 rfl ?_; exact looked))); refine dwP ?_; refine dwP ?_; refine dwP ?_; skip)
        refine dw_do rfl rfl ?_ dw_stop
        refine s_alloc rfl ?_
        intro b10
        refine wpl_nil (qone ⟨(by (refine st_again ?_ ?_; (· refine s_mget2 (v := lk a2 b2 p2 q2) (bo := bo2) rfl rfl hg2 hs2 rfl ?_; exact looked)); (refine st_again ?_ ?_; (· exact looked)); (refine st_again ?_ ?_; (· refine s_load (v := .map _) rfl mid0 rfl ?_; exact looked)); exact st_nil), ?_⟩)
        (skip)
        refine dw_do0 rfl rfl ?_ dw_stop
        (first | refine s_store1 (v := .int _ _) rfl rfl rfl rfl ?_ | refine s_store1 (v := .pointer _) rfl rfl rfl rfl ?_ | refine s_store1 (v := .slice _ _ _) rfl rfl rfl rfl ?_ | refine s_store1 (v := .bool _) rfl rfl rfl rfl ?_ | refine s_store1 (v := .string _) rfl rfl rfl rfl ?_ | refine s_store1 (v := .map _) rfl rfl rfl rfl ?_ | refine s_store1 (v := _) rfl rfl rfl rfl ?_ | refine s_storeV rfl rfl rfl rfl rfl ?_)
        refine wpl_nil (qone0 ⟨(by refine st_past (by kernel_rfl) ?_; refine st_past (by kernel_rfl) ?_; refine st_past (by kernel_rfl) ?_; exact st_nil), ?_⟩)
        (refine dwP ?_; refine dw_nil ?_; skip)
        by_cases h1 : k + 1 < L.length
        · obtain rfl := hb2 h1
          have hm2 := hy2 rfl
          simp only [decide_eq_true h1] at *
          refine walkG ?_
          repeat ((first | (show WPL _ _ _ _ _ (⟨_, .load _ _, _, _, _, none⟩ :: _) _ _ _; first | refine s_load (v := .int _ _) rfl mid1 rfl ?_ | refine s_load (v := .int _ _) rfl mid2 rfl ?_ | refine s_load (v := .map _) rfl mid0 rfl ?_) | (show WPL _ _ _ _ _ (⟨_, .alloc _, _, _, _, none⟩ :: _) _ _ _; refine s_alloc rfl ?_; intro _) | (refine rgIzFifo40 ?_) | (refine rgIzFifo41 ?_)); refine walkG ?_)
          skip
          (refine wp_draw [7] (.look 0 (.look 1 (.look 2 (.look 3 (.look 4 (.look 5 (.look 6 (.act 7 .nil .stop)))))))) (by kernel_rfl) ?_; refine dwP ?_; refine dwP ?_; refine dwP ?_; (apply dw_look; (· exact rfl); (· exact rfl); (· (refine s_load (v := .map _) rfl mid0 rfl ?_; exact looked))); refine dwP ?_; refine dwL ?_; refine dwL ?_; skip)
          refine dw_do0 rfl rfl ?_ dw_stop
          refine s_mset (v := lk a b2 true q2) (k := c) rfl rfl rfl ?_
          refine wpl_nil (qone0 ⟨(by refine st_past (by kernel_rfl) ?_; refine st_past (by kernel_rfl) ?_; refine st_past (by kernel_rfl) ?_; exact st_nil), ?_⟩)
          (refine dw_nil ?_; skip)
          refine walkG ?_
          repeat ((first | (show WPL _ _ _ _ _ (⟨_, .load _ _, _, _, _, none⟩ :: _) _ _ _; first | refine s_load (v := .int _ _) rfl mid1 rfl ?_ | refine s_load (v := .int _ _) rfl mid2 rfl ?_ | refine s_load (v := .map _) rfl mid0 rfl ?_) | (show WPL _ _ _ _ _ (⟨_, .alloc _, _, _, _, none⟩ :: _) _ _ _; refine s_alloc rfl ?_; intro _) | (refine rgIzFifo40 ?_) | (refine rgIzFifo41 ?_)); refine walkG ?_)
          have hnew := hnew _ t (by rw [if_pos h1]; exact ⟨a2, b2, p2, q2, hm2, rfl, rfl⟩)
          (first | (apply retRD1 (G := (blk p (A ++ .map (some b) :: .int .i64 (h) :: .int .i64 t :: Z) e + (MapAt b (mset m2 c (lk a b2 true q2)) + F))) (.inr rfl) rfl; (· first | (refine rv_tmp (v := .bool _) rfl) | exact rv_tmp rfl); (· exact Ent.auto)) | (apply retRD1 (G := (blk p (A ++ .map (some b) :: .int .i64 (h) :: .int .i64 t :: Z) e + (MapAt b (mset m2 c (lk a b2 true q2)) + F))) (.inl rfl) rfl; (· first | (refine rv_tmp (v := .bool _) rfl) | exact rv_tmp rfl); (· exact Ent.auto)))
          exact ⟨rfl, some (b, _), _, _, hnew, rfl⟩
        · have hnew := hnew m2 a (by rw [if_neg h1]; exact ⟨rfl, rfl⟩)
          simp only [decide_eq_false h1] at *
          cases bo2
          all_goals skip
          · refine walkG ?_
            repeat ((first | (show WPL _ _ _ _ _ (⟨_, .load _ _, _, _, _, none⟩ :: _) _ _ _; first | refine s_load (v := .int _ _) rfl mid1 rfl ?_ | refine s_load (v := .int _ _) rfl mid2 rfl ?_ | refine s_load (v := .map _) rfl mid0 rfl ?_) | (show WPL _ _ _ _ _ (⟨_, .alloc _, _, _, _, none⟩ :: _) _ _ _; refine s_alloc rfl ?_; intro _) | (refine rgIzFifo40 ?_) | (refine rgIzFifo41 ?_)); refine walkG ?_)
            refine s_storeM2 (v := .int .i64 a) rfl rfl rfl ?_
            refine walkG ?_
            repeat ((first | (show WPL _ _ _ _ _ (⟨_, .load _ _, _, _, _, none⟩ :: _) _ _ _; first | refine s_load (v := .int _ _) rfl mid1 rfl ?_ | refine s_load (v := .int _ _) rfl mid2 rfl ?_ | refine s_load (v := .map _) rfl mid0 rfl ?_) | (show WPL _ _ _ _ _ (⟨_, .alloc _, _, _, _, none⟩ :: _) _ _ _; refine s_alloc rfl ?_; intro _) | (refine rgIzFifo40 ?_) | (refine rgIzFifo41 ?_)); refine walkG ?_)
            (first | (apply retRD1 (G := (blk p (A ++ .map (some b) :: .int .i64 (h) :: .int .i64 a :: Z) e + (MapAt b m2 + F))) (.inr rfl) rfl; (· first | (refine rv_tmp (v := .bool _) rfl) | exact rv_tmp rfl); (· exact Ent.auto)) | (apply retRD1 (G := (blk p (A ++ .map (some b) :: .int .i64 (h) :: .int .i64 a :: Z) e + (MapAt b m2 + F))) (.inl rfl) rfl; (· first | (refine rv_tmp (v := .bool _) rfl) | exact rv_tmp rfl); (· exact Ent.auto)))
            exact ⟨rfl, some (b, _), _, _, hnew, rfl⟩
          · refine walkG ?_
            repeat ((first | (show WPL _ _ _ _ _ (⟨_, .load _ _, _, _, _, none⟩ :: _) _ _ _; first | refine s_load (v := .int _ _) rfl mid1 rfl ?_ | refine s_load (v := .int _ _) rfl mid2 rfl ?_ | refine s_load (v := .map _) rfl mid0 rfl ?_) | (show WPL _ _ _ _ _ (⟨_, .alloc _, _, _, _, none⟩ :: _) _ _ _; refine s_alloc rfl ?_; intro _) | (refine rgIzFifo40 ?_) | (refine rgIzFifo41 ?_)); refine walkG ?_)
            refine s_storeM2 (v := .int .i64 a) rfl rfl rfl ?_
            refine walkG ?_
            repeat ((first | (show WPL _ _ _ _ _ (⟨_, .load _ _, _, _, _, none⟩ :: _) _ _ _; first | refine s_load (v := .int _ _) rfl mid1 rfl ?_ | refine s_load (v := .int _ _) rfl mid2 rfl ?_ | refine s_load (v := .map _) rfl mid0 rfl ?_) | (show WPL _ _ _ _ _ (⟨_, .alloc _, _, _, _, none⟩ :: _) _ _ _; refine s_alloc rfl ?_; intro _) | (refine rgIzFifo40 ?_) | (refine rgIzFifo41 ?_)); refine walkG ?_)
            (first | (apply retRD1 (G := (blk p (A ++ .map (some b) :: .int .i64 (h) :: .int .i64 a :: Z) e + (MapAt b m2 + F))) (.inr rfl) rfl; (· first | (refine rv_tmp (v := .bool _) rfl) | exact rv_tmp rfl); (· exact Ent.auto)) | (apply retRD1 (G := (blk p (A ++ .map (some b) :: .int .i64 (h) :: .int .i64 a :: Z) e + (MapAt b m2 + F))) (.inl rfl) rfl; (· first | (refine rv_tmp (v := .bool _) rfl) | exact rv_tmp rfl); (· exact Ent.auto)))
            exact ⟨rfl, some (b, _), _, _, hnew, rfl⟩
      · simp only [decide_eq_false h0] at *
        cases bo1
        · refine walkG ?_
          repeat ((first | (show WPL _ _ _ _ _ (⟨_, .load _ _, _, _, _, none⟩ :: _) _ _ _; first | refine s_load (v := .int _ _) rfl mid1 rfl ?_ | refine s_load (v := .int _ _) rfl mid2 rfl ?_ | refine s_load (v := .map _) rfl mid0 rfl ?_) | (show WPL _ _ _ _ _ (⟨_, .alloc _, _, _, _, none⟩ :: _) _ _ _; refine s_alloc rfl ?_; intro _) | (refine rgIzFifo40 ?_) | (refine rgIzFifo41 ?_)); refine walkG ?_)
          refine s_storeM1 (v := .int .i64 c) rfl rfl rfl ?_
          refine walkG ?_
          repeat ((first | (show WPL _ _ _ _ _ (⟨_, .load _ _, _, _, _, none⟩ :: _) _ _ _; first | refine s_load (v := .int _ _) rfl mid1 rfl ?_ | refine s_load (v := .int _ _) rfl mid2 rfl ?_ | refine s_load (v := .map _) rfl mid0 rfl ?_) | (show WPL _ _ _ _ _ (⟨_, .alloc _, _, _, _, none⟩ :: _) _ _ _; refine s_alloc rfl ?_; intro _) | (refine rgIzFifo40 ?_) | (refine rgIzFifo41 ?_)); refine walkG ?_)
          obtain ⟨m2, hm2⟩ : ∃ m2, m2 = mdel m y := ⟨_, rfl⟩
          have hnew := fun m3 t3 => hcut m2 (c) m3 t3 (by rw [if_neg h0]; exact ⟨hm2, rfl⟩)
          rw [← hm2]
          have hv2 : ∀ u v, mget m2 u = some v → ∃ a b p q, v = lk a b p q := by
            subst hm2
            intro u v hu
            first
              | exact hv1 u v hu
              | (rw [mget_mset] at hu; split at hu; (· cases hu; exact ⟨_, _, _, _, rfl⟩); (· exact hv1 u v hu))
          obtain ⟨a2, b2, p2, q2, bo2, hg2, hs2, hy2⟩ := vals3 (P := fun _ _ => True) hv2 c
          have hb2 : k + 1 < L.length → bo2 = true := by
            intro h1
            have hne : ¬ c = y := fun e => by
              have h2 := hkc h1
              rw [e] at h2
              have := nd_inj hf.nd h2 hk
              omega
            have hin : (mget (mdel m y) c).isSome = true := by
              rw [mget_mdel hf.knd, if_neg hne, hf.there]
              exact decide_eq_true (mem_of_at (hkc h1))
            rw [← hs2]
            subst hm2
            first
              | exact hin
              | (rw [mget_mset]; split; (· rfl); (· exact hin))
          clear hm2
          refine walkG ?_
          repeat ((first | (show WPL _ _ _ _ _ (⟨_, .load _ _, _, _, _, none⟩ :: _) _ _ _; first | refine s_load (v := .int _ _) rfl mid1 rfl ?_ | refine s_load (v := .int _ _) rfl mid2 rfl ?_ | refine s_load (v := .map _) rfl mid0 rfl ?_) | (show WPL _ _ _ _ _ (⟨_, .alloc _, _, _, _, none⟩ :: _) _ _ _; refine s_alloc rfl ?_; intro _) | (refine rgIzFifo40 ?_) | (refine rgIzFifo41 ?_)); refine walkG ?_)
          (refine wp_draw [10, 11] (.look 0 (.look 1 (.look 2 (.look 3 (.look 4 (.look 5 (.look 6 (.look 7 (.look 8 (.look 9 (.act 10 (.act 11 (.look 12 .nil) .stop) .stop))))))))))) (by kernel_rfl) ?_; refine dwP ?_; refine dwP ?_; refine dwP ?_; (apply dw_look; (· exact rfl); (· exact rfl); (· (refine s_load (v := .map _) rfl mid0 rfl ?_; exact looked))); refine dwP ?_; refine dwL ?_; (apply dw_look; (· exact rfl); (· exact rfl); (· (refine s_mget2 (v := lk a2 b2 p2 q2) (bo := bo2) rfl rfl hg2 hs2 rfl ?_; exact looked))); refine dwP ?_; refine dwP ?_; refine dwP ?_; skip)
          refine dw_do rfl rfl ?_ dw_stop
          refine s_alloc rfl ?_
          intro b10
          refine wpl_nil (qone ⟨(by (refine st_again ?_ ?_; (· refine s_mget2 (v := lk a2 b2 p2 q2) (bo := bo2) rfl rfl hg2 hs2 rfl ?_; exact looked)); (refine st_again ?_ ?_; (· exact looked)); (refine st_again ?_ ?_; (· refine s_load (v := .map _) rfl mid0 rfl ?_; exact looked)); exact st_nil), ?_⟩)
          (skip)
          refine dw_do0 rfl rfl ?_ dw_stop
          (first | refine s_store1 (v := .int _ _) rfl rfl rfl rfl ?_ | refine s_store1 (v := .pointer _) rfl rfl rfl rfl ?_ | refine s_store1 (v := .slice _ _ _) rfl rfl rfl rfl ?_ | refine s_store1 (v := .bool _) rfl rfl rfl rfl ?_ | refine s_store1 (v := .string _) rfl rfl rfl rfl ?_ | refine s_store1 (v := .map _) rfl rfl rfl rfl ?_ | refine s_store1 (v := _) rfl rfl rfl rfl ?_ | refine s_storeV rfl rfl rfl rfl rfl ?_)
          refine wpl_nil (qone0 ⟨(by refine st_past (by kernel_rfl) ?_; refine st_past (by kernel_rfl) ?_; refine st_past (by kernel_rfl) ?_; exact st_nil), ?_⟩)
          (refine dwP ?_; refine dw_nil ?_; skip)
          by_cases h1 : k + 1 < L.length
          · obtain rfl := hb2 h1
            have hm2 := hy2 rfl
            simp only [decide_eq_true h1] at *
            refine walkG ?_
            repeat ((first | (show WPL _ _ _ _ _ (⟨_, .load _ _, _, _, _, none⟩ :: _) _ _ _; first | refine s_load (v := .int _ _) rfl mid1 rfl ?_ | refine s_load (v := .int _ _) rfl mid2 rfl ?_ | refine s_load (v := .map _) rfl mid0 rfl ?_) | (show WPL _ _ _ _ _ (⟨_, .alloc _, _, _, _, none⟩ :: _) _ _ _; refine s_alloc rfl ?_; intro _) | (refine rgIzFifo40 ?_) | (refine rgIzFifo41 ?_)); refine walkG ?_)
            skip
            (refine wp_draw [7] (.look 0 (.look 1 (.look 2 (.look 3 (.look 4 (.look 5 (.look 6 (.act 7 .nil .stop)))))))) (by kernel_rfl) ?_; refine dwP ?_; refine dwP ?_; refine dwP ?_; (apply dw_look; (· exact rfl); (· exact rfl); (· (refine s_load (v := .map _) rfl mid0 rfl ?_; exact looked))); refine dwP ?_; refine dwL ?_; refine dwL ?_; skip)
            refine dw_do0 rfl rfl ?_ dw_stop
            refine s_mset (v := lk a b2 false q2) (k := c) rfl rfl rfl ?_
            refine wpl_nil (qone0 ⟨(by refine st_past (by kernel_rfl) ?_; refine st_past (by kernel_rfl) ?_; refine st_past (by kernel_rfl) ?_; exact st_nil), ?_⟩)
            (refine dw_nil ?_; skip)
            refine walkG ?_
            repeat ((first | (show WPL _ _ _ _ _ (⟨_, .load _ _, _, _, _, none⟩ :: _) _ _ _; first | refine s_load (v := .int _ _) rfl mid1 rfl ?_ | refine s_load (v := .int _ _) rfl mid2 rfl ?_ | refine s_load (v := .map _) rfl mid0 rfl ?_) | (show WPL _ _ _ _ _ (⟨_, .alloc _, _, _, _, none⟩ :: _) _ _ _; refine s_alloc rfl ?_; intro _) | (refine rgIzFifo40 ?_) | (refine rgIzFifo41 ?_)); refine walkG ?_)
            have hnew := hnew _ t (by rw [if_pos h1]; exact ⟨a2, b2, p2, q2, hm2, rfl, rfl⟩)
            (first | (apply retRD1 (G := (blk p (A ++ .map (some b) :: .int .i64 (c) :: .int .i64 t :: Z) e + (MapAt b (mset m2 c (lk a b2 false q2)) + F))) (.inr rfl) rfl; (· first | (refine rv_tmp (v := .bool _) rfl) | exact rv_tmp rfl); (· exact Ent.auto)) | (apply retRD1 (G := (blk p (A ++ .map (some b) :: .int .i64 (c) :: .int .i64 t :: Z) e + (MapAt b (mset m2 c (lk a b2 false q2)) + F))) (.inl rfl) rfl; (· first | (refine rv_tmp (v := .bool _) rfl) | exact rv_tmp rfl); (· exact Ent.auto)))
            exact ⟨rfl, some (b, _), _, _, hnew, rfl⟩
          · have hnew := hnew m2 a (by rw [if_neg h1]; exact ⟨rfl, rfl⟩)
            simp only [decide_eq_false h1] at *
            cases bo2
            all_goals skip
            · refine walkG ?_
              repeat ((first | (show WPL _ _ _ _ _ (⟨_, .load _ _, _, _, _, none⟩ :: _) _ _ _; first | refine s_load (v := .int _ _) rfl mid1 rfl ?_ | refine s_load (v := .int _ _) rfl mid2 rfl ?_ | refine s_load (v := .map _) rfl mid0 rfl ?_) | (show WPL _ _ _ _ _ (⟨_, .alloc _, _, _, _, none⟩ :: _) _ _ _; refine s_alloc rfl ?_; intro _) | (refine rgIzFifo40 ?_) | (refine rgIzFifo41 ?_)); refine walkG ?_)
              refine s_storeM2 (v := .int .i64 a) rfl rfl rfl ?_
              refine walkG ?_
              repeat ((first | (show WPL _ _ _ _ _ (⟨_, .load _ _, _, _, _, none⟩ :: _) _ _ _; first | refine s_load (v := .int _ _) rfl mid1 rfl ?_ | refine s_load (v := .int _ _) rfl mid2 rfl ?_ | refine s_load (v := .map _) rfl mid0 rfl ?_) | (show WPL _ _ _ _ _ (⟨_, .alloc _, _, _, _, none⟩ :: _) _ _ _; refine s_alloc rfl ?_; intro _) | (refine rgIzFifo40 ?_) | (refine rgIzFifo41 ?_)); refine walkG ?_)
              (first | (apply retRD1 (G := (blk p (A ++ .map (some b) :: .int .i64 (c) :: .int .i64 a :: Z) e + (MapAt b m2 + F))) (.inr rfl) rfl; (· first | (refine rv_tmp (v := .bool _) rfl) | exact rv_tmp rfl); (· exact Ent.auto)) | (apply retRD1 (G := (blk p (A ++ .map (some b) :: .int .i64 (c) :: .int .i64 a :: Z) e + (MapAt b m2 + F))) (.inl rfl) rfl; (· first | (refine rv_tmp (v := .bool _) rfl) | exact rv_tmp rfl); (· exact Ent.auto)))
              exact ⟨rfl, some (b, _), _, _, hnew, rfl⟩
            · refine walkG ?_
              repeat ((first | (show WPL _ _ _ _ _ (⟨_, .load _ _, _, _, _, none⟩ :: _) _ _ _; first | refine s_load (v := .int _ _) rfl mid1 rfl ?_ | refine s_load (v := .int _ _) rfl mid2 rfl ?_ | refine s_load (v := .map _) rfl mid0 rfl ?_) | (show WPL _ _ _ _ _ (⟨_, .alloc _, _, _, _, none⟩ :: _) _ _ _; refine s_alloc rfl ?_; intro _) | (refine rgIzFifo40 ?_) | (refine rgIzFifo41 ?_)); refine walkG ?_)
              refine s_storeM2 (v := .int .i64 a) rfl rfl rfl ?_
              refine walkG ?_
              repeat ((first | (show WPL _ _ _ _ _ (⟨_, .load _ _, _, _, _, none⟩ :: _) _ _ _; first | refine s_load (v := .int _ _) rfl mid1 rfl ?_ | refine s_load (v := .int _ _) rfl mid2 rfl ?_ | refine s_load (v := .map _) rfl mid0 rfl ?_) | (show WPL _ _ _ _ _ (⟨_, .alloc _, _, _, _, none⟩ :: _) _ _ _; refine s_alloc rfl ?_; intro _) | (refine rgIzFifo40 ?_) | (refine rgIzFifo41 ?_)); refine walkG ?_)
              (first | (apply retRD1 (G := (blk p (A ++ .map (some b) :: .int .i64 (c) :: .int .i64 a :: Z) e + (MapAt b m2 + F))) (.inr rfl) rfl; (· first | (refine rv_tmp (v := .bool _) rfl) | exact rv_tmp rfl); (· exact Ent.auto)) | (apply retRD1 (G := (blk p (A ++ .map (some b) :: .int .i64 (c) :: .int .i64 a :: Z) e + (MapAt b m2 + F))) (.inl rfl) rfl; (· first | (refine rv_tmp (v := .bool _) rfl) | exact rv_tmp rfl); (· exact Ent.auto)))
              exact ⟨rfl, some (b, _), _, _, hnew, rfl⟩
        · refine walkG ?_
          repeat ((first | (show WPL _ _ _ _ _ (⟨_, .load _ _, _, _, _, none⟩ :: _) _ _ _; first | refine s_load (v := .int _ _) rfl mid1 rfl ?_ | refine s_load (v := .int _ _) rfl mid2 rfl ?_ | refine s_load (v := .map _) rfl mid0 rfl ?_) | (show WPL _ _ _ _ _ (⟨_, .alloc _, _, _, _, none⟩ :: _) _ _ _; refine s_alloc rfl ?_; intro _) | (refine rgIzFifo40 ?_) | (refine rgIzFifo41 ?_)); refine walkG ?_)
          refine s_storeM1 (v := .int .i64 c) rfl rfl rfl ?_
          refine walkG ?_
          repeat ((first | (show WPL _ _ _ _ _ (⟨_, .load _ _, _, _, _, none⟩ :: _) _ _ _; first | refine s_load (v := .int _ _) rfl mid1 rfl ?_ | refine s_load (v := .int _ _) rfl mid2 rfl ?_ | refine s_load (v := .map _) rfl mid0 rfl ?_) | (show WPL _ _ _ _ _ (⟨_, .alloc _, _, _, _, none⟩ :: _) _ _ _; refine s_alloc rfl ?_; intro _) | (refine rgIzFifo40 ?_) | (refine rgIzFifo41 ?_)); refine walkG ?_)
          obtain ⟨m2, hm2⟩ : ∃ m2, m2 = mdel m y := ⟨_, rfl⟩
          have hnew := fun m3 t3 => hcut m2 (c) m3 t3 (by rw [if_neg h0]; exact ⟨hm2, rfl⟩)
          rw [← hm2]
          have hv2 : ∀ u v, mget m2 u = some v → ∃ a b p q, v = lk a b p q := by
            subst hm2
            intro u v hu
            first
              | exact hv1 u v hu
              | (rw [mget_mset] at hu; split at hu; (· cases hu; exact ⟨_, _, _, _, rfl⟩); (· exact hv1 u v hu))
          obtain ⟨a2, b2, p2, q2, bo2, hg2, hs2, hy2⟩ := vals3 (P := fun _ _ => True) hv2 c
          have hb2 : k + 1 < L.length → bo2 = true := by
            intro h1
            have hne : ¬ c = y := fun e => by
              have h2 := hkc h1
              rw [e] at h2
              have := nd_inj hf.nd h2 hk
              omega
            have hin : (mget (mdel m y) c).isSome = true := by
              rw [mget_mdel hf.knd, if_neg hne, hf.there]
              exact decide_eq_true (mem_of_at (hkc h1))
            rw [← hs2]
            subst hm2
            first
              | exact hin
              | (rw [mget_mset]; split; (· rfl); (· exact hin))
          clear hm2
          refine walkG ?_
          repeat ((first | (show WPL _ _ _ _ _ (⟨_, .load _ _, _, _, _, none⟩ :: _) _ _ _; first | refine s_load (v := .int _ _) rfl mid1 rfl ?_ | refine s_load (v := .int _ _) rfl mid2 rfl ?_ | refine s_load (v := .map _) rfl mid0 rfl ?_) | (show WPL _ _ _ _ _ (⟨_, .alloc _, _, _, _, none⟩ :: _) _ _ _; refine s_alloc rfl ?_; intro _) | (refine rgIzFifo40 ?_) | (refine rgIzFifo41 ?_)); refine walkG ?_)
          (refine wp_draw [10, 11] (.look 0 (.look 1 (.look 2 (.look 3 (.look 4 (.look 5 (.look 6 (.look 7 (.look 8 (.look 9 (.act 10 (.act 11 (.look 12 .nil) .stop) .stop))))))))))) (by kernel_rfl) ?_; refine dwP ?_; refine dwP ?_; refine dwP ?_; (apply dw_look; (· exact rfl); (· exact rfl); (· (refine s_load (v := .map _) rfl mid0 rfl ?_; exact looked))); refine dwP ?_; refine dwL ?_; (apply dw_look; (· exact rfl); (· exact rfl); (· (refine s_mget2 (v := lk a2 b2 p2 q2) (bo := bo2) rfl rfl hg2 hs2 rfl ?_; exact looked))); refine dwP ?_; refine dwP ?_; refine dwP ?_; skip)
          refine dw_do rfl rfl ?_ dw_stop
          refine s_alloc rfl ?_
          intro b10
          refine wpl_nil (qone ⟨(by (refine st_again ?_ ?_; (· refine s_mget2 (v := lk a2 b2 p2 q2) (bo := bo2) rfl rfl hg2 hs2 rfl ?_; exact looked)); (refine st_again ?_ ?_; (· exact looked)); (refine st_again ?_ ?_; (· refine s_load (v := .map _) rfl mid0 rfl ?_; exact looked)); exact st_nil), ?_⟩)
          (skip)
          refine dw_do0 rfl rfl ?_ dw_stop
          (first | refine s_store1 (v := .int _ _) rfl rfl rfl rfl ?_ | refine s_store1 (v := .pointer _) rfl rfl rfl rfl ?_ | refine s_store1 (v := .slice _ _ _) rfl rfl rfl rfl ?_ | refine s_store1 (v := .bool _) rfl rfl rfl rfl ?_ | refine s_store1 (v := .string _) rfl rfl rfl rfl ?_ | refine s_store1 (v := .map _) rfl rfl rfl rfl ?_ | refine s_store1 (v := _) rfl rfl rfl rfl ?_ | refine s_storeV rfl rfl rfl rfl rfl ?_)
          refine wpl_nil (qone0 ⟨(by refine st_past (by kernel_rfl) ?_; refine st_past (by kernel_rfl) ?_; refine st_past (by kernel_rfl) ?_; exact st_nil), ?_⟩)
          (refine dwP ?_; refine dw_nil ?_; skip)
          by_cases h1 : k + 1 < L.length
          · obtain rfl := hb2 h1
            have hm2 := hy2 rfl
            simp only [decide_eq_true h1] at *
            refine walkG ?_
            repeat ((first | (show WPL _ _ _ _ _ (⟨_, .load _ _, _, _, _, none⟩ :: _) _ _ _; first | refine s_load (v := .int _ _) rfl mid1 rfl ?_ | refine s_load (v := .int _ _) rfl mid2 rfl ?_ | refine s_load (v := .map _) rfl mid0 rfl ?_) | (show WPL _ _ _ _ _ (⟨_, .alloc _, _, _, _, none⟩ :: _) _ _ _; refine s_alloc rfl ?_; intro _) | (refine rgIzFifo40 ?_) | (refine rgIzFifo41 ?_)); refine walkG ?_)
            skip
            (refine wp_draw [7] (.look 0 (.look 1 (.look 2 (.look 3 (.look 4 (.look 5 (.look 6 (.act 7 .nil .stop)))))))) (by kernel_rfl) ?_; refine dwP ?_; refine dwP ?_; refine dwP ?_; (apply dw_look; (· exact rfl); (· exact rfl); (· (refine s_load (v := .map _) rfl mid0 rfl ?_; exact looked))); refine dwP ?_; refine dwL ?_; refine dwL ?_; skip)
            refine dw_do0 rfl rfl ?_ dw_stop
            refine s_mset (v := lk a b2 false q2) (k := c) rfl rfl rfl ?_
            refine wpl_nil (qone0 ⟨(by refine st_past (by kernel_rfl) ?_; refine st_past (by kernel_rfl) ?_; refine st_past (by kernel_rfl) ?_; exact st_nil), ?_⟩)
            (refine dw_nil ?_; skip)
            refine walkG ?_
            repeat ((first | (show WPL _ _ _ _ _ (⟨_, .load _ _, _, _, _, none⟩ :: _) _ _ _; first | refine s_load (v := .int _ _) rfl mid1 rfl ?_ | refine s_load (v := .int _ _) rfl mid2 rfl ?_ | refine s_load (v := .map _) rfl mid0 rfl ?_) | (show WPL _ _ _ _ _ (⟨_, .alloc _, _, _, _, none⟩ :: _) _ _ _; refine s_alloc rfl ?_; intro _) | (refine rgIzFifo40 ?_) | (refine rgIzFifo41 ?_)); refine walkG ?_)
            have hnew := hnew _ t (by rw [if_pos h1]; exact ⟨a2, b2, p2, q2, hm2, rfl, rfl⟩)
            (first | (apply retRD1 (G := (blk p (A ++ .map (some b) :: .int .i64 (c) :: .int .i64 t :: Z) e + (MapAt b (mset m2 c (lk a b2 false q2)) + F))) (.inr rfl) rfl; (· first | (refine rv_tmp (v := .bool _) rfl) | exact rv_tmp rfl); (· exact Ent.auto)) | (apply retRD1 (G := (blk p (A ++ .map (some b) :: .int .i64 (c) :: .int .i64 t :: Z) e + (MapAt b (mset m2 c (lk a b2 false q2)) + F))) (.inl rfl) rfl; (· first | (refine rv_tmp (v := .bool _) rfl) | exact rv_tmp rfl); (· exact Ent.auto)))
            exact ⟨rfl, some (b, _), _, _, hnew, rfl⟩
          · have hnew := hnew m2 a (by rw [if_neg h1]; exact ⟨rfl, rfl⟩)
            simp only [decide_eq_false h1] at *
            cases bo2
            all_goals skip
            · refine walkG ?_
              repeat ((first | (show WPL _ _ _ _ _ (⟨_, .load _ _, _, _, _, none⟩ :: _) _ _ _; first | refine s_load (v := .int _ _) rfl mid1 rfl ?_ | refine s_load (v := .int _ _) rfl mid2 rfl ?_ | refine s_load (v := .map _) rfl mid0 rfl ?_) | (show WPL _ _ _ _ _ (⟨_, .alloc _, _, _, _, none⟩ :: _) _ _ _; refine s_alloc rfl ?_; intro _) | (refine rgIzFifo40 ?_) | (refine rgIzFifo41 ?_)); refine walkG ?_)
              refine s_storeM2 (v := .int .i64 a) rfl rfl rfl ?_
              refine walkG ?_
              repeat ((first | (show WPL _ _ _ _ _ (⟨_, .load _ _, _, _, _, none⟩ :: _) _ _ _; first | refine s_load (v := .int _ _) rfl mid1 rfl ?_ | refine s_load (v := .int _ _) rfl mid2 rfl ?_ | refine s_load (v := .map _) rfl mid0 rfl ?_) | (show WPL _ _ _ _ _ (⟨_, .alloc _, _, _, _, none⟩ :: _) _ _ _; refine s_alloc rfl ?_; intro _) | (refine rgIzFifo40 ?_) | (refine rgIzFifo41 ?_)); refine walkG ?_)
              (first | (apply retRD1 (G := (blk p (A ++ .map (some b) :: .int .i64 (c) :: .int .i64 a :: Z) e + (MapAt b m2 + F))) (.inr rfl) rfl; (· first | (refine rv_tmp (v := .bool _) rfl) | exact rv_tmp rfl); (· exact Ent.auto)) | (apply retRD1 (G := (blk p (A ++ .map (some b) :: .int .i64 (c) :: .int .i64 a :: Z) e + (MapAt b m2 + F))) (.inl rfl) rfl; (· first | (refine rv_tmp (v := .bool _) rfl) | exact rv_tmp rfl); (· exact Ent.auto)))
              exact ⟨rfl, some (b, _), _, _, hnew, rfl⟩
            · refine walkG ?_
              repeat ((first | (show WPL _ _ _ _ _ (⟨_, .load _ _, _, _, _, none⟩ :: _) _ _ _; first | refine s_load (v := .int _ _) rfl mid1 rfl ?_ | refine s_load (v := .int _ _) rfl mid2 rfl ?_ | refine s_load (v := .map _) rfl mid0 rfl ?_) | (show WPL _ _ _ _ _ (⟨_, .alloc _, _, _, _, none⟩ :: _) _ _ _; refine s_alloc rfl ?_; intro _) | (refine rgIzFifo40 ?_) | (refine rgIzFifo41 ?_)); refine walkG ?_)
              refine s_storeM2 (v := .int .i64 a) rfl rfl rfl ?_
              refine walkG ?_
              repeat ((first | (show WPL _ _ _ _ _ (⟨_, .load _ _, _, _, _, none⟩ :: _) _ _ _; first | refine s_load (v := .int _ _) rfl mid1 rfl ?_ | refine s_load (v := .int _ _) rfl mid2 rfl ?_ | refine s_load (v := .map _) rfl mid0 rfl ?_) | (show WPL _ _ _ _ _ (⟨_, .alloc _, _, _, _, none⟩ :: _) _ _ _; refine s_alloc rfl ?_; intro _) | (refine rgIzFifo40 ?_) | (refine rgIzFifo41 ?_)); refine walkG ?_)
              (first | (apply retRD1 (G := (blk p (A ++ .map (some b) :: .int .i64 (c) :: .int .i64 a :: Z) e + (MapAt b m2 + F))) (.inr rfl) rfl; (· first | (refine rv_tmp (v := .bool _) rfl) | exact rv_tmp rfl); (· exact Ent.auto)) | (apply retRD1 (G := (blk p (A ++ .map (some b) :: .int .i64 (c) :: .int .i64 a :: Z) e + (MapAt b m2 + F))) (.inl rfl) rfl; (· first | (refine rv_tmp (v := .bool _) rfl) | exact rv_tmp rfl); (· exact Ent.auto)))
              exact ⟨rfl, some (b, _), _, _, hnew, rfl⟩
  · rw [decide_eq_false hy]
    rw [List.erase_of_not_mem hy]
    refine walkG ?_
    repeat ((first | (show WPL _ _ _ _ _ (⟨_, .load _ _, _, _, _, none⟩ :: _) _ _ _; first | refine s_load (v := .int _ _) rfl mid1 rfl ?_ | refine s_load (v := .int _ _) rfl mid2 rfl ?_ | refine s_load (v := .map _) rfl mid0 rfl ?_) | (show WPL _ _ _ _ _ (⟨_, .alloc _, _, _, _, none⟩ :: _) _ _ _; refine s_alloc rfl ?_; intro _) | (refine rgIzFifo40 ?_) | (refine rgIzFifo41 ?_)); refine walkG ?_)
    (first | refine ret1 (v := .bool _) (.inr rfl) rfl rfl ?_ | refine ret1  (.inr rfl) rfl rfl ?_ | refine ret1 (v := .bool _) (.inl rfl) rfl rfl ?_ | refine ret1  (.inl rfl) rfl rfl ?_)
    exact ⟨rfl, x, h, t, hf, rfl⟩
end
end Go.Proofs.YtlhnmbajbhaaoaaGreat
namespace Go.Proofs.YtlhnmbajbhaaoaaGreat
open Go Go.SL
set_option linter.unusedSimpArgs false
set_option linter.unusedVariables false
set_option maxRecDepth 10000
set_option maxHeartbeats 1000000
attribute [local irreducible] WP WPL QSeq QBlk QRet Does Cell Cells Rd Mine Ent Aside RV Yield
/-- A semaphore's cells: map, first, last, count. -/
abbrev RowC := MapO × Int × Int × Int
def rowV (r : RowC) : List Value := [mapV r.1, .int .i64 r.2.1, .int .i64 r.2.2.1, .int .i64 r.2.2.2]
def cellsOf : List RowC → List Value
  | [] => []
  | r :: rs => rowV r ++ cellsOf rs
def mapsH : List RowC → HProp
  | [] => emp
  | r :: rs => mapH r.1 + mapsH rs
theorem cells_len (rs : List RowC) : (cellsOf rs).length = 4 * rs.length := by
  induction rs with
  | nil => rfl
  | cons r rs ih => simp only [cellsOf, List.length_append, ih, List.length_cons, rowV]; simp; omega
theorem cells_app (a b : List RowC) : cellsOf (a ++ b) = cellsOf a ++ cellsOf b := by
  induction a with
  | nil => rfl
  | cons r a ih => simp only [List.cons_append, cellsOf, ih, List.append_assoc]
theorem maps_app (a b : List RowC) : mapsH (a ++ b) = mapsH a + mapsH b := by
  induction a with
  | nil => simp only [List.nil_append, mapsH, HProp.emp_add]
  | cons r a ih => simp only [List.cons_append, mapsH, ih, HProp.add_assoc]
/-- Who waits, and how many more may come: a pair for each. -/
abbrev SemS := List (List Int × Int)
def whereOf (S : SemS) (g : Int) : Option Nat := S.findIdx? fun r => decide (g ∈ r.1)
/-- g waits at i. -/
def InS (S : SemS) (i : Nat) (g : Int) : Prop := ∃ l c, S[i]? = some (l, c) ∧ g ∈ l
structure SemF (rs : List RowC) (wm : Assoc) (S : SemS) : Prop where
  lo : 1 ≤ S.length
  hi : S.length ≤ 16
  len : rs.length = 16
  at_ : ∀ (i : Nat) (l : List Int) (c : Int), S[i]? = some (l, c) → ∃ x h t, rs[i]? = some (x, h, t, c) ∧ LnF x h t l
  wh : ∀ g, mget wm g = (whereOf S g).map fun k => .int .i64 ((k : Nat) : Int)
  wnd : (mkeys wm).Nodup
  cnt : ∀ (i : Nat) (l : List Int) (c : Int), S[i]? = some (l, c) → 0 ≤ c ∧ c ≤ 1073741824
  uniq : ∀ i j g, InS S i g → InS S j g → i = j
def SemX (p : Nat) (rs : List RowC) (n bw : Nat) (wm : Assoc) : HProp := blk p (cellsOf rs ++ [.int .i64 (n : Int), .map (some bw)]) 120 + (mapsH rs + MapAt bw wm)
def SemAt (p : Nat) (S : SemS) : HProp := ex fun x : List RowC × Nat × Assoc => fact (SemF x.1 x.2.2 S) (SemX p x.1 S.length x.2.1 x.2.2)
section
variable {B : World} {F H G : HProp} {p bw n : Nat} {rs : List RowC} {wm : Assoc} {S : SemS} {k g c : Int} {l : List Int}
/-- Row i, and the rest. -/
theorem rows_at {i : Nat} {r : RowC} (h : rs[i]? = some r) : rs = rs.take i ++ r :: rs.drop (i + 1) := by
  obtain ⟨hl, rfl⟩ := List.getElem?_eq_some_iff.1 h
  rw [← List.drop_eq_getElem_cons hl, List.take_append_drop]
/-- A row is taken out. -/
theorem semX_row {i : Nat} {x : MapO} {h t c : Int} (hr : rs[i]? = some (x, h, t, c)) :
    SemX p rs n bw wm = blk p (cellsOf (rs.take i) ++ mapV x :: .int .i64 h :: .int .i64 t :: (.int .i64 c :: (cellsOf (rs.drop (i + 1)) ++ [.int .i64 (n : Int), .map (some bw)]))) 120 + (mapH x + (mapsH (rs.take i) + (mapsH (rs.drop (i + 1)) + MapAt bw wm))) := by
  have e := rows_at hr
  unfold SemX
  conv => lhs; rw [e]
  rw [cells_app, maps_app]
  simp only [cellsOf, mapsH, rowV, List.append_assoc, List.cons_append, List.nil_append, HProp.add_assoc]
  congr 1
  ac_rfl
theorem take_len {i : Nat} {r : RowC} (hr : rs[i]? = some r) : (cellsOf (rs.take i)).length = 4 * i := by
  have := (List.getElem?_eq_some_iff.1 hr).1
  rw [cells_len, List.length_take]; omega
theorem semX_n (hf : SemF rs wm S) : Cell B (SemX p rs n bw wm) p 64 (.int .i64 (n : Int)) := by
  unfold SemX
  exact Cell.blk (by rw [List.getElem?_append_right (by rw [cells_len, hf.len]; omega), cells_len, hf.len]; rfl)
theorem semX_w (hf : SemF rs wm S) : Cell B (SemX p rs n bw wm) p 65 (.map (some bw)) := by
  unfold SemX
  exact Cell.blk (by rw [List.getElem?_append_right (by rw [cells_len, hf.len]; omega), cells_len, hf.len]; rfl)
theorem semX_ln (hf : SemF rs wm S) {i : Nat} (h : S[i]? = some (l, c)) : LnIn B (SemX p rs n bw wm + F) p (4 * i) l := by
  obtain ⟨x, h, t, hr, hl⟩ := hf.at_ i l c h
  rw [semX_row hr, ← take_len hr]
  simp only [HProp.add_assoc]
  exact lnIn0 hl
theorem semX_c (hf : SemF rs wm S) {i : Nat} (h : S[i]? = some (l, c)) : Cell B (SemX p rs n bw wm) p (4 * i + 3) (.int .i64 c) := by
  obtain ⟨x, h, t, hr, hl⟩ := hf.at_ i l c h
  rw [semX_row hr, ← take_len hr]
  exact Cell.blk (by rw [List.getElem?_append_right (by omega)]; simp)
theorem there_spec (hf : SemF rs wm S) : Does Tryz.prog B 102 [.pointer (some ⟨p, 0, none⟩), .int .i64 k] (SemX p rs S.length bw wm + F) fun r H' => H' = SemX p rs S.length bw wm + F ∧ r = .bool (decide (0 ≤ k ∧ k < S.length)) := by
  have c1 : Cell B (SemX p rs S.length bw wm) p 64 (.int .i64 (S.length : Int)) := semX_n hf
  refine fn_intro 15 Tryz.func102 rfl rfl rfl ?_
  by_cases h0 : 0 ≤ k
  · refine walkG ?_
    (first | refine ret1 (v := .bool _) (.inr rfl) rfl rfl ?_ | refine ret1  (.inr rfl) rfl rfl ?_ | refine ret1 (v := .bool _) (.inl rfl) rfl rfl ?_ | refine ret1  (.inl rfl) rfl rfl ?_)
    exact ⟨rfl, by simp [h0]⟩
  · refine walkG ?_
    (first | refine ret1 (v := .bool _) (.inr rfl) rfl rfl ?_ | refine ret1  (.inr rfl) rfl rfl ?_ | refine ret1 (v := .bool _) (.inl rfl) rfl rfl ?_ | refine ret1  (.inl rfl) rfl rfl ?_)
    exact ⟨rfl, by simp [h0]⟩
instance {p n bw : Nat} {rs : List RowC} {wm : Assoc} {F : HProp} : HasAt MapAt (SemX p rs n bw wm + F) bw wm (blk p (cellsOf rs ++ [.int .i64 (n : Int), .map (some bw)]) 120 + (mapsH rs + F)) := ⟨by unfold SemX; ac_rfl⟩
theorem where_get (hf : SemF rs wm S) : (mget wm g).getD (.int .i64 0) = .int .i64 (((whereOf S g).getD 0 : Nat) : Int) ∧ (mget wm g).isSome = (whereOf S g).isSome := by
  rw [hf.wh]
  cases whereOf S g <;> exact ⟨rfl, rfl⟩
theorem sWhere (hf : SemF rs wm S) : Does Tryz.prog B 124 [.pointer (some ⟨p, 0, none⟩), .int .i64 g] (SemX p rs S.length bw wm + F) fun r H' => H' = SemX p rs S.length bw wm + F ∧ r = .tuple #[.int .i64 (((whereOf S g).getD 0 : Nat) : Int), .bool (whereOf S g).isSome] := by
  have c1 : Cell B (SemX p rs S.length bw wm) p 65 (.map (some bw)) := semX_w hf
  refine fn_intro 21 Tryz.func124 rfl rfl rfl ?_
  refine walkG ?_
  refine s_mget2 rfl rfl (where_get hf).1 (where_get hf).2 rfl ?_
  refine walkG ?_
  (first | refine ret2 (v := .int _ _) (x := .bool _) (.inr rfl) rfl rfl rfl ?_ | refine ret2  (.inr rfl) rfl rfl rfl ?_ | refine ret2 (v := .int _ _) (x := .bool _) (.inl rfl) rfl rfl rfl ?_ | refine ret2  (.inl rfl) rfl rfl rfl ?_)
  exact ⟨rfl, rfl⟩
theorem autoSem115 {p q : Prop} (k : q) (h : Owed q → p := by
  intro k_
  refine walkG ?_
  repeat ((first | (show WPL _ _ _ _ _ (⟨_, .call ⟨.value (.func 102), _, _⟩, _, _, _, none⟩ :: _) _ _ _; (apply s_call; (· exact rfl); (· refine there_spec ?_ <;> (first | assumption | omega | decide | (unfold U32; omega) | exact InH.ent | (apply Rd.ent; (· assumption); (· exact InH.ent)) | exact Rd.nil | (refine Rd.blk0 ?_ ?_; (· rfl); (· simp [maxLen])) | simp)); (· exact rfl); rintro _ _ ⟨e_, rfl⟩; obtain rfl := e_.symm))); refine walkG ?_)
  exact k_.get) : p := h ⟨k⟩
theorem sCount (hf : SemF rs wm S) : Does Tryz.prog B 44 [.pointer (some ⟨p, 0, none⟩), .int .i64 k] (SemX p rs S.length bw wm + F) fun r H' => H' = SemX p rs S.length bw wm + F ∧ r = .int .i64 (if 0 ≤ k then (S[k.toNat]?.map (·.2)).getD (-1) else -1) := by
  refine fn_intro 20 Tryz.func44 rfl rfl rfl ?_
  refine autoSem115 ?_
  refine wp_cond_b rfl (fun h1 => ?_) (fun h1 => ?_) <;> try simp only [decide_eq_true_eq, decide_eq_false_iff_not, Bool.not_eq_true', Bool.not_eq_false', Bool.and_eq_true, Bool.or_eq_true, Bool.or_eq_false_iff] at h1
  · skip
    refine autoSem115 ?_
    (first | refine ret1 (v := .int _ _) (.inr rfl) rfl rfl ?_ | refine ret1  (.inr rfl) rfl rfl ?_ | refine ret1 (v := .int _ _) (.inl rfl) rfl rfl ?_ | refine ret1  (.inl rfl) rfl rfl ?_)
    exact ⟨rfl, by
      congr 1
      split
      · rw [List.getElem?_eq_none (by omega)]; rfl
      · rfl⟩
  · obtain ⟨h0, h1⟩ := h1
    have hlt : k.toNat < S.length := by omega
    obtain ⟨l, c, hs⟩ : ∃ l c, S[k.toNat]? = some (l, c) := ⟨_, _, List.getElem?_eq_getElem hlt⟩
    have hi := hf.hi
    have c3 : Cell B (SemX p rs S.length bw wm) p (4 * k.toNat + 3) (.int .i64 c) := semX_c hf hs
    refine autoSem115 ?_
    refine s_indexAddrA (j := k.toNat) rfl rfl rfl (by omega) (o' := 4 * k.toNat) (by omega) rfl ?_
    refine autoSem115 ?_
    (first | refine ret1 (v := .int _ _) (.inr rfl) rfl rfl ?_ | refine ret1  (.inr rfl) rfl rfl ?_ | refine ret1 (v := .int _ _) (.inl rfl) rfl rfl ?_ | refine ret1  (.inl rfl) rfl rfl ?_)
    exact ⟨rfl, by rw [if_pos h0, hs]; rfl⟩
/-- Who waits at k. -/
def rowS (S : SemS) (k : Int) : List Int := if 0 ≤ k then (S[k.toNat]?.map (·.1)).getD [] else []
theorem autoSem117 {p q : Prop} (k : q) (h : Owed q → p := by
  intro k_
  refine walkG ?_
  repeat ((first | (show WPL _ _ _ _ _ (⟨_, .call ⟨.value (.func 102), _, _⟩, _, _, _, none⟩ :: _) _ _ _; (apply s_call; (· exact rfl); (· refine there_spec ?_ <;> (first | assumption | omega | decide | (unfold U32; omega) | exact InH.ent | (apply Rd.ent; (· assumption); (· exact InH.ent)) | exact Rd.nil | (refine Rd.blk0 ?_ ?_; (· rfl); (· simp [maxLen])) | simp)); (· exact rfl); rintro _ _ ⟨e_, rfl⟩; obtain rfl := e_.symm))); refine walkG ?_)
  exact k_.get) : p := h ⟨k⟩
theorem sWaiting (hf : SemF rs wm S) (hb : ∀ (i : Nat) (l : List Int) (c : Int), S[i]? = some (l, c) → l.length ≤ 1000000) : Does Tryz.prog B 45 [.pointer (some ⟨p, 0, none⟩), .int .i64 k] (SemX p rs S.length bw wm + F) fun r H' => H' = Mine 3 1 r (rowS S k).length (zs (rowS S k)) + (SemX p rs S.length bw wm + F) := by
  refine fn_intro 20 Tryz.func45 rfl rfl rfl ?_
  refine autoSem117 ?_
  refine wp_cond_b rfl (fun h1 => ?_) (fun h1 => ?_) <;> try simp only [decide_eq_true_eq, decide_eq_false_iff_not, Bool.not_eq_true', Bool.not_eq_false', Bool.and_eq_true, Bool.or_eq_true, Bool.or_eq_false_iff] at h1
  · have e : rowS S k = [] := by
      unfold rowS
      split
      · rw [List.getElem?_eq_none (by omega)]; rfl
      · rfl
    rw [e]
    refine autoSem117 ?_
    (first | refine ret1 (v := .slice _ _ _) (.inr rfl) rfl rfl ?_ | refine ret1  (.inr rfl) rfl rfl ?_ | refine ret1 (v := .slice _ _ _) (.inl rfl) rfl rfl ?_ | refine ret1  (.inl rfl) rfl rfl ?_)
    exact (by show _ = Mine 3 1 _ 0 [] + _; rw [Mine.nil, HProp.emp_add])
  · obtain ⟨h0, h1⟩ := h1
    have hlt : k.toNat < S.length := by omega
    obtain ⟨l, c, hs⟩ : ∃ l c, S[k.toNat]? = some (l, c) := ⟨_, _, List.getElem?_eq_getElem hlt⟩
    have hi := hf.hi
    have e : rowS S k = l := by unfold rowS; rw [if_pos h0, hs]; rfl
    rw [e]
    refine autoSem117 ?_
    refine s_indexAddrA (j := k.toNat) rfl rfl rfl (by omega) (o' := 4 * k.toNat) (by omega) rfl ?_
    refine autoSem117 ?_
    refine s_call rfl (lnAll (hb _ _ _ hs) (semX_ln hf hs)) rfl ?_
    rintro _ _ rfl
    refine walk ?_
    (first | (apply retRD1 (G := (Mine 3 1 _ l.length (zs l) + (SemX p rs S.length bw wm + F))) (.inr rfl) rfl; (· first | (refine rv_tmp (v := .slice _ _ _) rfl) | exact rv_tmp rfl); (· exact Ent.auto)) | (apply retRD1 (G := (Mine 3 1 _ l.length (zs l) + (SemX p rs S.length bw wm + F))) (.inl rfl) rfl; (· first | (refine rv_tmp (v := .slice _ _ _) rfl) | exact rv_tmp rfl); (· exact Ent.auto)))
    exact rfl
end
end Go.Proofs.YtlhnmbajbhaaoaaGreat
namespace Go.Proofs.YtlhnmbajbhaaoaaGreat
open Go Go.SL
set_option linter.unusedSimpArgs false
set_option linter.unusedVariables false
set_option maxRecDepth 10000
attribute [local irreducible] WP WPL QSeq QBlk QRet Does Cell Cells Rd Mine Ent Aside RV Yield
section
variable {ro : Option Nat} {B : World} {F H G : HProp} {p bw n i : Nat} {rs : List RowC} {wm : Assoc} {S : SemS} {k g y c c' h t : Int} {l l' : List Int} {x : MapO} {f : FuncId} {args : List Value} {R : Value → HProp → Prop}
theorem where_in {k : Nat} (h : whereOf S g = some k) : InS S k g := by
  obtain ⟨hk, hp, _⟩ := List.findIdx?_eq_some_iff_getElem.1 h
  exact ⟨S[k].1, S[k].2, List.getElem?_eq_getElem hk, by simpa using hp⟩
theorem where_none : whereOf S g = none ↔ ∀ i, ¬ InS S i g := by
  unfold whereOf
  rw [List.findIdx?_eq_none_iff]
  constructor
  · rintro h i ⟨l, c, hi, hg⟩
    have := h _ (List.mem_of_getElem? hi)
    simp at this
    exact this hg
  · intro h r hr
    obtain ⟨i, hi⟩ := List.getElem?_of_mem hr
    simp only [decide_eq_false_iff_not]
    exact fun hg => h i ⟨r.1, r.2, hi, hg⟩
theorem where_iff (hu : ∀ i j g, InS S i g → InS S j g → i = j) {k : Nat} : whereOf S g = some k ↔ InS S k g := by
  refine ⟨where_in, fun h => ?_⟩
  cases hw : whereOf S g with
  | none => exact absurd h (where_none.1 hw k)
  | some j => rw [hu _ _ _ (where_in hw) h]
theorem where_of {w : Option Nat} (h : ∀ k, whereOf S g = some k ↔ w = some k) : whereOf S g = w := by
  cases hw : whereOf S g with
  | some k => exact ((h k).1 hw).symm
  | none => cases w with
    | none => rfl
    | some k => rw [(h k).2 rfl] at hw; cases hw
theorem in_set (hi : i < S.length) {j : Nat} : InS (S.set i (l', c')) j g ↔ if j = i then g ∈ l' else InS S j g := by
  unfold InS
  rw [List.getElem?_set]
  by_cases hj : i = j
  · subst hj
    simp [hi]
  · have : ¬ j = i := fun e => hj e.symm
    simp [hj, this]
theorem LnF.nd (h' : LnF x h t l) : l.Nodup := by
  cases x with
  | none => rw [show l = [] from h']; exact List.nodup_nil
  | some x => exact LinkF.nd h'
/-- One semaphore turns. -/
theorem SemF.set (hf : SemF rs wm S) {wm' : Assoc} {x' : MapO} {h' t' : Int} (hi : S[i]? = some (l, c)) (hl : LnF x' h' t' l') (hc : 0 ≤ c' ∧ c' ≤ 1073741824)
    (hw : ∀ g, mget wm' g = (whereOf (S.set i (l', c')) g).map fun k => .int .i64 ((k : Nat) : Int)) (hn : (mkeys wm').Nodup) (hu : ∀ a b g, InS (S.set i (l', c')) a g → InS (S.set i (l', c')) b g → a = b) :
    SemF (rs.set i (x', h', t', c')) wm' (S.set i (l', c')) := by
  have hil := (List.getElem?_eq_some_iff.1 hi).1
  have h16 := hf.hi
  have hlen := hf.len
  refine ⟨by rw [List.length_set]; exact hf.lo, by rw [List.length_set]; exact hf.hi, by rw [List.length_set]; exact hf.len, ?_, hw, hn, ?_, hu⟩
  · intro j l2 c2 hj
    rw [List.getElem?_set] at hj ⊢
    split at hj
    · subst_vars
      cases hj
      exact ⟨x', h', t', by rw [if_pos rfl, if_pos (by omega)], hl⟩
    · obtain ⟨x2, h2, t2, h3, h4⟩ := hf.at_ j l2 c2 hj
      exact ⟨x2, h2, t2, by rw [if_neg (by assumption)]; exact h3, h4⟩
  · intro j l2 c2 hj
    rw [List.getElem?_set] at hj
    split at hj
    · subst_vars
      cases hj
      exact hc
    · exact hf.cnt j l2 c2 hj
theorem in_same (hi : S[i]? = some (l, c)) {j : Nat} : InS (S.set i (l, c')) j g ↔ InS S j g := by
  rw [in_set (List.getElem?_eq_some_iff.1 hi).1]
  split
  · subst_vars
    exact ⟨fun h => ⟨l, c, hi, h⟩, fun ⟨l2, c2, h1, h2⟩ => by rw [hi] at h1; cases h1; exact h2⟩
  · rfl
/-- A count turns. -/
theorem SemF.count (hf : SemF rs wm S) (hi : S[i]? = some (l, c)) (hr : rs[i]? = some (x, h, t, c)) (hl : LnF x h t l) (hc : 0 ≤ c' ∧ c' ≤ 1073741824) : SemF (rs.set i (x, h, t, c')) wm (S.set i (l, c')) := by
  have hu : ∀ a b g, InS (S.set i (l, c')) a g → InS (S.set i (l, c')) b g → a = b := fun a b g h1 h2 => hf.uniq a b g ((in_same hi).1 h1) ((in_same hi).1 h2)
  refine hf.set hi hl hc (fun g => ?_) hf.wnd hu
  rw [hf.wh]
  congr 1
  refine (where_of fun k => ?_).symm
  rw [where_iff hu, where_iff hf.uniq]
  exact in_same hi
/-- One more waits. -/
theorem SemF.push (hf : SemF rs wm S) (hi : S[i]? = some (l, c)) {x' : MapO} {h' t' : Int} (hl : LnF x' h' t' (l ++ [y])) (hy : whereOf S y = none) : SemF (rs.set i (x', h', t', c)) (mset wm y (.int .i64 (i : Int))) (S.set i (l ++ [y], c)) := by
  have hil := (List.getElem?_eq_some_iff.1 hi).1
  have hin : ∀ j g, InS (S.set i (l ++ [y], c)) j g ↔ (j = i ∧ g = y) ∨ InS S j g := by
    intro j g
    rw [in_set hil]
    split
    · subst_vars
      rw [List.mem_append, List.mem_singleton]
      constructor
      · rintro (h | h)
        · exact .inr ⟨l, c, hi, h⟩
        · exact .inl ⟨rfl, h⟩
      · rintro (h | ⟨l2, c2, h1, h2⟩)
        · exact .inr h.2
        · rw [hi] at h1; cases h1; exact .inl h2
    · rename_i hj
      exact ⟨.inr, fun h => h.elim (fun h => absurd h.1 hj) id⟩
  have hny := where_none.1 hy
  have hu : ∀ a b g, InS (S.set i (l ++ [y], c)) a g → InS (S.set i (l ++ [y], c)) b g → a = b := by
    intro a b g h1 h2
    rcases (hin _ _).1 h1 with h1 | h1 <;> rcases (hin _ _).1 h2 with h2 | h2
    · omega
    · rw [h1.2] at h2; exact absurd h2 (hny _)
    · rw [h2.2] at h1; exact absurd h1 (hny _)
    · exact hf.uniq _ _ _ h1 h2
  refine hf.set hi hl (hf.cnt i l c hi) (fun g => ?_) (mkeys_mset_nd hf.wnd) hu
  rw [mget_mset, hf.wh]
  split
  · subst_vars
    rw [(where_iff hu).2 ((hin i g).2 (.inl ⟨rfl, rfl⟩))]; rfl
  · rename_i hg
    congr 1
    refine (where_of fun k => ?_).symm
    rw [where_iff hu, where_iff hf.uniq, hin]
    exact ⟨fun h => h.elim (fun h => absurd h.2 hg) id, .inr⟩
/-- One waits no more. -/
theorem SemF.leave (hf : SemF rs wm S) (hi : S[i]? = some (l, c)) {x' : MapO} {h' t' : Int} (hl : LnF x' h' t' (l.erase y)) (hn : l.Nodup) (hy : y ∈ l) : SemF (rs.set i (x', h', t', c)) (mdel wm y) (S.set i (l.erase y, c)) := by
  have hil := (List.getElem?_eq_some_iff.1 hi).1
  have hin : ∀ j g, InS (S.set i (l.erase y, c)) j g ↔ g ≠ y ∧ InS S j g := by
    intro j g
    rw [in_set hil]
    split
    · subst_vars
      rw [hn.mem_erase_iff]
      constructor
      · rintro ⟨h1, h2⟩; exact ⟨h1, l, c, hi, h2⟩
      · rintro ⟨h1, l2, c2, h3, h2⟩
        rw [hi] at h3; cases h3; exact ⟨h1, h2⟩
    · rename_i hj
      refine ⟨fun h => ⟨fun e => ?_, h⟩, fun h => h.2⟩
      subst e
      exact hj (hf.uniq _ _ _ h ⟨l, c, hi, hy⟩)
  have hu : ∀ a b g, InS (S.set i (l.erase y, c)) a g → InS (S.set i (l.erase y, c)) b g → a = b := fun a b g h1 h2 => hf.uniq _ _ _ ((hin _ _).1 h1).2 ((hin _ _).1 h2).2
  refine hf.set hi hl (hf.cnt i l c hi) (fun g => ?_) (by rw [mkeys_mdel]; exact hf.wnd.erase _) hu
  rw [mget_mdel hf.wnd, hf.wh]
  split
  · subst_vars
    rw [where_none.2 fun j h => ((hin _ _).1 h).1 rfl]; rfl
  · rename_i hg
    congr 1
    refine (where_of fun k => ?_).symm
    rw [where_iff hu, where_iff hf.uniq, hin]
    exact ⟨fun h => h.2, fun h => ⟨hg, h⟩⟩
theorem sem_shut (hf : SemF rs wm S) : Ent (SemX p rs S.length bw wm) (SemAt p S) :=
  (Ent.fact_in hf).trans (Ent.ex_in (G := fun x : List RowC × Nat × Assoc => fact (SemF x.1 x.2.2 S) (SemX p x.1 S.length x.2.1 x.2.2)) (rs, bw, wm))
theorem Does.sem (k : ∀ rs bw wm, SemF rs wm S → Does Tryz.prog B f args (SemX p rs S.length bw wm + F) R) : Does Tryz.prog B f args (SemAt p S + F) R := by
  unfold SemAt
  refine Does.ex fun y => Does.fact fun hy => k _ _ _ hy
/-- It is looked at alone. -/
theorem Does.semRead [i : HasAt SemAt H p S F] {v : Value} (k : ∀ rs bw wm, SemF rs wm S → Does Tryz.prog B f args (SemX p rs S.length bw wm + F) fun r H' => H' = SemX p rs S.length bw wm + F ∧ r = v) : Does Tryz.prog B f args H fun r H' => H' = H ∧ r = v := by
  rw [i.eq]
  refine Does.sem fun rs bw wm hf => (k rs bw wm hf).weak fun r H1 ⟨e, hr⟩ => ⟨_, ?_, rfl, hr⟩
  rw [e]
  exact (sem_shut hf).frame_right F
theorem semX_set {r : RowC} (hr : rs[i]? = some r) {x' : MapO} {h' t' c' : Int} {wm' : Assoc} :
    SemX p (rs.set i (x', h', t', c')) n bw wm' = blk p (cellsOf (rs.take i) ++ mapV x' :: .int .i64 h' :: .int .i64 t' :: (.int .i64 c' :: (cellsOf (rs.drop (i + 1)) ++ [.int .i64 (n : Int), .map (some bw)]))) 120 + (mapH x' + (mapsH (rs.take i) + (mapsH (rs.drop (i + 1)) + MapAt bw wm'))) := by
  have hil := (List.getElem?_eq_some_iff.1 hr).1
  rw [semX_row (i := i) (x := x') (h := h') (t := t') (c := c') (by rw [List.getElem?_set, if_pos rfl, if_pos hil])]
  rw [List.take_set_of_le (Nat.le_refl _), List.drop_set_of_lt (by omega)]
end
end Go.Proofs.YtlhnmbajbhaaoaaGreat
namespace Go.Proofs.YtlhnmbajbhaaoaaGreat
open Go Go.SL
set_option linter.unusedSimpArgs false
set_option linter.unusedVariables false
set_option maxRecDepth 10000
set_option maxHeartbeats 1000000
attribute [local irreducible] WP WPL QSeq QBlk QRet Does Cell Cells Rd Mine Ent Aside RV Yield
section
variable {B : World} {F H G : HProp} {p bw n i : Nat} {rs : List RowC} {wm : Assoc} {S : SemS} {k g y c c' h t : Int} {l l' : List Int} {x : MapO}
instance {p n bw : Nat} {rs : List RowC} {wm : Assoc} : HasAt MapAt (SemX p rs n bw wm) bw wm (blk p (cellsOf rs ++ [.int .i64 (n : Int), .map (some bw)]) 120 + mapsH rs) := ⟨by unfold SemX; ac_rfl⟩
theorem semX_wm {wm' : Assoc} : MapAt bw wm' + (blk p (cellsOf rs ++ [.int .i64 (n : Int), .map (some bw)]) 120 + (mapsH rs + F)) = SemX p rs n bw wm' + F := by unfold SemX; ac_rfl
def leaveS (S : SemS) (g : Int) : SemS := match whereOf S g with
  | none => S
  | some i => S.modify i fun r => (r.1.erase g, r.2)
theorem modify_at {α : Type} {L : List α} {i : Nat} {a : α} {f : α → α} (h : L[i]? = some a) : L.modify i f = L.set i (f a) := by
  obtain ⟨hl, rfl⟩ := List.getElem?_eq_some_iff.1 h
  refine List.ext_getElem? fun j => ?_
  rw [List.getElem?_modify, List.getElem?_set]
  by_cases h : i = j
  · subst h; simp [hl]
  · simp [h]
theorem sLeave (hf : SemF rs wm S) : Does Tryz.prog B 115 [.pointer (some ⟨p, 0, none⟩), .int .i64 g] (SemX p rs S.length bw wm + F) fun r H' => ∃ rs' wm', H' = SemX p rs' (leaveS S g).length bw wm' + F ∧ SemF rs' wm' (leaveS S g) ∧ r = .bool (whereOf S g).isSome := by
  have c1 : Cell B (SemX p rs S.length bw wm) p 65 (.map (some bw)) := semX_w hf
  have hi16 := hf.hi
  refine fn_intro 28 Tryz.func115 rfl rfl rfl ?_
  refine walk ?_
  refine s_call rfl (sWhere (g := g) hf) rfl ?_
  rintro _ _ ⟨e_, rfl⟩
  obtain rfl := e_.symm
  refine walk ?_
  unfold leaveS
  cases hw : whereOf S g with
  | none =>
    simp only [Option.getD_none, Option.isSome_none]
    refine walkG ?_
    (first | refine ret1 (v := .bool _) (.inr rfl) rfl rfl ?_ | refine ret1  (.inr rfl) rfl rfl ?_ | refine ret1 (v := .bool _) (.inl rfl) rfl rfl ?_ | refine ret1  (.inl rfl) rfl rfl ?_)
    exact ⟨rs, wm, rfl, hf, rfl⟩
  | some i =>
    obtain ⟨l, c, hs, hg⟩ := where_in hw
    obtain ⟨x, h, t, hr, hl⟩ := hf.at_ i l c hs
    have hil := (List.getElem?_eq_some_iff.1 hs).1
    simp only [Option.getD_some, Option.isSome_some]
    rw [modify_at hs, List.length_set]
    have hnew := fun x' h' t' (hl' : LnF x' h' t' (l.erase g)) => hf.leave hs hl' hl.nd hg
    refine walkG ?_
    refine s_mdel0 (k := g) rfl rfl ?_
    rw [semX_wm]
    refine walkG ?_
    refine s_indexAddrA (j := i) rfl rfl (by omega) (by omega) (o' := 4 * i) (by omega) rfl ?_
    refine walkG ?_
    rw [semX_row hr, ← take_len hr]
    simp only [HProp.add_assoc]
    refine s_call rfl (lnRemove (y := g) hl) rfl ?_
    rintro _ _ ⟨rfl, x', h', t', hl', rfl⟩
    rw [decide_eq_true hg]
    refine walkG ?_
    (first | refine ret1 (v := .bool _) (.inr rfl) rfl rfl ?_ | refine ret1  (.inr rfl) rfl rfl ?_ | refine ret1 (v := .bool _) (.inl rfl) rfl rfl ?_ | refine ret1  (.inl rfl) rfl rfl ?_)
    exact ⟨_, _, by rw [semX_set hr]; simp only [HProp.add_assoc], hnew x' h' t' hl', rfl⟩
theorem s_storeM3 {ro : Option Nat} {P : Program} {ops : Array Oper} {rest : List Oper} {fr : Fr} {Q : Post} {n : Nat} {ty : TypeId} {pos : String} {after : Array Edge} {T e : TypeId} {x y : Operand} {A Z : List Value} {a b c d v : Value} [i : Plain P T] (hx : ev fr x = .pointer (some ⟨p, A.length + 3, none⟩)) [hb : HasBlk H p (A ++ a :: b :: c :: d :: Z) e F] (hy : ev fr y = v) (h1 : v.oneCell' = true)
    (k : WPL ro P B n ops rest fr (blk p (A ++ a :: b :: c :: v :: Z) e + F) Q) : WPL ro P B n ops (⟨none, .store T x y, ty, pos, after, none⟩ :: rest) fr H Q :=
  s_store (cs' := A ++ a :: b :: c :: v :: Z) hx hy h1 (by simp) (by rw [List.set_append_right _ _ (by omega)]; simp) k
def pushS (S : SemS) (i : Nat) (g : Int) : SemS := S.modify i fun r => (r.1 ++ [g], r.2)
def countS (S : SemS) (i : Nat) (c : Int) : SemS := S.modify i fun r => (r.1, c)
/-- What asking does: what is held, whether it came at once, the number of the error. -/
def acqS (S : SemS) (k g : Int) : SemS × Bool × Int :=
  if ¬ (0 ≤ k ∧ k < S.length) then (S, false, 2)
  else if (whereOf S g).isSome then (S, false, 140)
  else match S[k.toNat]? with
    | some (l, c) => if 0 < c then (countS S k.toNat (c - 1), true, 0) else (pushS S k.toNat g, false, 0)
    | none => (S, false, 2)
theorem autoSem35 {p q : Prop} (k : q) (h : Owed q → p := by
  intro k_
  refine walkG ?_
  repeat ((first | (show WPL _ _ _ _ _ (⟨_, .call ⟨.value (.func 102), _, _⟩, _, _, _, none⟩ :: _) _ _ _; (apply s_call; (· exact rfl); (· refine there_spec ?_ <;> (first | assumption | omega | decide | (unfold U32; omega) | exact InH.ent | (apply Rd.ent; (· assumption); (· exact InH.ent)) | exact Rd.nil | (refine Rd.blk0 ?_ ?_; (· rfl); (· simp [maxLen])) | simp)); (· exact rfl); rintro _ _ ⟨e_, rfl⟩; obtain rfl := e_.symm))); refine walkG ?_)
  exact k_.get) : p := h ⟨k⟩
theorem sAcquire (hf : SemF rs wm S) : Does Tryz.prog B 74 [.pointer (some ⟨p, 0, none⟩), .int .i64 k, .int .i64 g] (SemX p rs S.length bw wm + F) fun r H' => ∃ rs' wm', H' = SemX p rs' (acqS S k g).1.length bw wm' + F ∧ SemF rs' wm' (acqS S k g).1 ∧ r = .tuple #[.bool (acqS S k g).2.1, .int .i64 (acqS S k g).2.2] := by
  have c1 : Cell B (SemX p rs S.length bw wm) p 65 (.map (some bw)) := semX_w hf
  have hi16 := hf.hi
  refine fn_intro 56 Tryz.func74 rfl rfl rfl ?_
  refine autoSem35 ?_
  unfold acqS
  refine wp_cond_b rfl (fun h1 => ?_) (fun h1 => ?_) <;> try simp only [decide_eq_true_eq, decide_eq_false_iff_not, Bool.not_eq_true', Bool.not_eq_false', Bool.and_eq_true, Bool.or_eq_true, Bool.or_eq_false_iff] at h1
  · rw [if_pos (by omega)]
    refine autoSem35 ?_
    (first | refine ret2 (v := .bool _) (x := .int _ _) (.inr rfl) rfl rfl rfl ?_ | refine ret2  (.inr rfl) rfl rfl rfl ?_ | refine ret2 (v := .bool _) (x := .int _ _) (.inl rfl) rfl rfl rfl ?_ | refine ret2  (.inl rfl) rfl rfl rfl ?_)
    exact ⟨rs, wm, rfl, hf, rfl⟩
  · obtain ⟨h0, h1⟩ := h1
    have hlt : k.toNat < S.length := by omega
    obtain ⟨l, c, hs⟩ : ∃ l c, S[k.toNat]? = some (l, c) := ⟨_, _, List.getElem?_eq_getElem hlt⟩
    rw [if_neg (by omega), hs]
    obtain ⟨x, h, t, hr, hl⟩ := hf.at_ _ l c hs
    have hcnt := hf.cnt _ _ _ hs
    have c3 : Cell B (SemX p rs S.length bw wm) p (4 * k.toNat + 3) (.int .i64 c) := semX_c hf hs
    refine autoSem35 ?_
    refine s_mget2 rfl rfl (where_get hf).1 (where_get hf).2 rfl ?_
    cases hw : whereOf S g with
    | some i =>
      simp only [Option.isSome_some, if_true]
      refine autoSem35 ?_
      (first | refine ret2 (v := .bool _) (x := .int _ _) (.inr rfl) rfl rfl rfl ?_ | refine ret2  (.inr rfl) rfl rfl rfl ?_ | refine ret2 (v := .bool _) (x := .int _ _) (.inl rfl) rfl rfl rfl ?_ | refine ret2  (.inl rfl) rfl rfl rfl ?_)
      exact ⟨rs, wm, rfl, hf, rfl⟩
    | none =>
      simp only [Option.isSome_none]
      rw [if_neg (by simp)]
      refine autoSem35 ?_
      refine s_indexAddrA (j := k.toNat) rfl rfl rfl (by omega) (o' := 4 * k.toNat) (by omega) rfl ?_
      by_cases hc : 0 < c
      · rw [if_pos hc]
        unfold countS
        rw [modify_at hs, List.length_set]
        refine autoSem35 ?_
        skip
        rw [semX_row hr, ← take_len hr]
        simp only [HProp.add_assoc]
        refine s_storeM3 (v := .int .i64 (c - 1)) rfl rfl rfl ?_
        refine autoSem35 ?_
        (first | refine ret2 (v := .bool _) (x := .int _ _) (.inr rfl) rfl rfl rfl ?_ | refine ret2  (.inr rfl) rfl rfl rfl ?_ | refine ret2 (v := .bool _) (x := .int _ _) (.inl rfl) rfl rfl rfl ?_ | refine ret2  (.inl rfl) rfl rfl rfl ?_)
        exact ⟨rs.set k.toNat (x, h, t, c - 1), wm, by rw [semX_set hr]; simp only [HProp.add_assoc], hf.count hs hr hl (by omega), rfl⟩
      · rw [if_neg hc]
        unfold pushS
        rw [modify_at hs, List.length_set]
        refine autoSem35 ?_
        refine s_mset (v := .int .i64 k) (k := g) rfl rfl rfl ?_
        rw [semX_wm]
        refine autoSem35 ?_
        refine s_buildInts (cs := [.int .i64 g]) rfl rfl rfl rfl rfl ?_
        intro bb
        have hk : ((k.toNat : Nat) : Int) = k := Int.toNat_of_nonneg h0
        have hng : ¬ g ∈ l := fun hg => where_none.1 hw k.toNat ⟨l, c, hs, hg⟩
        have hnew := fun x' h' t' (hl' : LnF x' h' t' (l ++ [g])) => hf.push hs hl' hw
        rw [hk] at hnew
        refine WPL.ent (Ent.ac (show _ = blk p (cellsOf (rs.take k.toNat) ++ mapV x :: .int .i64 h :: .int .i64 t :: (.int .i64 c :: (cellsOf (rs.drop (k.toNat + 1)) ++ [.int .i64 (S.length : Int), .map (some bw)]))) 120 + (mapH x + (blk bb [.int .i64 g] 3 + (mapsH (rs.take k.toNat) + (mapsH (rs.drop (k.toNat + 1)) + (MapAt bw (mset wm g (.int .i64 k)) + F))))) by rw [semX_row hr]; ac_rfl)) ?_
        rw [← take_len hr]
        refine s_call rfl (lnPush (y := g) hl hng (Rd.blk0 rfl (by simp [maxLen]))) rfl ?_
        rintro _ _ ⟨b, m, h', t', rfl, hl', rfl⟩
        refine autoSem35 ?_
        (first | (apply retRD2 (G := (blk p (cellsOf (rs.take k.toNat) ++ .map (some b) :: .int .i64 h' :: .int .i64 t' :: (.int .i64 c :: (cellsOf (rs.drop (k.toNat + 1)) ++ [.int .i64 (S.length : Int), .map (some bw)]))) 120 + (MapAt b m + (mapsH (rs.take k.toNat) + (mapsH (rs.drop (k.toNat + 1)) + (MapAt bw (mset wm g (.int .i64 k)) + F)))))) (.inr rfl) rfl; (· first | (refine rv_tmp (v := .bool _) rfl) | exact rv_tmp rfl); (· first | (refine rv_tmp (v := .int _ _) rfl) | exact rv_tmp rfl); (· exact Ent.auto)) | (apply retRD2 (G := (blk p (cellsOf (rs.take k.toNat) ++ .map (some b) :: .int .i64 h' :: .int .i64 t' :: (.int .i64 c :: (cellsOf (rs.drop (k.toNat + 1)) ++ [.int .i64 (S.length : Int), .map (some bw)]))) 120 + (MapAt b m + (mapsH (rs.take k.toNat) + (mapsH (rs.drop (k.toNat + 1)) + (MapAt bw (mset wm g (.int .i64 k)) + F)))))) (.inl rfl) rfl; (· first | (refine rv_tmp (v := .bool _) rfl) | exact rv_tmp rfl); (· first | (refine rv_tmp (v := .int _ _) rfl) | exact rv_tmp rfl); (· exact Ent.auto)))
        exact ⟨rs.set k.toNat (some (b, m), h', t', c), _, by rw [semX_set hr]; simp only [HProp.add_assoc, mapV, mapH], hnew _ _ _ hl', rfl⟩
/-- What giving back does: what is held, who goes on, whether one does, the number of the error. -/
def relS (S : SemS) (k : Int) : SemS × Int × Bool × Int :=
  if ¬ (0 ≤ k ∧ k < S.length) then (S, 0, false, 2)
  else match S[k.toNat]? with
    | some (g :: l, c) => (S.set k.toNat (l, c), g, true, 0)
    | some ([], c) => if c = 1073741824 then (S, 0, false, 3) else (countS S k.toNat (c + 1), 0, false, 0)
    | none => (S, 0, false, 2)
theorem autoSem37 {p q : Prop} (k : q) (h : Owed q → p := by
  intro k_
  refine walkG ?_
  repeat ((first | (show WPL _ _ _ _ _ (⟨_, .call ⟨.value (.func 102), _, _⟩, _, _, _, none⟩ :: _) _ _ _; (apply s_call; (· exact rfl); (· refine there_spec ?_ <;> (first | assumption | omega | decide | (unfold U32; omega) | exact InH.ent | (apply Rd.ent; (· assumption); (· exact InH.ent)) | exact Rd.nil | (refine Rd.blk0 ?_ ?_; (· rfl); (· simp [maxLen])) | simp)); (· exact rfl); rintro _ _ ⟨e_, rfl⟩; obtain rfl := e_.symm))); refine walkG ?_)
  exact k_.get) : p := h ⟨k⟩
theorem sRelease (hf : SemF rs wm S) : Does Tryz.prog B 80 [.pointer (some ⟨p, 0, none⟩), .int .i64 k] (SemX p rs S.length bw wm + F) fun r H' => ∃ rs' wm', H' = SemX p rs' (relS S k).1.length bw wm' + F ∧ SemF rs' wm' (relS S k).1 ∧ r = .tuple #[.int .i64 (relS S k).2.1, .bool (relS S k).2.2.1, .int .i64 (relS S k).2.2.2] := by
  have hi16 := hf.hi
  refine fn_intro 47 Tryz.func80 rfl rfl rfl ?_
  refine autoSem37 ?_
  unfold relS
  refine wp_cond_b rfl (fun h1 => ?_) (fun h1 => ?_) <;> try simp only [decide_eq_true_eq, decide_eq_false_iff_not, Bool.not_eq_true', Bool.not_eq_false', Bool.and_eq_true, Bool.or_eq_true, Bool.or_eq_false_iff] at h1
  · rw [if_pos (by omega)]
    refine autoSem37 ?_
    (first | refine ret3 (v := .int _ _) (x := .bool _) (y := .int _ _) (.inr rfl) rfl rfl rfl rfl ?_ | refine ret3  (.inr rfl) rfl rfl rfl rfl ?_ | refine ret3 (v := .int _ _) (x := .bool _) (y := .int _ _) (.inl rfl) rfl rfl rfl rfl ?_ | refine ret3  (.inl rfl) rfl rfl rfl rfl ?_)
    exact ⟨rs, wm, rfl, hf, rfl⟩
  · obtain ⟨h0, h1⟩ := h1
    have hlt : k.toNat < S.length := by omega
    obtain ⟨l, c, hs⟩ : ∃ l c, S[k.toNat]? = some (l, c) := ⟨_, _, List.getElem?_eq_getElem hlt⟩
    rw [if_neg (by omega), hs]
    obtain ⟨x, h, t, hr, hl⟩ := hf.at_ _ l c hs
    have hcnt := hf.cnt _ _ _ hs
    have c3 : Cell B (SemX p rs S.length bw wm) p (4 * k.toNat + 3) (.int .i64 c) := semX_c hf hs
    refine autoSem37 ?_
    refine s_indexAddrA (j := k.toNat) rfl rfl rfl (by omega) (o' := 4 * k.toNat) (by omega) rfl ?_
    refine autoSem37 ?_
    refine s_call rfl (lnHead (semX_ln hf hs)) rfl ?_
    rintro _ _ ⟨rfl, y, hy, rfl⟩
    cases l with
    | nil =>
      simp only [List.length_nil, show decide (0 < 0) = false from rfl]
      by_cases hc : c = 1073741824
      · simp only [if_pos hc]
        refine autoSem37 ?_
        (first | refine ret3 (v := .int _ _) (x := .bool _) (y := .int _ _) (.inr rfl) rfl rfl rfl rfl ?_ | refine ret3  (.inr rfl) rfl rfl rfl rfl ?_ | refine ret3 (v := .int _ _) (x := .bool _) (y := .int _ _) (.inl rfl) rfl rfl rfl rfl ?_ | refine ret3  (.inl rfl) rfl rfl rfl rfl ?_)
        exact ⟨rs, wm, rfl, hf, rfl⟩
      · simp only [if_neg hc]
        unfold countS
        rw [modify_at hs, List.length_set]
        refine autoSem37 ?_
        skip
        rw [semX_row hr, ← take_len hr]
        simp only [HProp.add_assoc]
        refine s_storeM3 (v := .int .i64 (c + 1)) rfl rfl rfl ?_
        refine autoSem37 ?_
        (first | refine ret3 (v := .int _ _) (x := .bool _) (y := .int _ _) (.inr rfl) rfl rfl rfl rfl ?_ | refine ret3  (.inr rfl) rfl rfl rfl rfl ?_ | refine ret3 (v := .int _ _) (x := .bool _) (y := .int _ _) (.inl rfl) rfl rfl rfl rfl ?_ | refine ret3  (.inl rfl) rfl rfl rfl rfl ?_)
        exact ⟨rs.set k.toNat (x, h, t, c + 1), wm, by rw [semX_set hr]; simp only [HProp.add_assoc], hf.count hs hr hl (by omega), rfl⟩
    | cons g l =>
      obtain rfl : g = y := by have := hy (by simp); simpa using this
      have hd : decide (0 < (g :: l).length) = true := by simp
      rw [hd]
      have hw : whereOf S g = some k.toNat := (where_iff hf.uniq).2 ⟨_, _, hs, by simp⟩
      refine autoSem37 ?_
      skip
      refine s_call rfl (sLeave (g := g) hf) rfl ?_
      have e : leaveS S g = S.set k.toNat (l, c) := by
        unfold leaveS
        rw [hw]
        simp only
        rw [modify_at hs]
        simp
      rw [e]
      rintro _ _ ⟨rs', wm', rfl, hf', rfl⟩
      refine autoSem37 ?_
      (first | refine ret3 (v := .int _ _) (x := .bool _) (y := .int _ _) (.inr rfl) rfl rfl rfl rfl ?_ | refine ret3  (.inr rfl) rfl rfl rfl rfl ?_ | refine ret3 (v := .int _ _) (x := .bool _) (y := .int _ _) (.inl rfl) rfl rfl rfl rfl ?_ | refine ret3  (.inl rfl) rfl rfl rfl rfl ?_)
      exact ⟨rs', wm', rfl, hf', rfl⟩
end
end Go.Proofs.YtlhnmbajbhaaoaaGreat
namespace Go.Proofs.YtlhnmbajbhaaoaaGreat
open Go Go.SL
set_option linter.unusedSimpArgs false
set_option linter.unusedVariables false
set_option maxRecDepth 10000
set_option maxHeartbeats 1000000
attribute [local irreducible] WP WPL QSeq QBlk QRet Does Cell Cells Rd Mine Ent Aside RV Yield
section
variable {B : World} {F H G : HProp} {n c : Int}
abbrev rowZ (c : Int) : RowC := (none, 0, 0, c)
def newS (n : Nat) (c : Int) : SemS := List.replicate n ([], c)
theorem newF {m : Nat} (h1 : 1 ≤ m) (h2 : m ≤ 16) (hc : 0 ≤ c ∧ c ≤ 1073741824) : SemF (List.replicate m (rowZ c) ++ List.replicate (16 - m) (rowZ 0)) [] (newS m c) := by
  have hin : ∀ i g, ¬ InS (newS m c) i g := by
    rintro i g ⟨l, c', h, hg⟩
    have := List.mem_of_getElem? h
    rw [newS, List.mem_replicate] at this
    have := this.2
    cases this
    cases hg
  refine ⟨by simp [newS]; omega, by simp [newS]; omega, by simp; omega, ?_, ?_, by simp [mkeys], ?_, ?_⟩
  · intro i l c' h
    have hi : i < m := by have := (List.getElem?_eq_some_iff.1 h).1; simpa [newS] using this
    rw [newS, List.getElem?_replicate, if_pos hi] at h
    cases h
    exact ⟨none, 0, 0, by rw [List.getElem?_append_left (by simpa using hi), List.getElem?_replicate, if_pos hi], rfl⟩
  · intro g
    rw [where_none.2 fun i => hin i g]
    rfl
  · intro i l c' h
    have hi : i < m := by have := (List.getElem?_eq_some_iff.1 h).1; simpa [newS] using this
    rw [newS, List.getElem?_replicate, if_pos hi] at h
    cases h
    exact hc
  · intro i j g h _
    exact absurd h (hin i g)
theorem mapsZ (a b : Nat) : mapsH (List.replicate a (rowZ c) ++ List.replicate b (rowZ 0)) = emp := by
  have e : ∀ (a : Nat) (c : Int), mapsH (List.replicate a (rowZ c)) = emp := by
    intro a c
    induction a with
    | zero => rfl
    | succ a ih => rw [List.replicate_succ]; show emp + _ = _; rw [ih, HProp.emp_add]
  rw [maps_app, e, e, HProp.emp_add]
theorem sNew (h1 : 1 ≤ n) (h2 : n ≤ 16) (hc : 0 ≤ c ∧ c ≤ 1073741824) : Does Tryz.prog B 33 [.int .i64 n, .int .i64 c] H fun r H' => ∃ p, H' = SemAt p (newS n.toNat c) + H ∧ r = .tuple #[.pointer (some ⟨p, 0, none⟩), .int .i64 0] := by
  refine fn_intro 44 Tryz.func33 rfl rfl rfl ?_
  refine walkG ?_
  repeat ((first | (show WPL _ _ _ _ _ (⟨_, .box _ _, _, _, _, none⟩ :: _) _ _ _; (first | refine s_box (v := .int _ _) rfl rfl rfl ?_ | refine s_box (v := .pointer _) rfl rfl rfl ?_ | refine s_box (v := .slice _ _ _) rfl rfl rfl ?_ | refine s_box (v := .bool _) rfl rfl rfl ?_ | refine s_box (v := .agg _) rfl rfl rfl ?_ | refine s_box (v := .string _) rfl rfl rfl ?_ | refine s_box (v := .func _ _ _) rfl rfl rfl ?_ | refine s_box (v := .float _ _) rfl rfl rfl ?_); intro _)); refine walkG ?_)
  refine s_makeMap rfl ?_
  intro b
  refine walkG ?_
  repeat ((first | (show WPL _ _ _ _ _ (⟨_, .box _ _, _, _, _, none⟩ :: _) _ _ _; (first | refine s_box (v := .int _ _) rfl rfl rfl ?_ | refine s_box (v := .pointer _) rfl rfl rfl ?_ | refine s_box (v := .slice _ _ _) rfl rfl rfl ?_ | refine s_box (v := .bool _) rfl rfl rfl ?_ | refine s_box (v := .agg _) rfl rfl rfl ?_ | refine s_box (v := .string _) rfl rfl rfl ?_ | refine s_box (v := .func _ _ _) rfl rfl rfl ?_ | refine s_box (v := .float _ _) rfl rfl rfl ?_); intro _)); refine walkG ?_)
  (refine s_build (cs := (cellsOf (List.replicate 16 (rowZ 0)) ++ [.int .i64 n, .map (some b)])) ?_ rfl ?_; (· kernel_rfl))
  refine s_box (cs := cellsOf (List.replicate 16 (rowZ 0)) ++ [.int .i64 n, .map (some b)]) rfl rfl rfl ?_
  intro p
  refine walkG ?_
  repeat ((first | (show WPL _ _ _ _ _ (⟨_, .box _ _, _, _, _, none⟩ :: _) _ _ _; (first | refine s_box (v := .int _ _) rfl rfl rfl ?_ | refine s_box (v := .pointer _) rfl rfl rfl ?_ | refine s_box (v := .slice _ _ _) rfl rfl rfl ?_ | refine s_box (v := .bool _) rfl rfl rfl ?_ | refine s_box (v := .agg _) rfl rfl rfl ?_ | refine s_box (v := .string _) rfl rfl rfl ?_ | refine s_box (v := .func _ _ _) rfl rfl rfl ?_ | refine s_box (v := .float _ _) rfl rfl rfl ?_); intro _)); refine walkG ?_)
  refine s_sliceArrH (h := n.toNat) rfl rfl (by omega) (by omega) rfl ?_
  refine walkG ?_
  repeat ((first | (show WPL _ _ _ _ _ (⟨_, .box _ _, _, _, _, none⟩ :: _) _ _ _; (first | refine s_box (v := .int _ _) rfl rfl rfl ?_ | refine s_box (v := .pointer _) rfl rfl rfl ?_ | refine s_box (v := .slice _ _ _) rfl rfl rfl ?_ | refine s_box (v := .bool _) rfl rfl rfl ?_ | refine s_box (v := .agg _) rfl rfl rfl ?_ | refine s_box (v := .string _) rfl rfl rfl ?_ | refine s_box (v := .func _ _ _) rfl rfl rfl ?_ | refine s_box (v := .float _ _) rfl rfl rfl ?_); intro _)); refine walkG ?_)
  refine wp_loopF (α := Nat) [7, 32, 33, 34, 35, 36, 37, 38, 39, 40, 41, 42] (fun i => [(32, .int .i64 (i : Nat))]) (fun i => blk p (cellsOf (List.replicate i (rowZ c) ++ List.replicate (16 - i) (rowZ 0)) ++ [.int .i64 n, .map (some b)]) 120 + (MapAt b [] + H)) (fun i => i ≤ n.toNat) (fun i => n.toNat - i) 0 agreed (Ent.refl _) (Nat.zero_le _) ?_
  rintro i g hi
  simp only [putAll]
  have hn : ((n.toNat : Nat) : Int) = n := Int.toNat_of_nonneg (by omega)
  by_cases hlt : i < n.toNat
  · have e : cellsOf (List.replicate i (rowZ c) ++ List.replicate (16 - i) (rowZ 0)) ++ [.int .i64 n, .map (some b)] = cellsOf (List.replicate i (rowZ c)) ++ .map none :: .int .i64 0 :: .int .i64 0 :: .int .i64 0 :: (cellsOf (List.replicate (15 - i) (rowZ 0)) ++ [.int .i64 n, .map (some b)]) := by
      rw [show 16 - i = (15 - i) + 1 by omega, List.replicate_succ, cells_app]
      simp only [cellsOf, rowV, mapV, List.append_assoc, List.cons_append, List.nil_append]
    have e2 : cellsOf (List.replicate (i + 1) (rowZ c) ++ List.replicate (16 - (i + 1)) (rowZ 0)) ++ [.int .i64 n, .map (some b)] = cellsOf (List.replicate i (rowZ c)) ++ .map none :: .int .i64 0 :: .int .i64 0 :: .int .i64 c :: (cellsOf (List.replicate (15 - i) (rowZ 0)) ++ [.int .i64 n, .map (some b)]) := by
      rw [show 16 - (i + 1) = 15 - i by omega, List.replicate_succ', cells_app, cells_app]
      simp only [cellsOf, rowV, mapV, List.append_assoc, List.cons_append, List.nil_append]
    have el : (cellsOf (List.replicate i (rowZ c))).length = 4 * i := by rw [cells_len, List.length_replicate]
    rw [e]
    refine walkG ?_
    repeat ((first | (show WPL _ _ _ _ _ (⟨_, .box _ _, _, _, _, none⟩ :: _) _ _ _; (first | refine s_box (v := .int _ _) rfl rfl rfl ?_ | refine s_box (v := .pointer _) rfl rfl rfl ?_ | refine s_box (v := .slice _ _ _) rfl rfl rfl ?_ | refine s_box (v := .bool _) rfl rfl rfl ?_ | refine s_box (v := .agg _) rfl rfl rfl ?_ | refine s_box (v := .string _) rfl rfl rfl ?_ | refine s_box (v := .func _ _ _) rfl rfl rfl ?_ | refine s_box (v := .float _ _) rfl rfl rfl ?_); intro _)); refine walkG ?_)
    refine s_indexAddrA (j := i) rfl rfl (by omega) (by omega) (o' := 4 * i) (by omega) rfl ?_
    rw [← el]
    refine walkG ?_
    repeat ((first | (show WPL _ _ _ _ _ (⟨_, .box _ _, _, _, _, none⟩ :: _) _ _ _; (first | refine s_box (v := .int _ _) rfl rfl rfl ?_ | refine s_box (v := .pointer _) rfl rfl rfl ?_ | refine s_box (v := .slice _ _ _) rfl rfl rfl ?_ | refine s_box (v := .bool _) rfl rfl rfl ?_ | refine s_box (v := .agg _) rfl rfl rfl ?_ | refine s_box (v := .string _) rfl rfl rfl ?_ | refine s_box (v := .func _ _ _) rfl rfl rfl ?_ | refine s_box (v := .float _ _) rfl rfl rfl ?_); intro _)); refine walkG ?_)
    refine s_storeM3 (v := .int .i64 c) rfl rfl rfl ?_
    refine walkG ?_
    repeat ((first | (show WPL _ _ _ _ _ (⟨_, .box _ _, _, _, _, none⟩ :: _) _ _ _; (first | refine s_box (v := .int _ _) rfl rfl rfl ?_ | refine s_box (v := .pointer _) rfl rfl rfl ?_ | refine s_box (v := .slice _ _ _) rfl rfl rfl ?_ | refine s_box (v := .bool _) rfl rfl rfl ?_ | refine s_box (v := .agg _) rfl rfl rfl ?_ | refine s_box (v := .string _) rfl rfl rfl ?_ | refine s_box (v := .func _ _ _) rfl rfl rfl ?_ | refine s_box (v := .float _ _) rfl rfl rfl ?_); intro _)); refine walkG ?_)
    exact ⟨i + 1, asided, agreed, by rw [e2]; exact Ent.refl _, hlt, by omega⟩
  · have hie : i = n.toNat := by omega
    subst hie
    refine walkG ?_
    repeat ((first | (show WPL _ _ _ _ _ (⟨_, .box _ _, _, _, _, none⟩ :: _) _ _ _; (first | refine s_box (v := .int _ _) rfl rfl rfl ?_ | refine s_box (v := .pointer _) rfl rfl rfl ?_ | refine s_box (v := .slice _ _ _) rfl rfl rfl ?_ | refine s_box (v := .bool _) rfl rfl rfl ?_ | refine s_box (v := .agg _) rfl rfl rfl ?_ | refine s_box (v := .string _) rfl rfl rfl ?_ | refine s_box (v := .func _ _ _) rfl rfl rfl ?_ | refine s_box (v := .float _ _) rfl rfl rfl ?_); intro _)); refine walkG ?_)
    refine QRet.ent (G := SemAt p (newS n.toNat c) + H) ?_ ?_
    · refine Ent.trans (Ent.ac ?_) ((sem_shut (bw := b) (newF (m := n.toNat) (c := c) (by omega) (by omega) hc)).frame_right H)
      unfold SemX
      rw [mapsZ, HProp.emp_add, HProp.add_assoc]
      simp only [newS, List.length_replicate, hn]
    · (first | refine ret2 (v := .pointer _) (x := .int _ _) (.inr rfl) rfl rfl rfl ?_ | refine ret2  (.inr rfl) rfl rfl rfl ?_ | refine ret2 (v := .pointer _) (x := .int _ _) (.inl rfl) rfl rfl rfl ?_ | refine ret2  (.inl rfl) rfl rfl rfl ?_)
      exact ⟨p, rfl, rfl⟩
end
end Go.Proofs.YtlhnmbajbhaaoaaGreat
