/- A book: how it lies, what is read of it, what is added. No condition. -/
import Derived.Test.YtofgpppnknpblaaGreatDoorNzBook1
import Derived.Test.YtofgpppnknpblaaGreatDoorSL4
import Derived.Test.YtofgpppnknpblaaGreatDoorSL2
namespace Go.Proofs.YtofgpppnknpblaaGreatDoor
open Go Go.SL
set_option linter.unusedSimpArgs false
set_option linter.unusedVariables false
set_option maxRecDepth 10000
set_option maxHeartbeats 2000000
def BookX (b : Nat) (s : Value) (L : List Nt) : HProp := blk b [s] 54 + Mine 31 5 s L.length (nvs L)
/-- A book of notes. -/
def BookAt (b : Nat) (L : List Nt) : HProp := ex fun x : Option Addr × Nat => fact (L.length ≤ x.2 ∧ x.2 ≤ maxLen) (BookX b (.slice x.1 L.length x.2) L)
attribute [local irreducible] WP WPL QSeq QBlk QRet Does Cell Cells Rd Mine Ent Aside RV Yield IterAt
section
variable {B : World} {F H G : HProp} {n : Nt} {k v i : Int} {b c : Nat} {ao : Option Addr} {s u fv : Value} {L M : List Nt} {f : FuncId} {args : List Value} {R : Value → HProp → Prop}
theorem book_shut (h : L.length ≤ c ∧ c ≤ maxLen) : Ent (BookX b (.slice ao L.length c) L) (BookAt b L) :=
  (Ent.fact_in h).trans (Ent.ex_in (G := fun x : Option Addr × Nat => fact (L.length ≤ x.2 ∧ x.2 ≤ maxLen) (BookX b (.slice x.1 L.length x.2) L)) (ao, c))
theorem Does.book (k : ∀ ao c, L.length ≤ c → c ≤ 9223372036854775807 → Rd B (Mine 31 5 (.slice ao L.length c) L.length (nvs L)) 5 (.slice ao L.length c) L.length (nvs L) → Does Tryz.prog B f args (Mine 31 5 (.slice ao L.length c) L.length (nvs L) + (blk b [.slice ao L.length c] 54 + F)) R) : Does Tryz.prog B f args (BookAt b L + F) R := by
  unfold BookAt
  refine Does.ex fun y => Does.fact fun hy => ?_
  have e : BookX b (.slice y.1 L.length y.2) L + F = Mine 31 5 (.slice y.1 L.length y.2) L.length (nvs L) + (blk b [.slice y.1 L.length y.2] 54 + F) := by unfold BookX; ac_rfl
  rw [e]
  exact Does.rd fun hr => k y.1 y.2 hy.1 (by simpa [maxLen] using hy.2) hr
theorem book_back (h1 : L.length ≤ c) (h2 : c ≤ 9223372036854775807) : Ent (Mine 31 5 (.slice ao L.length c) L.length (nvs L) + (blk b [.slice ao L.length c] 54 + F)) (BookAt b L + F) := by
  have e : Mine 31 5 (.slice ao L.length c) L.length (nvs L) + (blk b [.slice ao L.length c] 54 + F) = BookX b (.slice ao L.length c) L + F := by unfold BookX; ac_rfl
  rw [e]
  exact (book_shut ⟨h1, by simpa [maxLen] using h2⟩).frame_right F
theorem book_new : Ent (blk b [.slice none 0 0] 54 + F) (BookAt b [] + F) := by
  refine Ent.trans ?_ (book_back (ao := none) (c := 0) (Nat.le_refl _) (by omega))
  show Ent _ (Mine 31 5 (.slice none 0 0) 0 [] + _)
  rw [Mine.nil, HProp.emp_add]
  exact Ent.refl _
theorem bLen [i : HasAt BookAt H b L F] : Does Tryz.prog B 34 [.pointer (some ⟨b, 0, none⟩)] H fun r H' => H' = H ∧ r = .int .i64 (L.length : Nat) := by
  refine Does.atSame (A := BookAt) (i := b) (x := L) (Does.book fun ao c h1 h2 hr => ?_)
  refine fn_intro 10 Tryz.func34 rfl rfl rfl ?_
  refine walk ?_
  (first | refine ret1 (v := .int _ _) (.inr rfl) rfl rfl ?_ | refine ret1  (.inr rfl) rfl rfl ?_ | refine ret1 (v := .int _ _) (.inl rfl) rfl rfl ?_ | refine ret1  (.inl rfl) rfl rfl ?_)
  exact ⟨book_back h1 h2, rfl⟩
theorem bSince [ii : HasAt BookAt H b L F] (hL : L.length ≤ 1000000) : Does Tryz.prog B 29 [.pointer (some ⟨b, 0, none⟩), .int .i64 i] H fun r H' => H' = Mine 31 5 r (L.length - (max 0 (min i (L.length : Int))).toNat) (nvs (L.drop (max 0 (min i (L.length : Int))).toNat)) + H := by
  rw [ii.eq]
  refine Does.book fun ao c h1 h2 hr => ?_
  have hr' : Rd B (Mine 31 5 (.slice ao L.length c) L.length (nvs L) + (blk b [.slice ao L.length c] 54 + F)) 5 (.slice ao L.length c) L.length (nvs L) := hr.ent InH.ent
  have hs := Rd.sliceL (max 0 (min i (L.length : Int))).toNat hr' (by omega) h1
  rw [nvs_drop _ _ (by omega)] at hs
  refine Does.weak (R := fun r H' => Ent H' (Mine 31 5 r (L.length - (max 0 (min i (L.length : Int))).toNat) (nvs (L.drop (max 0 (min i (L.length : Int))).toNat)) + (BookAt b L + F))) ?_ fun v H1 e => ⟨_, e, rfl⟩
  refine fn_intro 21 Tryz.func29 rfl rfl rfl ?_
  refine walk ?_
  (refine wp_draw [13] (.look 0 (.look 1 (.look 2 (.look 3 (.look 4 (.look 5 (.look 6 (.look 7 (.look 8 (.look 9 (.look 10 (.look 11 (.look 12 (.act 13 (.look 14 .nil) .stop)))))))))))))) (by kernel_rfl) ?_; (apply dw_pure; (· exact rfl); (· exact rfl); (· (intro G; exact looked))); (apply dw_pure; (· exact rfl); (· exact rfl); (· (intro G; exact looked))); (apply dw_pure; (· exact rfl); (· exact rfl); (· (intro G; exact looked))); (apply dw_look; (· exact rfl); (· exact rfl); (· (exact looked))); (apply dw_pure; (· exact rfl); (· exact rfl); (· (intro G; exact looked))); (apply dw_pure; (· exact rfl); (· exact rfl); (· (intro G; exact looked))); (apply dw_pure; (· exact rfl); (· exact rfl); (· (intro G; exact looked))); (apply dw_pure; (· exact rfl); (· exact rfl); (· (intro G; exact looked))); (apply dw_look; (· exact rfl); (· exact rfl); (· (exact looked))); (apply dw_pure; (· exact rfl); (· exact rfl); (· (intro G; exact looked))); (apply dw_pure; (· exact rfl); (· exact rfl); (· (intro G; (refine s_min2 rfl rfl rfl rfl ?_); exact looked))); (apply dw_pure; (· exact rfl); (· exact rfl); (· (intro G; (refine s_max2 rfl rfl rfl rfl ?_); exact looked))); (apply dw_pure; (· exact rfl); (· exact rfl); (· (intro G; (apply s_sliceL (l := (max 0 (min i (L.length : Int))).toNat); (· exact rfl); (· exact rfl); (· omega); (· omega); (· exact rfl)); exact looked))); skip)
  refine dw_do rfl rfl ?_ dw_stop
  (refine s_call rfl (cloneN hs (nvs_one _) (by omega)) rfl ?_; rintro r _ rfl)
  refine wpl_nil (qone ⟨(by refine st_past (by kernel_rfl) ?_; refine st_past (by kernel_rfl) ?_; exact st_nil), ?_⟩)
  ((apply dw_pure; (· exact rfl); (· exact rfl); (· (intro G; exact looked))); refine dw_nil ?_; skip)
  refine walk ?_
  refine ret1 (.inr rfl) rfl rfl ?_
  exact (book_back h1 h2).frame_left _
theorem bAll [ii : HasAt BookAt H b L F] (hL : L.length ≤ 1000000) : Does Tryz.prog B 28 [.pointer (some ⟨b, 0, none⟩)] H fun r H' => H' = Mine 31 5 r L.length (nvs L) + H := by
  refine fn_intro 5 Tryz.func28 rfl rfl rfl ?_
  refine walk ?_
  refine s_call rfl (bSince (i := 0) (ii := ii) hL) rfl ?_
  rintro r _ rfl
  have e : (max (0 : Int) (min 0 (L.length : Int))).toNat = 0 := by omega
  rw [e, Nat.sub_zero, List.drop_zero]
  refine walk ?_
  refine ret1 (.inr rfl) rfl rfl rfl
theorem bCopy [ii : HasAt BookAt H b L F] (hL : L.length ≤ 1000000) : Does Tryz.prog B 24 [.pointer (some ⟨b, 0, none⟩)] H fun r H' => ∃ b', r = .pointer (some ⟨b', 0, none⟩) ∧ H' = BookAt b' L + H := by
  refine Does.weak (R := fun r H' => ∃ b', r = .pointer (some ⟨b', 0, none⟩) ∧ Ent H' (BookAt b' L + H)) ?_ fun v H1 ⟨b', e, h⟩ => ⟨_, h, b', e, rfl⟩
  refine fn_intro 9 Tryz.func24 rfl rfl rfl ?_
  refine walk ?_
  refine s_call rfl (bAll (ii := ii) hL) rfl ?_
  rintro r _ rfl
  refine WPL.shape ?_
  rintro ao cap rfl _ hc hm
  refine walk ?_
  (refine s_build (cs := [.slice ao L.length cap]) ?_ rfl ?_; (· kernel_rfl))
  refine s_box (cs := [.slice ao L.length cap]) rfl rfl rfl ?_
  intro b'
  refine walk ?_
  refine ret1 (.inr rfl) rfl rfl ⟨b', rfl, ?_⟩
  refine Ent.trans (Ent.of_eq ?_) (book_back (ao := ao) (c := cap) hc (by simpa [maxLen] using hm))
  ac_rfl
end
/-- A function value tells of each note what p says, and leaves memory as it was, wherever F is. -/
def PredOf (B : World) (F : HProp) (fv : Value) (p : Nt → Bool) : Prop :=
  ∃ f cap, fv = .func (.func f) ([] : List Value).toArray (List.toArray cap) ∧ Callable Tryz.prog f ∧ ∀ m X, Does Tryz.prog B f ([] ++ [noteV m] ++ cap) (X + F) fun r H' => H' = X + F ∧ r = .bool (p m)
/-- Where the first is. -/
def firstI (p : Nt → Bool) (L : List Nt) : Int := if L.findIdx p < L.length then (L.findIdx p : Nat) else -1
theorem firstI_at {p : Nt → Bool} {L : List Nt} {j : Nat} (hj : j < L.length) (h1 : ∀ q, (h : q < j) → p (L[q]'(by omega)) = false) (h2 : p L[j] = true) : L.findIdx p = j :=
  (List.findIdx_eq hj).2 ⟨h2, fun q hq => h1 q hq⟩
theorem firstI_no {p : Nt → Bool} {L : List Nt} (h1 : ∀ q, (h : q < L.length) → p L[q] = false) : L.findIdx p = L.length := by
  rw [List.findIdx_eq_length]
  intro x hx
  obtain ⟨q, hq, rfl⟩ := List.mem_iff_getElem.1 hx
  exact h1 q hq
theorem filter_prefix {p : Nt → Bool} {L : List Nt} : (L.take (L.findIdx p)).filter (fun x => !p x) = L.take (L.findIdx p) := by
  rw [List.filter_eq_self]
  intro x hx
  obtain ⟨q, hq, rfl⟩ := List.mem_iff_getElem.1 hx
  rw [List.length_take] at hq
  rw [List.getElem_take]
  have := List.not_of_lt_findIdx (p := p) (xs := L) (i := q) (by omega)
  simp [this]
section
variable {B : World} {F H G X : HProp} {n : Nat} {k v i : Int} {b c : Nat} {ao : Option Addr} {s u fv : Value} {L M : List Nt} {p : Nt → Bool}
theorem indexF (hs : Rd B (X + F) 5 s L.length (nvs L)) (hL : L.length ≤ 1000000) (hp : PredOf B F fv p) : Does Tryz.prog B 61 [s, fv] (X + F) fun r H' => H' = X + F ∧ r = .int .i64 (firstI p L) := by
  unfold Rd at hs
  obtain ⟨ao, cap, rfl, hl, hm, hc⟩ := hs
  obtain ⟨f, cp, rfl, hcl, hpp⟩ := hp
  refine fn_intro 19 Tryz.func61 rfl rfl rfl ?_
  refine walk ?_
  refine wp_loopR (α := Nat) [4, 5, 8, 9, 10, 11, 12, 13, 14, 15, 16, 17, 18] (fun j => [(8, .int .i64 (j : Nat))]) (fun j => ∃ hj : j ≤ L.length, ∀ q, (h : q < j) → p (L[q]'(by omega)) = false) (fun j => L.length - j) 0 agreed ⟨Nat.zero_le _, fun q h => by omega⟩ ?_
  rintro j g ⟨hj, hno⟩
  simp only [putAll]
  by_cases hlt : j < L.length
  · obtain ⟨bl, ol, rfl, hcells0⟩ := Rd.addr5 hl hc (show 0 < L.length by omega)
    have hcells := nvs_cells hcells0 hlt
    refine walk ?_
    refine s_callV (first := []) (cap := cp) rfl rfl (hpp L[j] X) rfl ?_
    rintro r _ ⟨rfl, rfl⟩
    cases hpj : p L[j] with
    | true =>
      refine walk ?_
      have e : firstI p L = (j : Nat) := by
        have e := firstI_at hlt hno hpj
        unfold firstI
        rw [e, if_pos hlt]
      (first | refine ret1 (v := .int _ _) (.inr rfl) rfl rfl ?_ | refine ret1  (.inr rfl) rfl rfl ?_ | refine ret1 (v := .int _ _) (.inl rfl) rfl rfl ?_ | refine ret1  (.inl rfl) rfl rfl ?_)
      exact ⟨rfl, by rw [e]⟩
    | false =>
      refine walk ?_
      refine ⟨j + 1, asided, agreed, Ent.refl _, ⟨hlt, fun q hq => ?_⟩, by omega⟩
      rcases Nat.lt_or_ge q j with h | h
      · exact hno q h
      · obtain rfl : q = j := by omega
        exact hpj
  · obtain rfl : j = L.length := by omega
    refine walk ?_
    have e : firstI p L = -1 := by
      have e := firstI_no hno
      unfold firstI
      rw [e, if_neg (Nat.lt_irrefl _)]
    (first | refine ret1 (v := .int _ _) (.inr rfl) rfl rfl ?_ | refine ret1  (.inr rfl) rfl rfl ?_ | refine ret1 (v := .int _ _) (.inl rfl) rfl rfl ?_ | refine ret1  (.inl rfl) rfl rfl ?_)
    exact ⟨rfl, by rw [e]⟩
theorem containsF (hs : Rd B (X + F) 5 s L.length (nvs L)) (hL : L.length ≤ 1000000) (hp : PredOf B F fv p) : Does Tryz.prog B 45 [s, fv] (X + F) fun r H' => H' = X + F ∧ r = .bool (L.any p) := by
  have hs' := hs
  have hp' := hp
  unfold Rd at hs
  obtain ⟨ao, cap, rfl, hl, hm, hc⟩ := hs
  obtain ⟨f, cp, rfl, hcl, hpp⟩ := hp
  refine fn_intro 9 Tryz.func45 rfl rfl rfl ?_
  refine walk ?_
  refine s_call rfl (indexF hs' hL hp') rfl ?_
  rintro _ _ ⟨e_, rfl⟩
  obtain rfl := e_.symm
  refine walk ?_
  by_cases h : L.findIdx p < L.length
  · have e : firstI p L = ((L.findIdx p : Nat) : Int) := by unfold firstI; rw [if_pos h]
    rw [e]
    refine walk ?_
    rw [List.findIdx_lt_length] at h
    (first | refine ret1 (v := .bool _) (.inr rfl) rfl rfl ?_ | refine ret1  (.inr rfl) rfl rfl ?_ | refine ret1 (v := .bool _) (.inl rfl) rfl rfl ?_ | refine ret1  (.inl rfl) rfl rfl ?_)
    exact ⟨rfl, by rw [List.any_eq_true.2 h]⟩
  · have e : firstI p L = -1 := by unfold firstI; rw [if_neg h]
    rw [e]
    refine walk ?_
    rw [List.findIdx_lt_length] at h
    have hb : L.any p = false := by
      cases hb : L.any p with
      | false => rfl
      | true => exact absurd (List.any_eq_true.1 hb) h
    (first | refine ret1 (v := .bool _) (.inr rfl) rfl rfl ?_ | refine ret1  (.inr rfl) rfl rfl ?_ | refine ret1 (v := .bool _) (.inl rfl) rfl rfl ?_ | refine ret1  (.inl rfl) rfl rfl ?_)
    exact ⟨rfl, by rw [hb]⟩
end
theorem nvs_put {l : List Nt} {k : Nat} {x : Nt} {sp : List Value} (h : k < l.length) : (nvs l ++ sp).take (k * 5) ++ nv x ++ (nvs l ++ sp).drop (k * 5 + 5) = nvs (l.set k x) ++ sp := by
  have e2 : l.set k x = l.take k ++ x :: l.drop (k + 1) := by rw [List.set_eq_take_append_cons_drop, if_pos h]
  have hlen := nvs_len l
  rw [List.take_append_of_le_length (by omega), List.drop_append_of_le_length (by omega), nvs_take _ _ (by omega)]
  have e5 : k * 5 + 5 = (k + 1) * 5 := by omega
  rw [e5, nvs_drop _ _ (by omega), e2, nvs_app]
  simp only [nvs, List.append_assoc]
theorem take_keep {p : Nt → Bool} {L : List Nt} {j : Nat} (h : j < L.length) (hp : p L[j] = false) : (L.take (j + 1)).filter (fun x => !p x) = (L.take j).filter (fun x => !p x) ++ [L[j]] := by
  rw [take_push h, List.filter_append]; simp [hp]
theorem take_skip {p : Nt → Bool} {L : List Nt} {j : Nat} (h : j < L.length) (hp : p L[j] = true) : (L.take (j + 1)).filter (fun x => !p x) = (L.take j).filter (fun x => !p x) := by
  rw [take_push h, List.filter_append]; simp [hp]
section
variable {B : World} {F H G X : HProp} {n : Nat} {k v i : Int} {b c : Nat} {ao : Option Addr} {s u fv : Value} {L M : List Nt} {p : Nt → Bool}
theorem deleteF (hL : L.length ≤ 1000000) (hp : PredOf B F fv p) : Does Tryz.prog B 62 [s, fv] (Mine 31 5 s L.length (nvs L) + F) fun r H' => H' = Mine 31 5 r (L.filter fun x => !p x).length (nvs (L.filter fun x => !p x)) + F := by
  refine Does.shape ?_
  rintro ao cap rfl _ hc hm
  have hm' : cap ≤ 9223372036854775807 := by simpa [maxLen] using hm
  refine Does.rd fun hr => ?_
  have hp' := hp
  obtain ⟨f, cp, rfl, hcl, hpp⟩ := hp
  refine Does.weak (R := fun r H' => Ent H' (Mine 31 5 r (L.filter fun x => !p x).length (nvs (L.filter fun x => !p x)) + F)) ?_ fun v H1 e => ⟨_, e, rfl⟩
  refine fn_intro 42 Tryz.func62 rfl rfl rfl ?_
  refine walk ?_
  refine s_call rfl (indexF (hr.ent InH.ent) hL hp') rfl ?_
  rintro _ _ ⟨e_, rfl⟩
  obtain rfl := e_.symm
  refine walk ?_
  by_cases h : L.findIdx p < L.length
  · have e : firstI p L = ((L.findIdx p : Nat) : Int) := by unfold firstI; rw [if_pos h]
    rw [e]
    have hpre := filter_prefix (p := p) (L := L)
    have hat : p (L[L.findIdx p]'h) = true := List.findIdx_getElem (w := h)
    generalize L.findIdx p = i0 at *
    refine walk ?_
    refine WP.open (by omega) ?_
    rintro bo sp rfl hsp
    refine wp_loopF (α := Nat × Nat × List Nt) [5, 6, 7, 16, 17, 18, 19, 20, 21, 22, 23, 24, 25, 26, 27, 28, 29, 30, 31, 32, 33, 34, 35] (fun x => [(6, .int .i64 (x.1 : Nat)), (5, .int .i64 (x.2.1 : Nat))]) (fun x => blk bo (nvs x.2.2 ++ sp) 31 + F) (fun x => x.2.1 < x.1 ∧ x.1 ≤ L.length ∧ x.2.2.length = L.length ∧ x.2.2.take x.2.1 = (L.take x.1).filter (fun x => !p x) ∧ x.2.2.drop x.1 = L.drop x.1) (fun x => L.length - x.1) (i0 + 1, i0, L) agreed (Ent.refl _) ⟨Nat.lt_succ_self _, h, rfl, ?_, rfl⟩ ?_
    · rw [take_skip h hat, hpre]
    rintro ⟨j, i, ys⟩ g ⟨hij, hj, hyl, hpr, hdr⟩
    simp only at hij hj hyl hpr hdr
    simp only [putAll]
    by_cases hlt : j < L.length
    · have hjy : j < ys.length := by omega
      have hy : ys[j]'hjy = L[j] := by
        have h1 : (ys.drop j)[0]? = (L.drop j)[0]? := by rw [hdr]
        rw [List.getElem?_drop, List.getElem?_drop, Nat.add_zero, List.getElem?_eq_getElem hjy, List.getElem?_eq_getElem hlt] at h1
        exact Option.some.inj h1
      have hcells : Cells B (blk bo (nvs ys ++ sp) 31) bo (0 + j * 5) (nv L[j]) := by
        refine Cells.blk fun q w hq => ?_
        have hq5 : q < 5 := (List.getElem?_eq_some_iff.1 hq).1
        rw [List.getElem?_append_left (by rw [nvs_len]; omega), Nat.zero_add, nvs_at hjy hq5, hy]
        exact hq
      refine walk ?_
      refine s_alloc rfl ?_
      intro b7
      refine walk ?_
      refine s_storeV (vs := (nv L[j])) rfl rfl rfl rfl rfl ?_
      refine walk ?_
      have hq := hpp L[j] (blk b7 (nv L[j]) 31 + blk bo (nvs ys ++ sp) 31)
      rw [HProp.add_assoc] at hq
      refine s_callV (first := []) (cap := cp) rfl rfl hq rfl ?_
      rintro r _ ⟨rfl, rfl⟩
      cases hpj : p L[j] with
      | true =>
        refine walk ?_
        refine ⟨(j + 1, i, ys), asided, agreed, Ent.auto, ⟨by simp only; omega, hlt, hyl, ?_, ?_⟩, by simp only; omega⟩
        · rw [take_skip hlt hpj]; exact hpr
        · rw [← List.drop_drop, hdr, List.drop_drop]
      | false =>
        have hiy : i < ys.length := by omega
        refine walk ?_
        refine s_storeA (vs := nv L[j]) (cs' := nvs (ys.set i L[j]) ++ sp) rfl rfl rfl rfl ?_ ?_ ?_
        · have h5 : (nv L[j]).length = 5 := rfl
          rw [List.length_append, nvs_len]; omega
        · rw [Nat.zero_add]; exact nvs_put hiy
        refine walk ?_
        refine ⟨(j + 1, i + 1, ys.set i L[j]), asided, agreed, Ent.auto, ⟨by simp only; omega, hlt, by simp [hyl], ?_, ?_⟩, by simp only; omega⟩
        · simp only
          rw [take_keep hlt hpj, ← hpr, take_push (by simpa using hiy), List.take_set_of_le (Nat.le_refl _), List.getElem_set_self]
        · simp only
          rw [List.drop_set_of_lt (by omega), ← List.drop_drop, hdr, List.drop_drop]
    · obtain rfl : j = L.length := by omega
      rw [List.take_length] at hpr
      have hil : i < cap := by omega
      refine walk ?_
      (apply s_sliceL (l := i); (· exact rfl); (· exact rfl); (· omega); (· omega); (· exact rfl))
      have ep : partAddr (some ⟨bo, 0, none⟩) cap i 5 = some ⟨bo, i * 5, none⟩ := by
        unfold partAddr
        rw [if_neg (by omega)]
        show some ((⟨bo, 0, none⟩ : Addr).add (i * 5)) = _
        rw [addr_add, Nat.zero_add]
      rw [ep]
      refine walk ?_
      have hyl5 := nvs_len ys
      have hsp5 := hsp
      rw [List.length_append, nvs_len] at hsp5
      refine s_clear (m := L.length - i) rfl rfl ?_ ?_
      · rw [List.length_append]; omega
      intro zs hz
      refine walk ?_
      refine s_sliceH (h := i) rfl rfl rfl ?_ rfl ?_
      · omega
      refine walk ?_
      have hlen : (ys.take i).length = i := by rw [List.length_take]; omega
      have e1 : (nvs ys ++ sp).take (i * 5) = nvs (ys.take i) := by
        rw [List.take_append_of_le_length (by omega), nvs_take _ _ (by omega)]
      rw [← hpr, hlen]
      refine ret1 (.inr rfl) rfl rfl (Ent.frame_right (Mine.of_blk (sz := 5) (spare := zs ++ (nvs ys ++ sp).drop (i * 5 + (L.length - i) * 5)) (by rw [e1, List.append_assoc]) (by rw [nvs_len, hlen]) (by omega) hm ?_) F)
      simp only [List.length_append, List.length_take, List.length_drop, hz]
      omega
  · have e : firstI p L = -1 := by unfold firstI; rw [if_neg h]
    rw [e]
    have hpre := filter_prefix (p := p) (L := L)
    rw [List.take_of_length_le (by omega)] at hpre
    refine walk ?_
    rw [hpre]
    (first | refine ret1 (v := .slice _ _ _) (.inr rfl) rfl rfl ?_ | refine ret1  (.inr rfl) rfl rfl ?_ | refine ret1 (v := .slice _ _ _) (.inl rfl) rfl rfl ?_ | refine ret1  (.inl rfl) rfl rfl ?_)
    exact (Ent.refl _)
end
end Go.Proofs.YtofgpppnknpblaaGreatDoor
