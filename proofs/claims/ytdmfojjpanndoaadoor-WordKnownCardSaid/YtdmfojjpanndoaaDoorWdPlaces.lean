/- A word's places. No condition. -/
import Derived.Test.YtdmfojjpanndoaaDoorWdRef02
import Derived.Test.YtdmfojjpanndoaaDoorSLRange
namespace Go.Proofs.YtdmfojjpanndoaaDoor
open Go Go.SL
set_option linter.unusedSimpArgs false
set_option linter.unusedVariables false
set_option maxRecDepth 10000
set_option maxHeartbeats 2000000
/-- A row of small numbers. -/
def us (l : List Int) : List Value := l.map (.int .u32)
theorem us_length (l : List Int) : (us l).length = l.length := by simp [us]
theorem us_push (l : List Int) (x : Int) : us (l ++ [x]) = us l ++ [.int .u32 x] := by simp [us]
theorem us_one (l : List Int) : (us l).all Value.oneCell' = true := by simp [us, Value.oneCell']
theorem us_get (l : List Int) (k : Nat) (h : k < l.length) : (us l)[k]? = some (.int .u32 l[k]) := by simp [us, h]
theorem us_set (l : List Int) (k : Nat) (x : Int) : (us l).set k (.int .u32 x) = us (l.set k x) := by simp [us, List.map_set]
/-- Places from one on. -/
def pl (h a : Int) (k : Nat) : List Int := (List.range k).map fun (i : Nat) => (h + a + i) % 4294967296
theorem pl_length (h a : Int) (k : Nat) : (pl h a k).length = k := by simp [pl]
theorem pl_succ (h a : Int) (k : Nat) : pl h a (k + 1) = pl h a k ++ [(h + a + k) % 4294967296] := by simp [pl, List.range_succ]
theorem take_next {α : Type} {xs ys : List α} {k : Nat} (h1 : k < xs.length) (h2 : k < ys.length) (h : xs.take k = ys.take k) (hx : xs[k] = ys[k]) : xs.take (k + 1) = ys.take (k + 1) := by
  rw [List.take_succ_eq_append_getElem h1, List.take_succ_eq_append_getElem h2, h, hx]
def plk (h t a n : Int) : Nat := if 65536 < (t - h) % 4294967296 then 0 else (min n ((t - h) % 4294967296 - a)).toNat
attribute [local irreducible] WP WPL QSeq QBlk QRet Does Cell Cells Rd Mine Ent Aside RV
section
variable {B : World} {H F : HProp} {h t n p q k w a : Int}
theorem autoPlaces9 {p q : Prop} (k : q) (h : Owed q → p := by
  intro k_
  refine walkG ?_
  repeat ((first | (show WPL _ _ _ _ _ (⟨_, .call ⟨.value (.func 13), _, _⟩, _, _, _, none⟩ :: _) _ _ _; (apply s_call; (· exact rfl); (· refine len_spec ?_ ?_ <;> (first | assumption | omega | decide | (unfold U32; omega) | exact InH.ent | (apply Rd.ent; (· assumption); (· exact InH.ent)) | exact Rd.nil | (refine Rd.blk0 ?_ ?_; (· rfl); (· simp [maxLen])) | simp)); (· exact rfl); rintro _ _ ⟨e_, rfl⟩; obtain rfl := e_.symm)) | (show WPL _ _ _ _ _ (⟨_, .call ⟨.value (.func 14), _, _⟩, _, _, _, none⟩ :: _) _ _ _; (apply s_call; (· exact rfl); (· refine head_spec ?_ ?_ <;> (first | assumption | omega | decide | (unfold U32; omega) | exact InH.ent | (apply Rd.ent; (· assumption); (· exact InH.ent)) | exact Rd.nil | (refine Rd.blk0 ?_ ?_; (· rfl); (· simp [maxLen])) | simp)); (· exact rfl); rintro _ _ ⟨e_, rfl⟩; obtain rfl := e_.symm))); refine walkG ?_)
  exact k_.get) : p := h ⟨k⟩
theorem wPlaces (h1 : U32 h) (h2 : U32 t) (h3 : U32 a) (h4 : U32 n) : Does Tryd.prog B 30 [wd h t, .int .u32 a, .int .u32 n] H fun r H' => H' = Mine 25 1 r (pl h a (plk h t a n)).length (us (pl h a (plk h t a n))) + H := by
  obtain ⟨m, hm⟩ : ∃ m : Int, m = (t - h) % 4294967296 := ⟨_, rfl⟩
  have hm1 : 0 ≤ m ∧ m < 4294967296 := by omega
  refine fn_intro 37 Tryd.func30 rfl rfl rfl ?_
  by_cases hbig : 65536 < m
  · have e : plk h t a n = 0 := by unfold plk; rw [if_pos (by omega)]
    rw [e]
    refine autoPlaces9 ?_
    refine ret1 (v := .slice none 0 0) (.inr rfl) rfl rfl ?_
    show H = Mine 25 1 (.slice none 0 0) 0 [] + H
    rw [Mine.nil, HProp.emp_add]
  by_cases hla : m ≤ a
  · have e : plk h t a n = 0 := by unfold plk; rw [if_neg (by omega), ← hm]; omega
    rw [e]
    refine autoPlaces9 ?_
    refine ret1 (v := .slice none 0 0) (.inr rfl) rfl rfl ?_
    show H = Mine 25 1 (.slice none 0 0) 0 [] + H
    rw [Mine.nil, HProp.emp_add]
  have e : plk h t a n = (min n (m - a)).toNat := by unfold plk; rw [if_neg (by omega), ← hm]
  rw [e]
  obtain ⟨c, hc⟩ := Int.eq_ofNat_of_zero_le (show 0 ≤ min n (m - a) by have := h4.1; omega)
  rw [hc, Int.toNat_natCast]
  have hc2 : c ≤ 65536 := by omega
  refine autoPlaces9 ?_
  rw [← hm]
  refine s_min2 rfl rfl hc rfl ?_
  refine autoPlaces9 ?_
  refine wp_loopF (α := Nat × Value) [6, 8, 23, 24, 25, 26, 27, 28, 29, 30, 31, 32, 33, 34, 35] (fun x => [(23, .int .u32 x.1), (6, x.2)]) (fun x => Mine 25 1 x.2 (pl h a x.1).length (us (pl h a x.1)) + H) (fun x => x.1 ≤ c) (fun x => c - x.1) (0, .slice none 0 0) agreed ?_ (Nat.zero_le _) ?_
  · show Ent H (Mine 25 1 (.slice none 0 0) 0 [] + H)
    rw [Mine.nil, HProp.emp_add]
    exact Ent.refl _
  rintro ⟨i, v⟩ g hi
  simp only at hi
  simp only [putAll]
  have hpl := pl_length h a i
  by_cases hlt : i < c
  · refine autoPlaces9 ?_
    refine s_buildInts (cs := [.int .u32 ((h + a + i) % 4294967296)]) ?_ rfl rfl rfl rfl ?_
    · show [Value.int .u32 (((h + a) % 4294967296 + i) % 4294967296)] = _
      rw [show ((h + a) % 4294967296 + i) % 4294967296 = (h + a + i) % 4294967296 by omega]
    intro bb
    refine s_append (v := v) rfl rfl (Rd.blk0 (m := 1) (e := 25) rfl (by simp [maxLen])) rfl rfl ?_ rfl ?_
    · simp only [maxLen]; omega
    intro v'
    refine autoPlaces9 ?_
    refine ⟨(i + 1, v'), asided, agreed, ?_, hlt, by simp only; omega⟩
    simp only [pl_succ, us_push, len_push]
    exact Ent.auto
  · have hie : i = c := by omega
    subst hie
    refine autoPlaces9 ?_
    exact ret1 (.inr rfl) rfl rfl rfl
theorem autoPlaces11 {p q : Prop} (k : q) (h : Owed q → p := by
  intro k_
  refine walkG ?_
  repeat ((first | (show WPL _ _ _ _ _ (⟨_, .call ⟨.value (.func 15), _, _⟩, _, _, _, none⟩ :: _) _ _ _; (apply s_call; (· exact rfl); (· exact rLen); (· exact rfl); rintro _ _ ⟨e_, rfl⟩; obtain rfl := e_.symm))); refine walkG ?_)
  exact k_.get) : p := h ⟨k⟩
theorem rPlaces (h1 : U32 h) (h2 : U32 t) (h3 : U32 a) (h4 : U32 n) : Does Tryd.prog B 31 [wA h t, .int .u32 a, .int .u32 n] H fun r H' => H' = Mine 25 1 r (pl h a (plk h t a n)).length (us (pl h a (plk h t a n))) + H := by
  obtain ⟨m, hm⟩ : ∃ m : Int, m = (t - h) % 4294967296 := ⟨_, rfl⟩
  have hm1 : 0 ≤ m ∧ m < 4294967296 := by omega
  refine fn_intro 36 Tryd.func31 rfl rfl rfl ?_
  refine autoPlaces11 ?_
  repeat ((first | (show WPL _ _ _ _ _ (⟨_, .box _ _, _, _, _, none⟩ :: _) _ _ _; (first | refine s_box (v := .int _ _) rfl rfl rfl ?_ | refine s_box (v := .pointer _) rfl rfl rfl ?_ | refine s_box (v := .slice _ _ _) rfl rfl rfl ?_ | refine s_box (v := .bool _) rfl rfl rfl ?_ | refine s_box (v := .agg _) rfl rfl rfl ?_ | refine s_box (v := .string _) rfl rfl rfl ?_ | refine s_box (v := .func _ _ _) rfl rfl rfl ?_ | refine s_box (v := .float _ _) rfl rfl rfl ?_); intro _)); refine autoPlaces11 ?_)
  rename_i b3
  rw [← hm]
  refine wp_cond_b rfl (fun hbig => ?_) (fun hbig => ?_) <;> try simp only [decide_eq_true_eq, decide_eq_false_iff_not, Bool.not_eq_true', Bool.not_eq_false', Bool.and_eq_true, Bool.or_eq_true, Bool.or_eq_false_iff] at hbig
  · have e : plk h t a n = 0 := by unfold plk; rw [if_pos (by omega)]
    rw [e]
    refine autoPlaces11 ?_
    repeat ((first | (show WPL _ _ _ _ _ (⟨_, .box _ _, _, _, _, none⟩ :: _) _ _ _; (first | refine s_box (v := .int _ _) rfl rfl rfl ?_ | refine s_box (v := .pointer _) rfl rfl rfl ?_ | refine s_box (v := .slice _ _ _) rfl rfl rfl ?_ | refine s_box (v := .bool _) rfl rfl rfl ?_ | refine s_box (v := .agg _) rfl rfl rfl ?_ | refine s_box (v := .string _) rfl rfl rfl ?_ | refine s_box (v := .func _ _ _) rfl rfl rfl ?_ | refine s_box (v := .float _ _) rfl rfl rfl ?_); intro _)); refine autoPlaces11 ?_)
    refine QRet.ent (G := H) Ent.auto (ret1 (v := .slice none 0 0) (.inr rfl) rfl rfl ?_)
    show H = Mine 25 1 (.slice none 0 0) 0 [] + H
    rw [Mine.nil, HProp.emp_add]
  have e : plk h t a n = (min n (m - a)).toNat := by unfold plk; rw [if_neg (by omega), ← hm]
  rw [e]
  refine autoPlaces11 ?_
  repeat ((first | (show WPL _ _ _ _ _ (⟨_, .box _ _, _, _, _, none⟩ :: _) _ _ _; (first | refine s_box (v := .int _ _) rfl rfl rfl ?_ | refine s_box (v := .pointer _) rfl rfl rfl ?_ | refine s_box (v := .slice _ _ _) rfl rfl rfl ?_ | refine s_box (v := .bool _) rfl rfl rfl ?_ | refine s_box (v := .agg _) rfl rfl rfl ?_ | refine s_box (v := .string _) rfl rfl rfl ?_ | refine s_box (v := .func _ _ _) rfl rfl rfl ?_ | refine s_box (v := .float _ _) rfl rfl rfl ?_); intro _)); refine autoPlaces11 ?_)
  refine wp_loopF (α := Nat × Value) [7, 8, 12, 13, 14, 15, 16, 17, 18, 19, 20, 21, 22, 23, 24, 25, 26, 27, 28, 29, 30, 31, 32, 33, 34] (fun x => [(8, .int .u32 x.1), (7, x.2)]) (fun x => Mine 25 1 x.2 (pl h a (min n (x.1 - a)).toNat).length (us (pl h a (min n (x.1 - a)).toNat)) + (blk b3 [.int .u32 h, .int .u32 t] 27 + H)) (fun x => x.1 ≤ m) (fun x => (m - x.1).toNat) (0, .slice none 0 0) agreed ?_ (by simp only; omega) ?_
  · show Ent _ (Mine 25 1 (.slice none 0 0) (pl h a (min n (((0 : Nat) : Int) - a)).toNat).length (us (pl h a (min n (((0 : Nat) : Int) - a)).toNat)) + (blk b3 [.int .u32 h, .int .u32 t] 27 + H))
    rw [show (min n (((0 : Nat) : Int) - a)).toNat = 0 by have := h3.1; omega]
    show Ent _ (Mine 25 1 (.slice none 0 0) 0 [] + (blk b3 [.int .u32 h, .int .u32 t] 27 + H))
    rw [Mine.nil, HProp.emp_add]
    exact Ent.refl _
  rintro ⟨i, v⟩ g hi
  simp only at hi
  simp only [putAll]
  obtain ⟨c, hc⟩ : ∃ c, c = (min n ((i : Int) - a)).toNat := ⟨_, rfl⟩
  rw [← hc]
  have hpl := pl_length h a c
  have hcb : c ≤ 65536 := by omega
  refine WP.shape ?_
  rintro ao cap rfl _ _ _
  by_cases hlt : (i : Int) < m
  · by_cases hia : a ≤ i
    · by_cases hcn : (c : Int) < n
      · refine autoPlaces11 ?_
        repeat ((first | (show WPL _ _ _ _ _ (⟨_, .box _ _, _, _, _, none⟩ :: _) _ _ _; (first | refine s_box (v := .int _ _) rfl rfl rfl ?_ | refine s_box (v := .pointer _) rfl rfl rfl ?_ | refine s_box (v := .slice _ _ _) rfl rfl rfl ?_ | refine s_box (v := .bool _) rfl rfl rfl ?_ | refine s_box (v := .agg _) rfl rfl rfl ?_ | refine s_box (v := .string _) rfl rfl rfl ?_ | refine s_box (v := .func _ _ _) rfl rfl rfl ?_ | refine s_box (v := .float _ _) rfl rfl rfl ?_); intro _)); refine autoPlaces11 ?_)
        refine s_buildInts (cs := [.int .u32 ((h + a + c) % 4294967296)]) ?_ rfl rfl rfl rfl ?_
        · show [Value.int .u32 ((h + i) % 4294967296)] = _
          rw [show (h + i : Int) = h + a + c by omega]
        intro bb
        refine s_append (v := .slice ao (pl h a c).length cap) rfl rfl (Rd.blk0 (m := 1) (e := 25) rfl (by simp [maxLen])) rfl rfl ?_ rfl ?_
        · simp only [maxLen]; omega
        intro v'
        refine autoPlaces11 ?_
        repeat ((first | (show WPL _ _ _ _ _ (⟨_, .box _ _, _, _, _, none⟩ :: _) _ _ _; (first | refine s_box (v := .int _ _) rfl rfl rfl ?_ | refine s_box (v := .pointer _) rfl rfl rfl ?_ | refine s_box (v := .slice _ _ _) rfl rfl rfl ?_ | refine s_box (v := .bool _) rfl rfl rfl ?_ | refine s_box (v := .agg _) rfl rfl rfl ?_ | refine s_box (v := .string _) rfl rfl rfl ?_ | refine s_box (v := .func _ _ _) rfl rfl rfl ?_ | refine s_box (v := .float _ _) rfl rfl rfl ?_); intro _)); refine autoPlaces11 ?_)
        refine ⟨(i + 1, v'), asided, agreed, ?_, by simp only; omega, by simp only; omega⟩
        simp only
        rw [show (min n (((i + 1 : Nat) : Int) - a)).toNat = c + 1 by omega]
        simp only [pl_succ, us_push, len_push]
        exact Ent.auto
      · refine autoPlaces11 ?_
        repeat ((first | (show WPL _ _ _ _ _ (⟨_, .box _ _, _, _, _, none⟩ :: _) _ _ _; (first | refine s_box (v := .int _ _) rfl rfl rfl ?_ | refine s_box (v := .pointer _) rfl rfl rfl ?_ | refine s_box (v := .slice _ _ _) rfl rfl rfl ?_ | refine s_box (v := .bool _) rfl rfl rfl ?_ | refine s_box (v := .agg _) rfl rfl rfl ?_ | refine s_box (v := .string _) rfl rfl rfl ?_ | refine s_box (v := .func _ _ _) rfl rfl rfl ?_ | refine s_box (v := .float _ _) rfl rfl rfl ?_); intro _)); refine autoPlaces11 ?_)
        refine ⟨(i + 1, .slice ao (pl h a c).length cap), asided, agreed, ?_, by simp only; omega, by simp only; omega⟩
        simp only
        rw [show (min n (((i + 1 : Nat) : Int) - a)).toNat = c by omega]
        exact Ent.auto
    · refine autoPlaces11 ?_
      repeat ((first | (show WPL _ _ _ _ _ (⟨_, .box _ _, _, _, _, none⟩ :: _) _ _ _; (first | refine s_box (v := .int _ _) rfl rfl rfl ?_ | refine s_box (v := .pointer _) rfl rfl rfl ?_ | refine s_box (v := .slice _ _ _) rfl rfl rfl ?_ | refine s_box (v := .bool _) rfl rfl rfl ?_ | refine s_box (v := .agg _) rfl rfl rfl ?_ | refine s_box (v := .string _) rfl rfl rfl ?_ | refine s_box (v := .func _ _ _) rfl rfl rfl ?_ | refine s_box (v := .float _ _) rfl rfl rfl ?_); intro _)); refine autoPlaces11 ?_)
      refine ⟨(i + 1, .slice ao (pl h a c).length cap), asided, agreed, ?_, by simp only; omega, by simp only; omega⟩
      simp only
      rw [show (min n (((i + 1 : Nat) : Int) - a)).toNat = c by omega]
      exact Ent.auto
  · have hie : m = i := by omega
    rw [hie, ← hc]
    refine autoPlaces11 ?_
    repeat ((first | (show WPL _ _ _ _ _ (⟨_, .box _ _, _, _, _, none⟩ :: _) _ _ _; (first | refine s_box (v := .int _ _) rfl rfl rfl ?_ | refine s_box (v := .pointer _) rfl rfl rfl ?_ | refine s_box (v := .slice _ _ _) rfl rfl rfl ?_ | refine s_box (v := .bool _) rfl rfl rfl ?_ | refine s_box (v := .agg _) rfl rfl rfl ?_ | refine s_box (v := .string _) rfl rfl rfl ?_ | refine s_box (v := .func _ _ _) rfl rfl rfl ?_ | refine s_box (v := .float _ _) rfl rfl rfl ?_); intro _)); refine autoPlaces11 ?_)
    refine QRet.ent Ent.auto (ret1 (H := Mine 25 1 (.slice ao (pl h a c).length cap) (pl h a c).length (us (pl h a c)) + H) (.inr rfl) rfl rfl rfl)
theorem same_spec {s u : Value} {xs ys : List Int} [i : HasOwn H s 25 1 xs.length (us xs) F] (hu : Rd B F 1 u ys.length (us ys)) : Does Tryd.prog B 29 [s, u] H fun r H' => H' = F ∧ r = .bool (decide (xs = ys)) := by
  rw [i.eq]
  refine Does.shape ?_
  rintro ao cap rfl _ hc hm
  have hm' : cap ≤ 9223372036854775807 := by simpa [maxLen] using hm
  unfold Rd at hu
  obtain ⟨ao2, cap2, rfl, hl2, hm2, hc2⟩ := hu
  unfold maxLen at hm2
  refine fn_intro 29 Tryd.func29 rfl rfl rfl ?_
  by_cases hlen : xs.length = ys.length
  · refine walkG ?_
    repeat ((first | (show WP _ _ _ _ (.region 6 _ true) _ _ _; (refine wp_draw [] (.look 0 (.look 1 (.look 2 (.look 3 (.look 4 (.look 5 (.look 6 (.look 7 (.look 8 .nil))))))))) (by kernel_rfl) ?_; (apply dw_pure; (· exact rfl); (· exact rfl); (· (intro G; exact lookedG))); (apply dw_pure; (· exact rfl); (· exact rfl); (· (intro G; exact lookedG))); (apply dw_pure; (· exact rfl); (· exact rfl); (· (intro G; exact lookedG))); (apply dw_look; (· exact rfl); (· exact rfl); (· (exact lookedG))); (apply dw_pure; (· exact rfl); (· exact rfl); (· (intro G; exact lookedG))); (apply dw_pure; (· exact rfl); (· exact rfl); (· (intro G; exact lookedG))); (apply dw_pure; (· exact rfl); (· exact rfl); (· (intro G; exact lookedG))); (apply dw_look; (· exact rfl); (· exact rfl); (· (exact lookedG))); (apply dw_pure; (· exact rfl); (· exact rfl); (· (intro G; exact lookedG))); refine dw_nil ?_))); refine walkG ?_)
    refine wp_loopS (α := Nat × List Int) [4, 5, 11, 12, 13, 14, 15, 16, 17, 18, 19, 20, 21, 22, 23, 24, 25, 26, 27, 28] (fun j => [(5, .int .i64 j.1)]) (fun j => Mine 25 1 (.slice ao xs.length cap) xs.length (us j.2)) (fun j => j.1 ≤ xs.length ∧ j.2.length = xs.length ∧ j.2.drop j.1 = xs.drop j.1 ∧ xs.take j.1 = ys.take j.1) (fun j => xs.length - j.1) (0, xs) agreed ⟨Nat.zero_le _, rfl, rfl, rfl⟩ ?_
    rintro ⟨j, zs'⟩ g ⟨hj, hjl, hjd, hjt⟩
    simp only at hj hjl hjd hjt
    simp only [putAll]
    by_cases hlt : j < xs.length
    · have hlt2 : j < ys.length := by omega
      have hzj : zs'[j]'(by omega) = xs[j] := by
        have h1 : (zs'.drop j)[0]? = (xs.drop j)[0]? := by rw [hjd]
        simp only [List.getElem?_drop, Nat.add_zero] at h1
        rw [List.getElem?_eq_getElem (by omega), List.getElem?_eq_getElem hlt] at h1
        exact Option.some.inj h1
      obtain ⟨b2, o2, rfl, hcs2⟩ := Rd.addr hl2 hc2 hlt2
      have hcell2 := hcs2.cell (us_get ys j hlt2)
      refine WP.open (by omega) ?_
      rintro bo sp rfl hsp
      have hcell : Cell B (blk bo (us zs' ++ sp) 25) bo j (.int .u32 xs[j]) := Cell.blk (by rw [List.getElem?_append_left (by rw [us_length]; omega), us_get zs' j (by omega), hzj])
      by_cases hx : xs[j] = ys[j]
      · refine walkG ?_
        repeat ((first | (show WP _ _ _ _ (.region 6 _ true) _ _ _; (refine wp_draw [] (.look 0 (.look 1 (.look 2 (.look 3 (.look 4 (.look 5 (.look 6 (.look 7 (.look 8 .nil))))))))) (by kernel_rfl) ?_; (apply dw_pure; (· exact rfl); (· exact rfl); (· (intro G; exact lookedG))); (apply dw_pure; (· exact rfl); (· exact rfl); (· (intro G; exact lookedG))); (apply dw_pure; (· exact rfl); (· exact rfl); (· (intro G; exact lookedG))); (apply dw_look; (· exact rfl); (· exact rfl); (· (exact lookedG))); (apply dw_pure; (· exact rfl); (· exact rfl); (· (intro G; exact lookedG))); (apply dw_pure; (· exact rfl); (· exact rfl); (· (intro G; exact lookedG))); (apply dw_pure; (· exact rfl); (· exact rfl); (· (intro G; exact lookedG))); (apply dw_look; (· exact rfl); (· exact rfl); (· (exact lookedG))); (apply dw_pure; (· exact rfl); (· exact rfl); (· (intro G; exact lookedG))); refine dw_nil ?_))); refine walkG ?_)
        refine s_store (v := .int .u32 77) (cs' := us (zs'.set j 77) ++ sp) rfl rfl rfl (by simp [us_length]; omega) (by rw [List.set_append_left _ _ (by rw [us_length]; omega), us_set]) ?_
        refine walkG ?_
        repeat ((first | (show WP _ _ _ _ (.region 6 _ true) _ _ _; (refine wp_draw [] (.look 0 (.look 1 (.look 2 (.look 3 (.look 4 (.look 5 (.look 6 (.look 7 (.look 8 .nil))))))))) (by kernel_rfl) ?_; (apply dw_pure; (· exact rfl); (· exact rfl); (· (intro G; exact lookedG))); (apply dw_pure; (· exact rfl); (· exact rfl); (· (intro G; exact lookedG))); (apply dw_pure; (· exact rfl); (· exact rfl); (· (intro G; exact lookedG))); (apply dw_look; (· exact rfl); (· exact rfl); (· (exact lookedG))); (apply dw_pure; (· exact rfl); (· exact rfl); (· (intro G; exact lookedG))); (apply dw_pure; (· exact rfl); (· exact rfl); (· (intro G; exact lookedG))); (apply dw_pure; (· exact rfl); (· exact rfl); (· (intro G; exact lookedG))); (apply dw_look; (· exact rfl); (· exact rfl); (· (exact lookedG))); (apply dw_pure; (· exact rfl); (· exact rfl); (· (intro G; exact lookedG))); refine dw_nil ?_))); refine walkG ?_)
        refine ⟨(j + 1, zs'.set j 77), asided, agreed, ?_, ⟨hlt, by simp [hjl], ?_, ?_⟩, by simp only; omega⟩
        · refine Ent.step (A := blk bo (us (zs'.set j 77) ++ sp) 25) (Mine.of_blk (spare := sp) rfl (by rw [us_length, List.length_set]; omega) hc hm ?_) (Ent.refl _)
          simpa [us_length] using hsp
        · rw [List.drop_set_of_lt (by omega)]
          have := congrArg (List.drop 1) hjd
          simpa [List.drop_drop, Nat.add_comm] using this
        · exact take_next hlt hlt2 hjt hx
      · have hne : ¬ xs = ys := by rintro rfl; exact hx rfl
        rw [decide_eq_false hne]
        refine walkG ?_
        repeat ((first | (show WP _ _ _ _ (.region 6 _ true) _ _ _; (refine wp_draw [] (.look 0 (.look 1 (.look 2 (.look 3 (.look 4 (.look 5 (.look 6 (.look 7 (.look 8 .nil))))))))) (by kernel_rfl) ?_; (apply dw_pure; (· exact rfl); (· exact rfl); (· (intro G; exact lookedG))); (apply dw_pure; (· exact rfl); (· exact rfl); (· (intro G; exact lookedG))); (apply dw_pure; (· exact rfl); (· exact rfl); (· (intro G; exact lookedG))); (apply dw_look; (· exact rfl); (· exact rfl); (· (exact lookedG))); (apply dw_pure; (· exact rfl); (· exact rfl); (· (intro G; exact lookedG))); (apply dw_pure; (· exact rfl); (· exact rfl); (· (intro G; exact lookedG))); (apply dw_pure; (· exact rfl); (· exact rfl); (· (intro G; exact lookedG))); (apply dw_look; (· exact rfl); (· exact rfl); (· (exact lookedG))); (apply dw_pure; (· exact rfl); (· exact rfl); (· (intro G; exact lookedG))); refine dw_nil ?_))); refine walkG ?_)
        exact QRet.ent (Ent.drop_left _ _) (ret1 (v := .bool _) (.inr rfl) rfl rfl ⟨rfl, rfl⟩)
    · have hje : j = xs.length := by omega
      have heq : xs = ys := by
        subst hje
        rw [List.take_length] at hjt
        rw [hjt, hlen, List.take_length]
      rw [decide_eq_true heq]
      refine walkG ?_
      repeat ((first | (show WP _ _ _ _ (.region 6 _ true) _ _ _; (refine wp_draw [] (.look 0 (.look 1 (.look 2 (.look 3 (.look 4 (.look 5 (.look 6 (.look 7 (.look 8 .nil))))))))) (by kernel_rfl) ?_; (apply dw_pure; (· exact rfl); (· exact rfl); (· (intro G; exact lookedG))); (apply dw_pure; (· exact rfl); (· exact rfl); (· (intro G; exact lookedG))); (apply dw_pure; (· exact rfl); (· exact rfl); (· (intro G; exact lookedG))); (apply dw_look; (· exact rfl); (· exact rfl); (· (exact lookedG))); (apply dw_pure; (· exact rfl); (· exact rfl); (· (intro G; exact lookedG))); (apply dw_pure; (· exact rfl); (· exact rfl); (· (intro G; exact lookedG))); (apply dw_pure; (· exact rfl); (· exact rfl); (· (intro G; exact lookedG))); (apply dw_look; (· exact rfl); (· exact rfl); (· (exact lookedG))); (apply dw_pure; (· exact rfl); (· exact rfl); (· (intro G; exact lookedG))); refine dw_nil ?_))); refine walkG ?_)
      exact QRet.ent (Ent.drop_left _ _) (ret1 (v := .bool _) (.inr rfl) rfl rfl ⟨rfl, rfl⟩)
  · have hne : ¬ xs = ys := by rintro rfl; exact hlen rfl
    rw [decide_eq_false hne]
    refine walkG ?_
    repeat ((first | (show WP _ _ _ _ (.region 6 _ true) _ _ _; (refine wp_draw [] (.look 0 (.look 1 (.look 2 (.look 3 (.look 4 (.look 5 (.look 6 (.look 7 (.look 8 .nil))))))))) (by kernel_rfl) ?_; (apply dw_pure; (· exact rfl); (· exact rfl); (· (intro G; exact lookedG))); (apply dw_pure; (· exact rfl); (· exact rfl); (· (intro G; exact lookedG))); (apply dw_pure; (· exact rfl); (· exact rfl); (· (intro G; exact lookedG))); (apply dw_look; (· exact rfl); (· exact rfl); (· (exact lookedG))); (apply dw_pure; (· exact rfl); (· exact rfl); (· (intro G; exact lookedG))); (apply dw_pure; (· exact rfl); (· exact rfl); (· (intro G; exact lookedG))); (apply dw_pure; (· exact rfl); (· exact rfl); (· (intro G; exact lookedG))); (apply dw_look; (· exact rfl); (· exact rfl); (· (exact lookedG))); (apply dw_pure; (· exact rfl); (· exact rfl); (· (intro G; exact lookedG))); refine dw_nil ?_))); refine walkG ?_)
    exact QRet.ent (Ent.drop_left _ _) (ret1 (v := .bool _) (.inr rfl) rfl rfl ⟨rfl, rfl⟩)
end
end Go.Proofs.YtdmfojjpanndoaaDoor
