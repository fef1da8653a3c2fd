/- The kinds; a note's fields. No condition. -/
import Derived.Test.YtlhnmbajbhaaoaaIdId5
import Derived.Test.YtlhnmbajbhaaoaaIdId6
import Derived.Test.YtlhnmbajbhaaoaaSL4
import Derived.Test.YtlhnmbajbhaaoaaSL3
namespace Go.Proofs.Ytlhnmbajbhaaoaa
open Go Go.SL
set_option linter.unusedSimpArgs false
set_option linter.unusedVariables false
set_option maxRecDepth 10000
set_option maxHeartbeats 2000000
/-- All kinds, as they lie in an array. -/
def kindsC (c : Cfg) : List Value := [.string ByteArray.empty, .int .i64 0, .nilFunc, .nilFunc,
  str [103, 109, 120], .int .i64 c.g, .func (.func 39) #[] #[], .func (.func 41) #[] #[],
  str [103, 112, 109, 120], .int .i64 2, .func (.func 42) #[] #[], .func (.func 44) #[] #[],
  str [103, 112, 109], .int .i64 0, .func (.func 36) #[] #[], .func (.func 37) #[] #[],
  str [103, 112, 109], .int .i64 0, .func (.func 36) #[] #[], .func (.func 37) #[] #[],
  str [103, 112, 109, 120], .int .i64 4, .func (.func 46) #[] #[], .func (.func 47) #[] #[],
  str [103, 112, 109, 120], .int .i64 4, .func (.func 49) #[] #[], .func (.func 50) #[] #[],
  str [103, 112, 109, 120], .int .i64 4, .func (.func 51) #[] #[], .func (.func 53) #[] #[],
  str [103, 109, 120], .int .i64 4, .func (.func 55) #[] #[], .func (.func 56) #[] #[],
  str [103, 112, 109], .int .i64 0, .func (.func 36) #[] #[], .func (.func 57) #[] #[],
  str [103, 112, 109], .int .i64 0, .func (.func 58) #[] #[], .func (.func 59) #[] #[],
  str [103, 112, 109, 120], .int .i64 2, .func (.func 60) #[] #[], .func (.func 61) #[] #[],
  str [103, 109], .int .i64 0, .func (.func 62) #[] #[], .func (.func 64) #[] #[],
  str [112, 109, 120], .int .i64 2, .func (.func 66) #[] #[], .func (.func 67) #[] #[],
  str [112, 109], .int .i64 0, .func (.func 43) #[] #[], .func (.func 68) #[] #[],
  str [112], .int .i64 0, .func (.func 69) #[] #[], .func (.func 71) #[] #[],
  str [112], .int .i64 0, .func (.func 73) #[] #[], .func (.func 74) #[] #[]]
def mayF (k : Nat) : FuncId := ([0, 39, 42, 36, 36, 46, 49, 51, 55, 36, 58, 60, 62, 66, 43, 69, 73] : List Nat).getD k 0
def doF (k : Nat) : FuncId := ([0, 41, 44, 37, 37, 47, 50, 53, 56, 57, 59, 61, 64, 67, 68, 71, 74] : List Nat).getD k 0
/-- A note's fields from the i-th on. -/
def rightAt (c : Cfg) (f : List UInt8) (xk : Int) (n : Nt) : Nat → Bool
  | 0 => fieldB (decide (103 ∈ f)) n.g c.g && (fieldB (decide (112 ∈ f)) n.p c.n && (fieldB (decide (109 ∈ f)) n.m c.m && fieldB (decide (120 ∈ f)) n.x xk))
  | 1 => fieldB (decide (112 ∈ f)) n.p c.n && (fieldB (decide (109 ∈ f)) n.m c.m && fieldB (decide (120 ∈ f)) n.x xk)
  | 2 => fieldB (decide (109 ∈ f)) n.m c.m && fieldB (decide (120 ∈ f)) n.x xk
  | 3 => fieldB (decide (120 ∈ f)) n.x xk
  | _ => true
abbrev fieldsC (c : Cfg) (xk : Int) (n : Nt) : List Value := [.int .u8 103, .int .i64 n.g, .int .i64 c.g, .int .u8 112, .int .i64 n.p, .int .i64 c.n, .int .u8 109, .int .i64 n.m, .int .i64 c.m, .int .u8 120, .int .i64 n.x, .int .i64 xk]
theorem field_step {c : Cfg} {f : List UInt8} {xk : Int} {n : Nt} {i : Nat} (h : i < 4) : ∃ (ch : UInt8) (v bd : Int), ((fieldsC c xk n).drop (i * 3)).take 3 = [.int .u8 (ch.toNat : Int), .int .i64 v, .int .i64 bd] ∧ rightAt c f xk n i = (fieldB (decide (ch ∈ f)) v bd && rightAt c f xk n (i + 1)) := by
  match i, h with
  | 0, _ => exact ⟨103, n.g, c.g, rfl, rfl⟩
  | 1, _ => exact ⟨112, n.p, c.n, rfl, rfl⟩
  | 2, _ => exact ⟨109, n.m, c.m, rfl, rfl⟩
  | 3, _ => exact ⟨120, n.x, xk, rfl, by simp [rightAt]⟩
attribute [local irreducible] WP WPL QSeq QBlk QRet Does Cell Cells Rd Mine Ent Aside RV Yield TabAt SemAt IdeAt
section
variable {B : World} {H F G : HProp} {x : Nat} {L : IdL} {n : Nt} {l f : List UInt8} {ch : UInt8} {s mv dv : Value} {xk : Int} {K : Int}
theorem idxB (hs : Rd B H 1 s l.length (by8 l)) : Does Try.prog B 86 [s, .int .u8 (ch.toNat : Int)] H fun r H' => H' = H ∧ ∃ k : Int, r = .int .i64 k ∧ (0 ≤ k ↔ ch ∈ l) := by
  unfold Rd at hs
  obtain ⟨ao, cap, rfl, _, hm, hc⟩ := hs
  unfold maxLen at hm
  refine fn_intro 19 Try.func86 rfl rfl rfl ?_
  refine walk ?_
  refine wp_loopF (α := Nat) [4, 5, 8, 9, 10, 11, 12, 13, 14, 15, 16, 17, 18] (fun k => [(8, .int .i64 k)]) (fun _ => H) (fun k => k ≤ l.length ∧ ch ∉ l.take k) (fun k => l.length - k) 0 agreed (Ent.refl _) ⟨Nat.zero_le _, by simp⟩ ?_
  rintro k g ⟨hk, hi⟩
  simp only [putAll]
  by_cases hlt : k < l.length
  · obtain ⟨b, o, rfl, hcs⟩ := Rd.addr (by simp) hc (k := k) hlt
    have hcell := hcs.cell (j := k) (v := .int .u8 (l[k].toNat : Int)) (by simp [by8, hlt])
    by_cases hx : ch = l[k]
    · have hx' : (ch.toNat : Int) = (l[k].toNat : Int) := by rw [hx]
      refine walk ?_
      (first | refine ret1 (v := .int _ _) (.inr rfl) rfl rfl ?_ | refine ret1  (.inr rfl) rfl rfl ?_ | refine ret1 (v := .int _ _) (.inl rfl) rfl rfl ?_ | refine ret1  (.inl rfl) rfl rfl ?_)
      exact ⟨rfl, k, rfl, fun _ => by rw [hx]; exact List.getElem_mem _, fun _ => by omega⟩
    · have hx' : (ch.toNat : Int) ≠ (l[k].toNat : Int) := fun h => hx (UInt8.toNat_inj.1 (by omega))
      refine walk ?_
      exact ⟨k + 1, asided, agreed, Ent.refl _, ⟨hlt, by rw [List.take_succ_eq_append_getElem hlt, List.mem_append, List.mem_singleton]; exact fun h => h.elim hi hx⟩, by omega⟩
  · rw [List.take_of_length_le (by omega)] at hi
    refine walk ?_
    (first | refine ret1 (v := .int _ _) (.inr rfl) rfl rfl ?_ | refine ret1  (.inr rfl) rfl rfl ?_ | refine ret1 (v := .int _ _) (.inl rfl) rfl rfl ?_ | refine ret1  (.inl rfl) rfl rfl ?_)
    exact ⟨rfl, -1, rfl, fun h => by omega, fun h => absurd h hi⟩
theorem hasB (hs : Rd B H 1 s l.length (by8 l)) : Does Try.prog B 76 [s, .int .u8 (ch.toNat : Int)] H fun r H' => H' = H ∧ r = .bool (decide (ch ∈ l)) := by
  refine fn_intro 9 Try.func76 rfl rfl rfl ?_
  refine walk ?_
  refine s_call rfl (idxB hs) rfl ?_
  rintro _ _ ⟨e_, k, rfl, hk⟩
  obtain rfl := e_.symm
  by_cases h : ch ∈ l
  · have h0 := hk.2 h
    rw [decide_eq_true h]
    refine walk ?_
    (first | refine ret1 (v := .bool _) (.inr rfl) rfl rfl ?_ | refine ret1  (.inr rfl) rfl rfl ?_ | refine ret1 (v := .bool _) (.inl rfl) rfl rfl ?_ | refine ret1  (.inl rfl) rfl rfl ?_)
    exact ⟨rfl, rfl⟩
  · have h0 : ¬ 0 ≤ k := fun h1 => h (hk.1 h1)
    rw [decide_eq_false h]
    refine walk ?_
    (first | refine ret1 (v := .bool _) (.inr rfl) rfl rfl ?_ | refine ret1  (.inr rfl) rfl rfl ?_ | refine ret1 (v := .bool _) (.inl rfl) rfl rfl ?_ | refine ret1  (.inl rfl) rfl rfl ?_)
    exact ⟨rfl, rfl⟩
theorem iRight [i : HasAt IdeAt H x L F] (hf : f.length ≤ 4) : Does Try.prog B 29 [ptr x, .agg [str f, .int .i64 xk, mv, dv].toArray, noteV n] H fun r H' => H' = H ∧ r = .bool (rightAt L.I.c f xk n 0) := by
  have z0 : Cell B (IdeAt x L) x 0 (.int .i64 L.I.c.n) := ide_cell rfl
  have z2 : Cell B (IdeAt x L) x 2 (.int .i64 L.I.c.g) := ide_cell rfl
  have z3 : Cell B (IdeAt x L) x 3 (.int .i64 L.I.c.m) := ide_cell rfl
  rw [i.eq]
  refine Does.frame0 ?_
  refine fn_intro 72 Try.func29 rfl rfl rfl ?_
  refine walk ?_
  refine s_box (cs := [str f, .int .i64 xk, mv, dv]) rfl rfl rfl ?_
  intro b4
  refine walk ?_
  refine s_box (cs := nv n) rfl rfl rfl ?_
  intro b5
  refine walk ?_
  (refine wp_draw [] (.look 0 (.look 1 (.look 2 (.look 3 (.look 4 (.look 5 (.look 6 (.look 7 (.look 8 (.look 9 (.look 10 (.look 11 (.look 12 (.look 13 (.look 14 (.look 15 (.look 16 (.look 17 (.look 18 (.look 19 (.look 20 (.look 21 (.look 22 (.look 23 (.look 24 (.look 25 (.look 26 (.look 27 (.look 28 (.look 29 (.look 30 .nil))))))))))))))))))))))))))))))) (by kernel_rfl) ?_; (apply dw_pure; (· exact rfl); (· exact rfl); (· (intro G; exact looked))); (apply dw_look; (· exact rfl); (· exact rfl); (· (exact looked))); (apply dw_pure; (· exact rfl); (· exact rfl); (· (intro G; exact looked))); (apply dw_pure; (· exact rfl); (· exact rfl); (· (intro G; exact looked))); (apply dw_pure; (· exact rfl); (· exact rfl); (· (intro G; exact looked))); (apply dw_pure; (· exact rfl); (· exact rfl); (· (intro G; exact looked))); (apply dw_look; (· exact rfl); (· exact rfl); (· (exact looked))); (apply dw_pure; (· exact rfl); (· exact rfl); (· (intro G; (refine s_build (cs := [.int .u8 103, .int .i64 n.g, .int .i64 L.I.c.g]) ?_ rfl ?_; (· kernel_rfl)); exact looked))); (apply dw_pure; (· exact rfl); (· exact rfl); (· (intro G; exact looked))); (apply dw_look; (· exact rfl); (· exact rfl); (· (exact looked))); (apply dw_pure; (· exact rfl); (· exact rfl); (· (intro G; exact looked))); (apply dw_pure; (· exact rfl); (· exact rfl); (· (intro G; exact looked))); (apply dw_pure; (· exact rfl); (· exact rfl); (· (intro G; exact looked))); (apply dw_pure; (· exact rfl); (· exact rfl); (· (intro G; exact looked))); (apply dw_look; (· exact rfl); (· exact rfl); (· (exact looked))); (apply dw_pure; (· exact rfl); (· exact rfl); (· (intro G; (refine s_build (cs := [.int .u8 112, .int .i64 n.p, .int .i64 L.I.c.n]) ?_ rfl ?_; (· kernel_rfl)); exact looked))); (apply dw_pure; (· exact rfl); (· exact rfl); (· (intro G; exact looked))); (apply dw_look; (· exact rfl); (· exact rfl); (· (exact looked))); (apply dw_pure; (· exact rfl); (· exact rfl); (· (intro G; exact looked))); (apply dw_pure; (· exact rfl); (· exact rfl); (· (intro G; exact looked))); (apply dw_pure; (· exact rfl); (· exact rfl); (· (intro G; exact looked))); (apply dw_pure; (· exact rfl); (· exact rfl); (· (intro G; exact looked))); (apply dw_look; (· exact rfl); (· exact rfl); (· (exact looked))); (apply dw_pure; (· exact rfl); (· exact rfl); (· (intro G; (refine s_build (cs := [.int .u8 109, .int .i64 n.m, .int .i64 L.I.c.m]) ?_ rfl ?_; (· kernel_rfl)); exact looked))); (apply dw_pure; (· exact rfl); (· exact rfl); (· (intro G; exact looked))); (apply dw_look; (· exact rfl); (· exact rfl); (· (exact looked))); (apply dw_pure; (· exact rfl); (· exact rfl); (· (intro G; exact looked))); (apply dw_look; (· exact rfl); (· exact rfl); (· (exact looked))); (apply dw_pure; (· exact rfl); (· exact rfl); (· (intro G; (refine s_build (cs := [.int .u8 120, .int .i64 n.x, .int .i64 xk]) ?_ rfl ?_; (· kernel_rfl)); exact looked))); (apply dw_pure; (· exact rfl); (· exact rfl); (· (intro G; (refine s_buildA (cs := fieldsC L.I.c xk n) ?_ rfl ?_; (· kernel_rfl)); exact looked))); (apply dw_pure; (· exact rfl); (· exact rfl); (· (intro G; exact looked))); refine dw_nil ?_)
  refine walk ?_
  refine wp_loopF (α := Nat) [6, 8, 9, 40, 41, 42, 43, 44, 45, 46, 47, 48, 49, 50, 51, 52, 53, 54, 55, 56, 57, 58, 59, 60, 61, 62, 63, 64, 65, 66, 67, 68, 69, 70, 71] (fun k => [(40, .int .i64 k)]) (fun _ => blk b5 (nv n) 33 + (blk b4 [str f, .int .i64 xk, mv, dv] 66 + (IdeAt x L + F))) (fun k => k ≤ 4 ∧ rightAt L.I.c f xk n k = rightAt L.I.c f xk n 0) (fun k => 4 - k) 0 agreed (Ent.refl _) ⟨by omega, rfl⟩ ?_
  rintro k g ⟨hk, hi⟩
  simp only [putAll]
  by_cases hlt : k < 4
  · obtain ⟨ch, v, bd, hcl, hst⟩ := field_step (c := L.I.c) (f := f) (xk := xk) (n := n) hlt
    rw [hi] at hst
    refine walk ?_
    refine s_indexVA (j := k) (cs := fieldsC L.I.c xk n) (vs := [.int .u8 (ch.toNat : Int), .int .i64 v, .int .i64 bd]) rfl rfl rfl hlt hcl rfl ?_
    refine walk ?_
    refine s_alloc rfl ?_
    intro b8
    refine walk ?_
    refine s_storeV (vs := [.int .u8 (ch.toNat : Int), .int .i64 v, .int .i64 bd]) rfl rfl rfl rfl rfl ?_
    refine walk ?_
    refine s_strBytes rfl (by simp only [maxLen]; omega) rfl ?_
    intro sv sb so rd
    refine walk ?_
    refine s_call rfl (hasB (l := f) (ch := ch) (rd.ent InH.ent)) rfl ?_
    rintro _ _ ⟨e_, rfl⟩
    obtain rfl := e_.symm
    by_cases hin : ch ∈ f
    · rw [decide_eq_true hin]
      by_cases h0 : 0 ≤ v
      · by_cases h1 : v < bd
        · have hfb : rightAt L.I.c f xk n (k + 1) = rightAt L.I.c f xk n 0 := by rw [hst]; simp [fieldB, hin, h0, h1]
          refine walk ?_
          exact ⟨k + 1, asided, agreed, Ent.auto, ⟨by omega, hfb⟩, by omega⟩
        · have hfb : rightAt L.I.c f xk n 0 = false := by rw [hst]; simp [fieldB, hin, h1]
          refine walk ?_
          (first | (apply retRD1 (G := (IdeAt x L + F)) (.inr rfl) rfl; (· first | (refine rv_tmp (v := .bool _) rfl) | exact rv_tmp rfl); (· exact Ent.auto)) | (apply retRD1 (G := (IdeAt x L + F)) (.inl rfl) rfl; (· first | (refine rv_tmp (v := .bool _) rfl) | exact rv_tmp rfl); (· exact Ent.auto)))
          exact ⟨Ent.refl _, by rw [hfb]⟩
      · have hfb : rightAt L.I.c f xk n 0 = false := by rw [hst]; simp [fieldB, hin, h0]
        refine walk ?_
        (first | (apply retRD1 (G := (IdeAt x L + F)) (.inr rfl) rfl; (· first | (refine rv_tmp (v := .bool _) rfl) | exact rv_tmp rfl); (· exact Ent.auto)) | (apply retRD1 (G := (IdeAt x L + F)) (.inl rfl) rfl; (· first | (refine rv_tmp (v := .bool _) rfl) | exact rv_tmp rfl); (· exact Ent.auto)))
        exact ⟨Ent.refl _, by rw [hfb]⟩
    · rw [decide_eq_false hin]
      by_cases h0 : v = -1
      · have hfb : rightAt L.I.c f xk n (k + 1) = rightAt L.I.c f xk n 0 := by rw [hst]; simp [fieldB, hin, h0]
        refine walk ?_
        exact ⟨k + 1, asided, agreed, Ent.auto, ⟨by omega, hfb⟩, by omega⟩
      · have hfb : rightAt L.I.c f xk n 0 = false := by rw [hst]; simp [fieldB, hin, h0]
        refine walk ?_
        (first | (apply retRD1 (G := (IdeAt x L + F)) (.inr rfl) rfl; (· first | (refine rv_tmp (v := .bool _) rfl) | exact rv_tmp rfl); (· exact Ent.auto)) | (apply retRD1 (G := (IdeAt x L + F)) (.inl rfl) rfl; (· first | (refine rv_tmp (v := .bool _) rfl) | exact rv_tmp rfl); (· exact Ent.auto)))
        exact ⟨Ent.refl _, by rw [hfb]⟩
  · have hfb : rightAt L.I.c f xk n 0 = true := by rw [← hi, show k = 4 by omega]; rfl
    refine walk ?_
    (first | (apply retRD1 (G := (IdeAt x L + F)) (.inr rfl) rfl; (· first | (refine rv_tmp (v := .bool _) rfl) | exact rv_tmp rfl); (· exact Ent.auto)) | (apply retRD1 (G := (IdeAt x L + F)) (.inl rfl) rfl; (· first | (refine rv_tmp (v := .bool _) rfl) | exact rv_tmp rfl); (· exact Ent.auto)))
    exact ⟨Ent.refl _, by rw [hfb]⟩
theorem iKinds [i : HasAt IdeAt H x L F] : Does Try.prog B 26 [ptr x] H fun r H' => H' = H ∧ r = .agg (kindsC L.I.c).toArray := by
  have z2 : Cell B (IdeAt x L) x 2 (.int .i64 L.I.c.g) := ide_cell rfl
  rw [i.eq]
  refine Does.frame0 ?_
  refine fn_intro 27 Try.func26 rfl rfl rfl ?_
  refine walk ?_
  refine s_alloc rfl ?_
  intro b2
  refine walk ?_
  (refine s_build (cs := [str [103, 112, 109], .int .i64 0, .func (.func 36) #[] #[], .func (.func 37) #[] #[]]) ?_ rfl ?_; (· kernel_rfl))
  refine walk ?_
  refine s_alloc rfl ?_
  intro b3
  refine walk ?_
  refine s_storeV (vs := [str [103, 112, 109], .int .i64 0, .func (.func 36) #[] #[], .func (.func 37) #[] #[]]) rfl rfl rfl rfl rfl ?_
  refine walk ?_
  (refine wp_draw [22] (.look 0 (.look 1 (.look 2 (.look 3 (.look 4 (.look 5 (.look 6 (.look 7 (.look 8 (.look 9 (.look 10 (.look 11 (.look 12 (.look 13 (.look 14 (.look 15 (.look 16 (.look 17 (.look 18 (.look 19 (.look 20 (.look 21 (.act 22 .nil .stop))))))))))))))))))))))) (by kernel_rfl) ?_; (apply dw_pure; (· exact rfl); (· exact rfl); (· (intro G; exact looked))); (apply dw_pure; (· exact rfl); (· exact rfl); (· (intro G; exact looked))); (apply dw_pure; (· exact rfl); (· exact rfl); (· (intro G; exact looked))); (apply dw_pure; (· exact rfl); (· exact rfl); (· (intro G; exact looked))); (apply dw_look; (· exact rfl); (· exact rfl); (· (exact looked))); (apply dw_pure; (· exact rfl); (· exact rfl); (· (intro G; (refine s_build (cs := [str [103, 109, 120], .int .i64 L.I.c.g, .func (.func 39) #[] #[], .func (.func 41) #[] #[]]) ?_ rfl ?_; (· kernel_rfl)); exact looked))); (apply dw_pure; (· exact rfl); (· exact rfl); (· (intro G; (refine s_build (cs := [str [103, 112, 109, 120], .int .i64 2, .func (.func 42) #[] #[], .func (.func 44) #[] #[]]) ?_ rfl ?_; (· kernel_rfl)); exact looked))); (apply dw_look; (· exact rfl); (· exact rfl); (· (exact looked))); (apply dw_look; (· exact rfl); (· exact rfl); (· (exact looked))); (apply dw_pure; (· exact rfl); (· exact rfl); (· (intro G; (refine s_build (cs := [str [103, 112, 109, 120], .int .i64 4, .func (.func 46) #[] #[], .func (.func 47) #[] #[]]) ?_ rfl ?_; (· kernel_rfl)); exact looked))); (apply dw_pure; (· exact rfl); (· exact rfl); (· (intro G; (refine s_build (cs := [str [103, 112, 109, 120], .int .i64 4, .func (.func 49) #[] #[], .func (.func 50) #[] #[]]) ?_ rfl ?_; (· kernel_rfl)); exact looked))); (apply dw_pure; (· exact rfl); (· exact rfl); (· (intro G; (refine s_build (cs := [str [103, 112, 109, 120], .int .i64 4, .func (.func 51) #[] #[], .func (.func 53) #[] #[]]) ?_ rfl ?_; (· kernel_rfl)); exact looked))); (apply dw_pure; (· exact rfl); (· exact rfl); (· (intro G; (refine s_build (cs := [str [103, 109, 120], .int .i64 4, .func (.func 55) #[] #[], .func (.func 56) #[] #[]]) ?_ rfl ?_; (· kernel_rfl)); exact looked))); (apply dw_pure; (· exact rfl); (· exact rfl); (· (intro G; (refine s_build (cs := [str [103, 112, 109], .int .i64 0, .func (.func 36) #[] #[], .func (.func 57) #[] #[]]) ?_ rfl ?_; (· kernel_rfl)); exact looked))); (apply dw_pure; (· exact rfl); (· exact rfl); (· (intro G; (refine s_build (cs := [str [103, 112, 109], .int .i64 0, .func (.func 58) #[] #[], .func (.func 59) #[] #[]]) ?_ rfl ?_; (· kernel_rfl)); exact looked))); (apply dw_pure; (· exact rfl); (· exact rfl); (· (intro G; (refine s_build (cs := [str [103, 112, 109, 120], .int .i64 2, .func (.func 60) #[] #[], .func (.func 61) #[] #[]]) ?_ rfl ?_; (· kernel_rfl)); exact looked))); (apply dw_pure; (· exact rfl); (· exact rfl); (· (intro G; (refine s_build (cs := [str [103, 109], .int .i64 0, .func (.func 62) #[] #[], .func (.func 64) #[] #[]]) ?_ rfl ?_; (· kernel_rfl)); exact looked))); (apply dw_pure; (· exact rfl); (· exact rfl); (· (intro G; (refine s_build (cs := [str [112, 109, 120], .int .i64 2, .func (.func 66) #[] #[], .func (.func 67) #[] #[]]) ?_ rfl ?_; (· kernel_rfl)); exact looked))); (apply dw_pure; (· exact rfl); (· exact rfl); (· (intro G; (refine s_build (cs := [str [112, 109], .int .i64 0, .func (.func 43) #[] #[], .func (.func 68) #[] #[]]) ?_ rfl ?_; (· kernel_rfl)); exact looked))); (apply dw_pure; (· exact rfl); (· exact rfl); (· (intro G; (refine s_build (cs := [str [112], .int .i64 0, .func (.func 69) #[] #[], .func (.func 71) #[] #[]]) ?_ rfl ?_; (· kernel_rfl)); exact looked))); (apply dw_pure; (· exact rfl); (· exact rfl); (· (intro G; (refine s_build (cs := [str [112], .int .i64 0, .func (.func 73) #[] #[], .func (.func 74) #[] #[]]) ?_ rfl ?_; (· kernel_rfl)); exact looked))); (apply dw_pure; (· exact rfl); (· exact rfl); (· (intro G; (refine s_buildA (cs := kindsC L.I.c) ?_ rfl ?_; (· kernel_rfl)); exact looked))); skip)
  refine dw_do0 rfl rfl ?_ dw_stop
  refine s_storeV (vs := kindsC L.I.c) rfl rfl rfl rfl rfl ?_
  refine wpl_nil (qone0 ⟨(by refine st_past (by kernel_rfl) ?_; refine st_past (by kernel_rfl) ?_; refine st_past (by kernel_rfl) ?_; exact st_nil), ?_⟩)
  (refine dw_nil ?_; skip)
  refine walk ?_
  refine retR1 (.inr rfl) rfl (rv_cellA rfl Cells.blk0 rfl) ⟨?_, rfl⟩
  exact Ent.auto
end
end Go.Proofs.Ytlhnmbajbhaaoaa
