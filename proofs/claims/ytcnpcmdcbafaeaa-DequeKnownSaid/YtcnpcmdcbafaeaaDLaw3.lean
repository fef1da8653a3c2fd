/- The law: nobody is lost, and nobody doubled. No condition. -/
import Derived.Test.YtcnpcmdcbafaeaaDNobody
namespace Go.Proofs.Ytcnpcmdcbafaeaa
open Go Go.SL
set_option linter.unusedSimpArgs false
set_option linter.unusedVariables false
set_option maxRecDepth 10000
set_option maxHeartbeats 4000000
attribute [local irreducible] WP WPL QSeq QBlk QRet Does Cell Cells Rd Mine Ent Aside RV DqX DqAt Yield
section
variable {B : World} {F H G : HProp} {p : Nat}
theorem nobody_early {n : Int} {s : Value} {l : List Int} (hs : Rd B F 1 s l.length (zs l)) (h : 150 < l.length) : Does Try.prog B 3 [.int .u8 n, s] F fun r H' => Ent H' F ∧ r = .bool true := by
  unfold Rd at hs
  obtain ⟨ao, cap, rfl, _, hm, _⟩ := hs
  refine fn_intro 125 Try.func3 rfl rfl rfl ?_
  refine walk ?_
  refine s_call rfl (works_spec) rfl ?_
  rintro _ _ ⟨e_, rfl⟩
  obtain rfl := e_.symm
  refine walk ?_
  exact ret1 (v := .bool _) (.inr rfl) rfl rfl ⟨Ent.refl _, rfl⟩
theorem nobody_main {n : Int} {s : Value} {l : List Int} (hn : 0 ≤ n ∧ n ≤ 255) (hs : Rd B F 1 s l.length (zs l)) (h : l.length ≤ 150) : Does Try.prog B 3 [.int .u8 n, s] F fun r H' => Ent H' F ∧ r = .bool true := by
  unfold Rd at hs
  obtain ⟨ao, cap, rfl, hl, hm, hal⟩ := hs
  obtain ⟨k, hk⟩ := Int.eq_ofNat_of_zero_le (show 0 ≤ n % 6 by omega)
  have hk6 : k < 6 := by omega
  have hroom : isRoom (2 ^ (k + 1)) = true := isRoom_pow (by omega) (by omega)
  have hsh : IntKind.i64.wrap (2 * 2 ^ (min (n % 6).toNat IntKind.i64.bits)) = ((2 ^ (k + 1) : Nat) : Int) := by
    rw [hk]
    have : k = 0 ∨ k = 1 ∨ k = 2 ∨ k = 3 ∨ k = 4 ∨ k = 5 := by omega
    rcases this with rfl | rfl | rfl | rfl | rfl | rfl <;> decide
  generalize 2 ^ (k + 1) = q at hroom hsh
  have hq := room_bound hroom
  refine fn_intro 125 Try.func3 rfl rfl rfl ?_
  refine walk ?_
  refine s_shl rfl rfl (by omega) hsh rfl ?_
  refine s_call rfl (dNew (q := q) (l := []) hroom Rd.nil (by simp)) rfl ?_
  rintro _ _ ⟨p, rfl, rfl⟩
  refine walk ?_
  rw [List.take_nil]
  refine wp_loopF (α := Nat × Nat × List Int × List Int × Value) [4, 7, 8, 9, 10, 11, 12, 13, 14, 15, 29, 30, 31, 32, 33, 34, 35, 36, 37, 38, 39, 40, 41, 42, 43, 44, 45, 46, 47, 48, 49, 50, 51, 52, 53, 54, 55, 56, 57, 58, 59, 60, 61, 62, 63, 64, 65, 66, 67, 68, 69, 70, 71, 72, 73, 74, 75, 76, 77, 78, 79, 80, 81, 82, 83, 84, 85, 86, 87, 88, 89, 90, 91, 92, 93, 94, 95, 96, 97, 98, 99, 100, 101, 102, 103, 104, 105, 106, 107, 108, 109, 110, 111, 112, 113, 114, 115, 116, 117, 118, 119, 120, 121, 122, 123] (fun x => [(7, .int .i64 x.2.1), (8, x.2.2.2.2), (9, .int .i64 x.1)])
    (fun x => DqAt p ⟨q, x.2.2.1⟩ + (Mine 3 1 x.2.2.2.2 x.2.2.2.1.length (zs x.2.2.2.1) + F))
    (fun x => x.1 ≤ l.length ∧ x.2.1 ≤ 3 * x.1 ∧ Once x.2.1 (x.2.2.1 ++ x.2.2.2.1)) (fun x => l.length - x.1) (0, 0, [], [], .slice none 0 0) agreed ?_ ⟨Nat.zero_le _, Nat.zero_le _, Once.nil⟩ ?_
  · refine Ent.ac ?_
    show _ = DqAt p ⟨q, []⟩ + (Mine 3 1 (.slice none 0 0) 0 [] + F)
    rw [Mine.nil, HProp.emp_add]
  rintro ⟨i, n1, L, O, v⟩ g0 ⟨hi, hn1, ho⟩
  simp only at hi hn1 ho
  simp only [putAll]
  have hlen := ho.length
  rw [List.length_append] at hlen
  by_cases hlt : i < l.length
  · obtain ⟨bl, ol, rfl, hcl⟩ := Rd.addr hl hal hlt
    refine walk ?_
    refine s_call rfl (pick_spec (i := l[i]) (n := 6) (by omega)) rfl ?_
    rintro _ _ ⟨e_, rfl⟩
    obtain rfl := e_.symm
    refine wpl_nil_seq ?_
    refine wp_cut_here (α := Nat × List Int × List Int × Value) [4, 7, 8, 9, 10, 11, 12, 13, 14, 15, 29, 30, 31, 32, 33, 34, 35, 36, 37, 38, 39, 40, 41, 42, 43, 44, 45, 46, 47, 48, 49, 50, 51, 52, 53, 54, 55, 56, 57, 58, 59, 60, 61, 62, 63, 64, 65, 66, 67, 68, 69, 70, 71, 72, 73, 74, 75, 76, 77, 78, 79, 80, 81, 82, 83, 84, 85, 86, 87, 88, 89, 90, 91, 92, 93, 94, 95, 96, 97, 98, 99, 100, 101, 102, 103, 104, 105, 106, 107, 108, 109, 110, 111, 112, 113, 114, 115, 116, 117, 118, 119, 120, 121, 122, 123] (fun z => [(7, .int .i64 z.1), (8, z.2.2.2), (9, .int .i64 i)])
      (fun z => DqAt p ⟨q, z.2.1⟩ + (Mine 3 1 z.2.2.2 z.2.2.1.length (zs z.2.2.1) + F))
      (fun z => z.1 ≤ 3 * (i + 1) ∧ Once z.1 (z.2.1 ++ z.2.2.1)) ?_ ?_
    · have hput := ho.put (q := q)
      have ha : l[i] % 6 = 0 ∨ l[i] % 6 = 1 ∨ l[i] % 6 = 2 ∨ l[i] % 6 = 3 ∨ l[i] % 6 = 4 ∨ l[i] % 6 = 5 := by omega
      rcases ha with ha | ha | ha | ha | ha | ha
      · skip
        refine walk ?_
        refine s_call rfl (dPut (p := p) (g := n1)) rfl ?_
        rintro v1 _ rfl
        refine walk ?_
        simp only
        refine WPL.rd fun rv => ?_
        refine s_append (v := v) rfl rfl rv.sub (zs_one _) rfl ?_ rfl ?_
        · have hl2 := hput.length
          simp only [List.length_append] at hl2
          simp only [maxLen]; omega
        intro v'
        rw [← zs_append, ← List.length_append]
        refine walk ?_
        exact ⟨(n1 + 1, (putD q L n1).2, O ++ (putD q L n1).1, v'), asided, agreed, Ent.auto, by simp only; omega, hput⟩
      · skip
        refine walk ?_
        refine s_call rfl (dPut (p := p) (g := n1)) rfl ?_
        rintro v1 _ rfl
        refine walk ?_
        simp only
        refine WPL.rd fun rv => ?_
        refine s_append (v := v) rfl rfl rv.sub (zs_one _) rfl ?_ rfl ?_
        · have hl2 := hput.length
          simp only [List.length_append] at hl2
          simp only [maxLen]; omega
        intro v'
        rw [← zs_append, ← List.length_append]
        refine walk ?_
        exact ⟨(n1 + 1, (putD q L n1).2, O ++ (putD q L n1).1, v'), asided, agreed, Ent.auto, by simp only; omega, hput⟩
      · skip
        refine walk ?_
        refine s_call rfl (dPut (p := p) (g := n1)) rfl ?_
        rintro v1 _ rfl
        refine walk ?_
        simp only
        refine WPL.rd fun rv => ?_
        refine s_append (v := v) rfl rfl rv.sub (zs_one _) rfl ?_ rfl ?_
        · have hl2 := hput.length
          simp only [List.length_append] at hl2
          simp only [maxLen]; omega
        intro v'
        rw [← zs_append, ← List.length_append]
        refine walk ?_
        exact ⟨(n1 + 1, (putD q L n1).2, O ++ (putD q L n1).1, v'), asided, agreed, Ent.auto, by simp only; omega, hput⟩
      · refine walk ?_
        refine s_buildInts (cs := zs [(n1 : Int), n1 + 1, n1 + 2]) rfl rfl rfl rfl rfl ?_
        intro b1
        refine s_call rfl (dLay (p := p) (l := [(n1 : Int), n1 + 1, n1 + 2]) (Rd.blk0 rfl (by simp [maxLen])) (by simp)) rfl ?_
        rintro _ _ ⟨rfl, rfl⟩
        have hmin : min 3 (q - L.length) ≤ 3 := Nat.min_le_left _ _
        simp only [show List.length [(n1 : Int), n1 + 1, n1 + 2] = 3 from rfl]
        refine walk ?_
        exact ⟨(n1 + min 3 (q - L.length), L ++ [(n1 : Int), n1 + 1, n1 + 2].take (q - L.length), O, v), asided, agreed, Ent.auto, by simp only; omega, ho.lay⟩
      · refine walk ?_
        refine s_call rfl (dGet (p := p)) rfl ?_
        rintro _ _ (⟨rfl, rfl, rfl⟩ | ⟨y, L', rfl, rfl, rfl⟩)
        · refine walk ?_
          exact ⟨(n1, [], O, v), asided, agreed, Ent.auto, by simp only; omega, ho⟩
        · refine walk ?_
          refine s_buildInts (cs := zs [y]) rfl rfl rfl rfl rfl ?_
          intro b1
          refine s_append (v := v) rfl rfl (Rd.blk0 (m := 1) (e := 3) rfl (by simp [maxLen])) rfl rfl ?_ rfl ?_
          · simp at hlen
            simp only [maxLen]; omega
          intro v'
          rw [← zs_append, ← len_push O y]
          refine walk ?_
          exact ⟨(n1, L', O ++ [y], v'), asided, agreed, Ent.auto, by simp only; omega, ho.take (k := 1)⟩
      · refine walk ?_
        refine s_call rfl (dSteal (p := p)) rfl ?_
        rintro v1 _ rfl
        refine walk ?_
        simp only
        refine WPL.rd fun rv => ?_
        refine s_append (v := v) rfl rfl rv.sub (zs_one _) rfl ?_ rfl ?_
        · have : older L ≤ L.length := by unfold older; omega
          simp only [maxLen]; omega
        intro v'
        have e1 : O.length + older L = (O ++ L.take (older L)).length := by simp [older]
        rw [← zs_append, e1]
        refine walk ?_
        exact ⟨(n1, L.drop (older L), O ++ L.take (older L), v'), asided, agreed, Ent.auto, by simp only; omega, ho.take⟩
    · rintro ⟨n2, L2, O2, u⟩ g2 ⟨hn2, ho2⟩
      simp only at hn2 ho2
      simp only [putAll]
      have hlen2 := ho2.length
      have hlen3 := hlen2
      rw [List.length_append] at hlen3
      have ho3 := ho2
      refine walk ?_
      refine s_call rfl (dAll (p := p)) rfl ?_
      rintro v2 _ rfl
      refine walk ?_
      simp only
      refine WPL.split (Mine 3 1 u O2.length (zs O2)) (WPL.rd fun rv => ?_)
      refine s_append (v := v2) rfl rfl rv.sub (zs_one _) rfl ?_ rfl ?_
      · simp only [maxLen]; omega
      intro v3
      rw [← zs_append, ← List.length_append, hlen2]
      generalize L2 ++ O2 = all at ho3 hlen2
      refine WPL.shape ?_
      rintro ao3 cap3 rfl _ hc3 hm3
      refine WPL.rd fun rd3 => ?_
      unfold Rd at rd3
      obtain ⟨_, _, hv, hl3, _, hal3⟩ := rd3
      cases hv
      refine walk ?_
      refine s_makeSlice (k := n2) (c := n2) rfl rfl (Nat.le_refl _) (by simp only [maxLen]; omega) rfl ?_
      intro bs
      rw [seenC_nil, show seenC n2 [] = seenC n2 (all.take 0) from rfl]
      refine walk ?_
      refine wp_loopS (α := Nat) [4, 15, 90, 91, 92, 93, 94, 95, 96, 97, 98, 99, 100, 101, 102, 103, 104, 105, 106, 107, 108, 109, 110, 111, 112, 113, 114, 115, 116, 117, 118, 119, 120, 121, 122, 123] (fun k => [(15, .int .i64 k)]) (fun k => blk bs (seenC n2 (all.take k)) 4) (fun k => k ≤ n2) (fun k => n2 - k) 0 agreed (Nat.zero_le _) ?_
      rintro k g3 hk
      simp only [putAll]
      by_cases hlt3 : k < n2
      · have hka : k < all.length := by omega
        obtain ⟨h1, h2, h3⟩ := ho3.at_ hka
        obtain ⟨x, hx⟩ := Int.eq_ofNat_of_zero_le h1
        rw [hx] at h2 h3
        have hxn : x < n2 := by omega
        obtain ⟨b3, o3, rfl, hcl3⟩ := Rd.addr hl3 hal3 hlt3
        have hc3 := hcl3.cell (zs_get all k hka)
        rw [hx] at hc3
        have hs : (seenC n2 (all.take k))[x]? = some (.bool false) := by rw [seenC_at hxn, decide_eq_false h3]
        refine walk ?_
        refine s_load (v := .bool false) rfl (Cell.blk hs) rfl ?_
        refine walk ?_
        refine s_store (v := .bool true) (cs' := seenC n2 (all.take (k + 1))) rfl rfl rfl (by rw [seenC_length]; omega) ?_ ?_
        · rw [seenC_set hxn, List.take_succ_eq_append_getElem hka, hx]
        refine walk ?_
        exact ⟨k + 1, asided, agreed, Ent.auto, hlt3, by omega⟩
      · refine walk ?_
        exact ⟨(i + 1, n2, L2, O2, u), asided, agreed, Ent.auto, ⟨hlt, hn2, ho2⟩, by simp only; omega⟩
  · refine walk ?_
    refine s_call rfl (works_spec) rfl ?_
    rintro _ _ ⟨e_, rfl⟩
    obtain rfl := e_.symm
    refine walk ?_
    exact QRet.ent (Ent.trans (Ent.drop_left _ _) (Ent.drop_left _ _)) (ret1 (v := .bool _) (.inr rfl) rfl rfl ⟨Ent.refl _, rfl⟩)
end
end Go.Proofs.Ytcnpcmdcbafaeaa
