/- The law on what is asked. No condition. -/
import Derived.Test.YtnfipmbmknlmpaaTLaw5c
import Derived.Test.YtnfipmbmknlmpaaSLStr
namespace Go.Proofs.Ytnfipmbmknlmpaa
open Go Go.SL
set_option linter.unusedSimpArgs false
set_option linter.unusedVariables false
set_option maxRecDepth 10000
set_option maxHeartbeats 2000000
attribute [local irreducible] WP WPL QSeq QBlk QRet Does Cell Cells Rd Own Ent Aside RV TabX TabAt

def texts : List (List UInt8) := [[102, 114, 101, 101], [114, 117, 110, 110, 97, 98, 108, 101], [114, 117, 110, 110, 105, 110, 103], [119, 97, 105, 116, 105, 110, 103], [99, 97, 108, 108, 105, 110, 103]]
def textOf (g : Int) : Value := if 0 ≤ g ∧ g < 5 then str (texts.getD g.toNat []) else str []
section
variable {B : World} {F H : HProp} {p : Nat} {T U : Tab}
theorem text_spec {g : Int} : Does Try.prog B 21 [.int .i64 g] H fun r H' => H' = H ∧ r = textOf g := by
  refine fn_intro 12 Try.func21 rfl rfl rfl ?_
  unfold textOf
  by_cases h0 : 0 ≤ g
  · by_cases h5 : g < 5
    · rw [if_pos ⟨h0, h5⟩]
      obtain ⟨k, rfl⟩ := Int.eq_ofNat_of_zero_le h0
      refine walk ?_
      refine s_buildA (cs := texts.map str) rfl rfl ?_
      refine walk ?_
      refine s_indexV (j := k) (v := str (texts.getD k [])) rfl rfl rfl (by omega) ?_ rfl ?_
      · have : k < texts.length := by simp [texts]; omega
        simp [this]
      refine walk ?_
      exact ret1 (.inr rfl) rfl rfl ⟨rfl, rfl⟩
    · rw [if_neg (by omega)]
      refine walk ?_
      exact ret1 (v := .string _) (.inr rfl) rfl rfl ⟨rfl, rfl⟩
  · rw [if_neg (by omega)]
    refine walk ?_
    exact ret1 (v := .string _) (.inr rfl) rfl rfl ⟨rfl, rfl⟩

theorem asks_early {s u : Value} {n g : Int} {l : List TAct} {xs : List Int} (hs : Rd B F 3 s l.length (actCells l)) (hu : Rd B F 1 u xs.length (zs xs)) (h : 40 < n ∨ 80 < l.length ∨ 10 < xs.length) : Does Try.prog B 3 [.int .i64 n, s, u, .int .i64 g] F fun r H' => Ent H' F ∧ r = .bool true := by
  unfold Rd at hs hu
  obtain ⟨ao, cap, rfl, _, _, _⟩ := hs
  obtain ⟨uo, ucap, rfl, _, _, _⟩ := hu
  refine fn_intro 186 Try.func3 rfl rfl rfl ?_
  by_cases h1 : 40 < n
  · refine walk ?_
    refine s_call rfl (tWorks) rfl ?_
    rintro _ _ ⟨rfl, rfl⟩
    refine walk ?_
    exact ret1 (v := .bool _) (.inr rfl) rfl rfl ⟨Ent.refl _, rfl⟩
  · by_cases h2 : 80 < l.length
    · refine walk ?_
      refine s_call rfl (tWorks) rfl ?_
      rintro _ _ ⟨rfl, rfl⟩
      refine walk ?_
      exact ret1 (v := .bool _) (.inr rfl) rfl rfl ⟨Ent.refl _, rfl⟩
    · refine walk ?_
      refine s_call rfl (tWorks) rfl ?_
      rintro _ _ ⟨rfl, rfl⟩
      refine walk ?_
      exact ret1 (v := .bool _) (.inr rfl) rfl rfl ⟨Ent.refl _, rfl⟩
theorem asks_main {s u : Value} {n g : Int} {l : List TAct} {xs : List Int} (hs : Rd B F 3 s l.length (actCells l)) (hu : Rd B F 1 u xs.length (zs xs)) (h : n ≤ 40) (h2 : l.length ≤ 80) (h3 : xs.length ≤ 10) : Does Try.prog B 3 [.int .i64 n, s, u, .int .i64 g] F fun r H' => Ent H' F ∧ r = .bool true := by
  have hu' := hu
  unfold Rd at hs hu
  obtain ⟨ao, cap, rfl, hl, _, hal⟩ := hs
  obtain ⟨uo, ucap, rfl, _, _, _⟩ := hu
  obtain ⟨m, hm⟩ := Int.eq_ofNat_of_zero_le (show 0 ≤ max 0 (min n 256) by omega)
  have hm2 : m ≤ 256 := by omega
  refine fn_intro 186 Try.func3 rfl rfl rfl ?_
  refine walk ?_
  refine s_call rfl (tNew hm) rfl ?_
  rintro _ _ ⟨p, rfl, rfl⟩
  refine walk ?_
  refine s_call rfl (rNew hm) rfl ?_
  rintro _ _ ⟨X, a, rfl, rfl, q⟩
  refine walk ?_
  refine s_alloc rfl ?_
  intro b10
  refine walk ?_
  refine s_storeW (vs := a.cells (Tab.new m)) rfl rfl rfl (by exact rfl) (by exact rfl) ?_
  refine walk ?_
  refine wp_loopF (α := Nat × Tab × HProp × RefA) [11, 37, 38, 39, 40, 41, 42, 43, 44, 45, 46, 47, 48, 49, 50, 51, 52, 53, 54, 55, 56, 57, 58, 59, 60, 61, 62, 63, 64, 65, 66, 67, 68, 69, 70, 71, 72, 73, 74, 75, 76, 77, 78, 79, 80, 81, 82] (fun x => [(11, .int .i64 x.1)])
    (fun x => TabAt p x.2.1 + (blk b10 (x.2.2.2.cells x.2.1) 28 + (x.2.2.1 + F))) (fun x => Playing B F l.length x.1 x.2.1 x.2.2.1 x.2.2.2) (fun x => l.length - x.1) (0, Tab.new m, X, a) agreed Ent.auto ⟨Nat.zero_le _, Tab.ok.new hm2, q.ent (Ent.drop_right _ _)⟩ ?_
  rintro ⟨i, T, X, a⟩ g0 ⟨hi, ok, href⟩
  simp only at hi ok href
  simp only [putAll]
  have hok := ok.long
  by_cases hlt : i < l.length
  · obtain ⟨bs, os, rfl, hcm, hcg, hcx⟩ := act_at hal hlt
    have ok2 := ok.act l[i]
    cases hmk : l[i].isMk with
    | true =>
      have eact : T.act l[i] = T.make.2.2 := by unfold Tab.act; rw [if_pos hmk]
      rw [eact] at ok2
      rw [hmk] at hcm
      refine walk ?_
      refine s_call rfl (rMake (href.ent InH.ent) ok (by omega)) rfl ?_
      rintro _ _ ⟨Y, a', rfl, rfl, hr'⟩
      refine walk ?_
      refine s_storeW (vs := a'.cells T.make.2.2) rfl rfl rfl (by exact rfl) (by exact rfl) ?_
      refine walk ?_
      refine s_call rfl (tMake ok (by omega)) rfl ?_
      rintro _ _ ⟨rfl, rfl⟩
      refine walk ?_
      exact ⟨(i + 1, T.make.2.2, Y + X, a'), asided, agreed, Ent.auto, ⟨hlt, ok2, (hr' _ href).ent (by rw [HProp.add_assoc]; exact Ent.refl _)⟩, by simp only; omega⟩
    | false =>
      have eact : T.act l[i] = (T.set l[i].g l[i].st).2 := by unfold Tab.act; rw [hmk]; rfl
      rw [eact] at ok2
      rw [hmk] at hcm
      refine walk ?_
      (refine wp_draw [11, 15] (.look 0 (.look 1 (.look 2 (.look 3 (.look 4 (.look 5 (.look 6 (.look 7 (.look 8 (.look 9 (.look 10 (.act 11 (.look 12 (.look 13 (.look 14 (.act 15 .nil .stop)))) .stop)))))))))))) (by kernel_rfl) ?_; (apply dw_look; (· exact rfl); (· exact rfl); (· exact looked)); (apply dw_pure; (· exact rfl); (· exact rfl); (· (intro G; exact looked))); (apply dw_pure; (· exact rfl); (· exact rfl); (· (intro G; exact looked))); (apply dw_pure; (· exact rfl); (· exact rfl); (· (intro G; exact looked))); (apply dw_pure; (· exact rfl); (· exact rfl); (· (intro G; exact looked))); (apply dw_look; (· exact rfl); (· exact rfl); (· exact looked)); (apply dw_pure; (· exact rfl); (· exact rfl); (· (intro G; exact looked))); (apply dw_pure; (· exact rfl); (· exact rfl); (· (intro G; exact looked))); (apply dw_pure; (· exact rfl); (· exact rfl); (· (intro G; exact looked))); (apply dw_pure; (· exact rfl); (· exact rfl); (· (intro G; exact looked))); (apply dw_look; (· exact rfl); (· exact rfl); (· exact looked)); skip)
      refine dw_do rfl rfl ?_ dw_stop
      refine s_call rfl (rSet (href.ent InH.ent) ok (by omega)) rfl ?_
      rintro _ _ ⟨Y, a', rfl, rfl, hr'⟩
      refine wpl_nil (qone ⟨(by refine st_past (by kernel_rfl) ?_; refine st_past (by kernel_rfl) ?_; refine st_past (by kernel_rfl) ?_; exact st_nil), ?_⟩)
      ((apply dw_pure; (· exact rfl); (· exact rfl); (· (intro G; exact looked))); (apply dw_pure; (· exact rfl); (· exact rfl); (· (intro G; exact looked))); (apply dw_pure; (· exact rfl); (· exact rfl); (· (intro G; exact looked))); skip)
      refine dw_do0 rfl rfl ?_ dw_stop
      refine s_storeW (vs := a'.cells (T.set l[i].g l[i].st).2) rfl rfl rfl (by exact rfl) (by exact rfl) ?_
      refine wpl_nil (qone0 ⟨(by refine st_past (by kernel_rfl) ?_; refine st_past (by kernel_rfl) ?_; refine st_past (by kernel_rfl) ?_; exact st_nil), ?_⟩)
      (refine dw_nil ?_; skip)
      refine walk ?_
      (refine wp_draw [11] (.look 0 (.look 1 (.look 2 (.look 3 (.look 4 (.look 5 (.look 6 (.look 7 (.look 8 (.look 9 (.look 10 (.act 11 .nil .stop)))))))))))) (by kernel_rfl) ?_; (apply dw_pure; (· exact rfl); (· exact rfl); (· (intro G; exact looked))); (apply dw_pure; (· exact rfl); (· exact rfl); (· (intro G; exact looked))); (apply dw_pure; (· exact rfl); (· exact rfl); (· (intro G; exact looked))); (apply dw_pure; (· exact rfl); (· exact rfl); (· (intro G; exact looked))); (apply dw_pure; (· exact rfl); (· exact rfl); (· (intro G; exact looked))); (apply dw_look; (· exact rfl); (· exact rfl); (· exact looked)); (apply dw_pure; (· exact rfl); (· exact rfl); (· (intro G; exact looked))); (apply dw_pure; (· exact rfl); (· exact rfl); (· (intro G; exact looked))); (apply dw_pure; (· exact rfl); (· exact rfl); (· (intro G; exact looked))); (apply dw_pure; (· exact rfl); (· exact rfl); (· (intro G; exact looked))); (apply dw_look; (· exact rfl); (· exact rfl); (· exact looked)); skip)
      refine dw_do rfl rfl ?_ dw_stop
      refine s_call rfl (tSet ok (by omega)) rfl ?_
      rintro _ _ ⟨rfl, rfl⟩
      refine wpl_nil (qone ⟨(by refine st_past (by kernel_rfl) ?_; refine st_past (by kernel_rfl) ?_; exact st_nil), ?_⟩)
      (refine dw_nil ?_; skip)
      refine walk ?_
      exact ⟨(i + 1, (T.set l[i].g l[i].st).2, Y + X, a'), asided, agreed, Ent.auto, ⟨hlt, ok2, (hr' _ href).ent (by rw [HProp.add_assoc]; exact Ent.refl _)⟩, by simp only; omega⟩
  · refine walk ?_
    refine s_call rfl (rOf (href.ent InH.ent) (hu'.ent InH.ent) ok) rfl ?_
    rintro _ _ rfl
    refine walk ?_
    refine WP.shape ?_
    rintro wo wcap rfl _ hwc hwm
    refine WP.rd fun rdw => ?_
    have hwl := ofTo_len T.all xs T.all.length
    have hsz := ok.size
    generalize hwant : ofTo T.all xs T.all.length = want at *
    refine walk ?_
    refine wp_loopR (α := Nat) [8, 13, 14, 15, 86, 87, 88, 89, 90, 91, 92, 93, 94, 95, 96, 97, 98, 99, 100, 101, 102, 103, 104, 105] (fun k => [(13, .int .i64 k)]) (fun k => k ≤ 2) (fun k => 2 - k) 0 agreed (by omega) ?_
    rintro k g3 hk
    simp only [putAll]
    by_cases hk2 : k < 2
    · refine walk ?_
      refine s_call rfl (tOf (hu'.ent InH.ent) ok) rfl ?_
      rintro _ _ rfl
      refine walk ?_
      rw [hwant]
      refine WPL.shape ?_
      rintro oo ocap rfl _ hoc hom
      refine WPL.rd fun rdo => ?_
      refine walk ?_
      refine s_call rfl (sameInts_spec (xs := want) (ys := want) (rdo.ent InH.ent) (rdw.ent InH.ent)) rfl ?_
      rintro _ _ ⟨rfl, rfl⟩
      refine walk ?_
      rw [decide_eq_true (rfl : want = want)]
      refine walk ?_
      refine wp_loopS (α := Nat × List Int) [15, 97, 98, 99, 100, 101, 102, 103, 104, 105] (fun j => [(15, .int .i64 j.1)]) (fun j => Own 3 1 (.slice oo want.length ocap) want.length (zs j.2)) (fun j => j.1 ≤ want.length ∧ j.2.length = want.length) (fun j => want.length - j.1) (0, want) agreed ⟨Nat.zero_le _, rfl⟩ ?_
      rintro ⟨j, ys⟩ g4 ⟨hj, hjl⟩
      simp only at hj hjl
      simp only [putAll]
      by_cases hlt2 : j < want.length
      · refine WP.open (by omega) ?_
        rintro bo sp rfl hsp
        refine walk ?_
        refine s_store (v := .int _ _) (cs' := zs (ys.set j 77) ++ sp) rfl rfl rfl (by simp [zs_length]; omega) ?_ ?_
        · rw [List.set_append_left _ _ (by rw [zs_length]; omega), zs_set]
        refine walk ?_
        refine ⟨(j + 1, ys.set j 77), asided, agreed, ?_, ⟨hlt2, by simp [hjl]⟩, by simp only; omega⟩
        refine Ent.step (A := blk bo (zs (ys.set j 77) ++ sp) 3) (Own.of_blk (spare := sp) rfl (by rw [zs_length, List.length_set]; omega) hoc hom ?_) (Ent.refl _)
        simpa [zs_length] using hsp
      · refine walk ?_
        exact ⟨k + 1, asided, agreed, Ent.auto, by omega, by omega⟩
    · skip
      obtain ⟨o1, k1, o2, k2, o3, k3⟩ := a
      refine walk ?_
      refine s_call rfl tStatus rfl ?_
      rintro _ _ ⟨rfl, hr⟩
      by_cases hg : 0 ≤ g ∧ g < T.all.length
      · rw [if_pos hg] at hr
        subst hr
        obtain ⟨kg, hkg⟩ := Int.eq_ofNat_of_zero_le hg.1
        have hkl : kg < T.all.length := by omega
        obtain ⟨_, _, _, hv, r1, r2, r3⟩ := href
        simp [RefA.cells] at hv
        obtain ⟨rfl, rfl, rfl⟩ := hv
        unfold Rd at r1 r2
        obtain ⟨_, _, hv, hl1, _, ha1⟩ := r1
        cases hv
        obtain ⟨_, _, hv, hl2, _, ha2⟩ := r2
        cases hv
        obtain ⟨b1, p1, rfl, hc1⟩ := Rd.addr hl1 ha1 hkl
        obtain ⟨b2, p2, rfl, hc2⟩ := Rd.addr hl2 ha2 hkl
        have hst : kg < T.st.length := by simp [Tab.st]; exact hkl
        have hbn : kg < T.bn.length := by simp [Tab.bn]; exact hkl
        have e1 : (T.all[g.toNat]?.getD (0, 0)).1 = T.st[kg] := by subst hkg; simp [Tab.st, hkl]
        have e2 : (T.all[g.toNat]?.getD (0, 0)).2 = T.bn[kg] := by subst hkg; simp [Tab.bn, hkl]
        rw [e1]
        refine walk ?_
        subst hkg
        (refine wp_draw [16] (.look 0 (.look 1 (.look 2 (.look 3 (.look 4 (.look 5 (.look 6 (.look 7 (.look 8 (.look 9 (.look 10 (.look 11 (.look 12 (.look 13 (.look 14 (.look 15 (.look 17 (.look 18 (.look 19 (.look 20 (.look 21 (.act 16 (.look 22 (.look 23 (.look 24 (.look 25 (.look 26 (.look 27 (.look 28 (.look 29 (.look 30 (.look 31 (.look 32 (.look 33 (.look 34 (.look 35 (.look 36 (.look 37 (.look 38 (.look 39 .nil)))))))))))))))))) .stop)))))))))))))))))))))) (by kernel_rfl) ?_; (apply dw_pure; (· exact rfl); (· exact rfl); (· (intro G; exact looked))); (apply dw_pure; (· exact rfl); (· exact rfl); (· (intro G; exact looked))); (apply dw_pure; (· exact rfl); (· exact rfl); (· (intro G; exact looked))); (apply dw_pure; (· exact rfl); (· exact rfl); (· (intro G; exact looked))); (apply dw_pure; (· exact rfl); (· exact rfl); (· (intro G; exact looked))); (apply dw_pure; (· exact rfl); (· exact rfl); (· (intro G; exact looked))); (apply dw_pure; (· exact rfl); (· exact rfl); (· (intro G; exact looked))); (apply dw_pure; (· exact rfl); (· exact rfl); (· (intro G; exact looked))); (apply dw_look; (· exact rfl); (· exact rfl); (· exact looked)); (apply dw_pure; (· exact rfl); (· exact rfl); (· (intro G; exact looked))); (apply dw_pure; (· exact rfl); (· exact rfl); (· (intro G; exact looked))); (apply dw_look; (· exact rfl); (· exact rfl); (· exact looked)); (apply dw_pure; (· exact rfl); (· exact rfl); (· (intro G; exact looked))); (apply dw_pure; (· exact rfl); (· exact rfl); (· (intro G; exact looked))); (apply dw_pure; (· exact rfl); (· exact rfl); (· (intro G; exact looked))); (apply dw_pure; (· exact rfl); (· exact rfl); (· (intro G; exact looked))); (apply dw_pure; (· exact rfl); (· exact rfl); (· (intro G; exact looked))); (apply dw_look; (· exact rfl); (· exact rfl); (· exact looked)); (apply dw_pure; (· exact rfl); (· exact rfl); (· (intro G; exact looked))); (apply dw_pure; (· exact rfl); (· exact rfl); (· (intro G; exact looked))); (apply dw_look; (· exact rfl); (· exact rfl); (· exact looked)); skip)
        refine dw_do rfl rfl ?_ dw_stop
        refine walk ?_
        refine s_call rfl tBorn rfl ?_
        rintro _ _ ⟨rfl, hb⟩
        rw [if_pos hg, e2] at hb
        subst hb
        refine wpl_nil (qone ⟨(by (refine st_again ?_ ?_; (· exact looked)); (refine st_again ?_ ?_; (· exact looked)); refine st_past (by kernel_rfl) ?_; refine st_past (by kernel_rfl) ?_; exact st_nil), ?_⟩)
        ((apply dw_pure; (· exact rfl); (· exact rfl); (· (intro G; exact looked))); (apply dw_pure; (· exact rfl); (· exact rfl); (· (intro G; exact looked))); (apply dw_pure; (· exact rfl); (· exact rfl); (· (intro G; exact looked))); (apply dw_pure; (· exact rfl); (· exact rfl); (· (intro G; exact looked))); (apply dw_pure; (· exact rfl); (· exact rfl); (· (intro G; exact looked))); (apply dw_pure; (· exact rfl); (· exact rfl); (· (intro G; exact looked))); (apply dw_pure; (· exact rfl); (· exact rfl); (· (intro G; exact looked))); (apply dw_pure; (· exact rfl); (· exact rfl); (· (intro G; exact looked))); (apply dw_pure; (· exact rfl); (· exact rfl); (· (intro G; exact looked))); (apply dw_pure; (· exact rfl); (· exact rfl); (· (intro G; exact looked))); (apply dw_pure; (· exact rfl); (· exact rfl); (· (intro G; exact looked))); (apply dw_pure; (· exact rfl); (· exact rfl); (· (intro G; exact looked))); (apply dw_pure; (· exact rfl); (· exact rfl); (· (intro G; exact looked))); (apply dw_pure; (· exact rfl); (· exact rfl); (· (intro G; exact looked))); (apply dw_pure; (· exact rfl); (· exact rfl); (· (intro G; exact looked))); (apply dw_pure; (· exact rfl); (· exact rfl); (· (intro G; exact looked))); (apply dw_pure; (· exact rfl); (· exact rfl); (· (intro G; exact looked))); (apply dw_pure; (· exact rfl); (· exact rfl); (· (intro G; exact looked))); refine dw_nil ?_; skip)
        generalize hgg : (kg : Int) = g at *
        by_cases hg5 : 0 ≤ g ∧ g < 5
        · obtain ⟨kk, rfl⟩ := Int.eq_ofNat_of_zero_le hg5.1
          have htx : textOf (kk : Int) = str (texts.getD kk []) := by unfold textOf; rw [if_pos hg5]; rfl
          refine walk ?_
          refine s_buildInts (cs := texts.map str) rfl rfl rfl rfl rfl ?_
          intro bt
          refine walk ?_
          refine s_load (v := str (texts.getD kk [])) rfl (Cell.blk ?_) rfl ?_
          · have : kk < texts.length := by simp [texts]; omega
            simp [this]
          refine walk ?_
          refine s_call rfl (tCount (hu'.ent InH.ent) ok) rfl ?_
          rintro _ _ ⟨rfl, rfl⟩
          refine walk ?_
          rw [hwant]
          refine walk ?_
          refine s_call rfl (text_spec) rfl ?_
          rintro _ _ ⟨rfl, rfl⟩
          refine walk ?_
          rw [htx]
          refine s_eqstr rfl rfl (b := true) (by simp) rfl ?_
          refine walk ?_
          refine s_call rfl (tWorks) rfl ?_
          rintro _ _ ⟨rfl, rfl⟩
          refine walk ?_
          refine ret1 (v := .bool _) (.inr rfl) rfl rfl ⟨?_, rfl⟩
          exact InH.ent
        · have htx : textOf g = str [] := by unfold textOf; rw [if_neg hg5]
          refine walk ?_
          refine walk ?_
          refine s_call rfl (tCount (hu'.ent InH.ent) ok) rfl ?_
          rintro _ _ ⟨rfl, rfl⟩
          refine walk ?_
          rw [hwant]
          refine walk ?_
          refine s_call rfl (text_spec) rfl ?_
          rintro _ _ ⟨rfl, rfl⟩
          refine walk ?_
          rw [htx]
          refine s_eqstr rfl rfl (b := true) (by simp) rfl ?_
          refine walk ?_
          refine s_call rfl (tWorks) rfl ?_
          rintro _ _ ⟨rfl, rfl⟩
          refine walk ?_
          refine ret1 (v := .bool _) (.inr rfl) rfl rfl ⟨?_, rfl⟩
          exact InH.ent
      · rw [if_neg hg] at hr
        subst hr
        by_cases h0 : 0 ≤ g
        · refine walk ?_
          (refine wp_draw [35] (.look 0 (.look 1 (.look 2 (.look 3 (.look 4 (.look 5 (.look 6 (.look 7 (.look 8 (.look 9 (.look 10 (.look 11 (.look 12 (.look 13 (.look 14 (.look 15 (.look 16 (.look 17 (.look 18 (.look 19 (.look 20 (.look 21 (.look 22 (.look 23 (.look 24 (.look 25 (.look 26 (.look 27 (.look 28 (.look 29 (.look 30 (.look 31 (.look 32 (.look 33 (.look 34 (.act 35 (.look 36 (.look 37 (.look 38 (.look 39 .nil)))) .stop)))))))))))))))))))))))))))))))))))) (by kernel_rfl) ?_; (apply dw_pure; (· exact rfl); (· exact rfl); (· (intro G; exact looked))); (apply dw_pure; (· exact rfl); (· exact rfl); (· (intro G; exact looked))); (apply dw_pure; (· exact rfl); (· exact rfl); (· (intro G; exact looked))); (apply dw_pure; (· exact rfl); (· exact rfl); (· (intro G; exact looked))); (apply dw_pure; (· exact rfl); (· exact rfl); (· (intro G; exact looked))); (apply dw_pure; (· exact rfl); (· exact rfl); (· (intro G; exact looked))); (apply dw_pure; (· exact rfl); (· exact rfl); (· (intro G; exact looked))); (apply dw_pure; (· exact rfl); (· exact rfl); (· (intro G; exact looked))); (apply dw_look; (· exact rfl); (· exact rfl); (· exact looked)); (apply dw_pure; (· exact rfl); (· exact rfl); (· (intro G; exact looked))); (apply dw_pure; (· exact rfl); (· exact rfl); (· (intro G; exact looked))); (apply dw_look; (· exact rfl); (· exact rfl); (· exact looked)); (apply dw_pure; (· exact rfl); (· exact rfl); (· (intro G; exact looked))); (apply dw_pure; (· exact rfl); (· exact rfl); (· (intro G; exact looked))); (apply dw_pure; (· exact rfl); (· exact rfl); (· (intro G; exact looked))); (apply dw_pure; (· exact rfl); (· exact rfl); (· (intro G; exact looked))); (apply dw_pure; (· exact rfl); (· exact rfl); (· (intro G; exact looked))); (apply dw_pure; (· exact rfl); (· exact rfl); (· (intro G; exact looked))); (apply dw_look; (· exact rfl); (· exact rfl); (· exact looked)); (apply dw_pure; (· exact rfl); (· exact rfl); (· (intro G; exact looked))); (apply dw_pure; (· exact rfl); (· exact rfl); (· (intro G; exact looked))); (apply dw_look; (· exact rfl); (· exact rfl); (· exact looked)); (apply dw_pure; (· exact rfl); (· exact rfl); (· (intro G; exact looked))); (apply dw_pure; (· exact rfl); (· exact rfl); (· (intro G; exact looked))); (apply dw_pure; (· exact rfl); (· exact rfl); (· (intro G; exact looked))); (apply dw_pure; (· exact rfl); (· exact rfl); (· (intro G; exact looked))); (apply dw_pure; (· exact rfl); (· exact rfl); (· (intro G; exact looked))); (apply dw_pure; (· exact rfl); (· exact rfl); (· (intro G; exact looked))); (apply dw_pure; (· exact rfl); (· exact rfl); (· (intro G; exact looked))); (apply dw_pure; (· exact rfl); (· exact rfl); (· (intro G; exact looked))); (apply dw_pure; (· exact rfl); (· exact rfl); (· (intro G; exact looked))); (apply dw_pure; (· exact rfl); (· exact rfl); (· (intro G; exact looked))); (apply dw_pure; (· exact rfl); (· exact rfl); (· (intro G; exact looked))); (apply dw_pure; (· exact rfl); (· exact rfl); (· (intro G; exact looked))); (apply dw_pure; (· exact rfl); (· exact rfl); (· (intro G; exact looked))); skip)
          refine dw_do rfl rfl ?_ dw_stop
          refine walk ?_
          refine s_call rfl tBorn rfl ?_
          rintro _ _ ⟨rfl, hb⟩
          rw [if_neg hg] at hb
          subst hb
          refine wpl_nil (qone ⟨(by refine st_past (by kernel_rfl) ?_; refine st_past (by kernel_rfl) ?_; refine st_past (by kernel_rfl) ?_; refine st_past (by kernel_rfl) ?_; exact st_nil), ?_⟩)
          ((apply dw_pure; (· exact rfl); (· exact rfl); (· (intro G; exact looked))); (apply dw_pure; (· exact rfl); (· exact rfl); (· (intro G; exact looked))); (apply dw_pure; (· exact rfl); (· exact rfl); (· (intro G; exact looked))); (apply dw_pure; (· exact rfl); (· exact rfl); (· (intro G; exact looked))); refine dw_nil ?_; skip)
          by_cases hg5 : 0 ≤ g ∧ g < 5
          · obtain ⟨kk, rfl⟩ := Int.eq_ofNat_of_zero_le hg5.1
            have htx : textOf (kk : Int) = str (texts.getD kk []) := by unfold textOf; rw [if_pos hg5]; rfl
            refine walk ?_
            refine s_buildInts (cs := texts.map str) rfl rfl rfl rfl rfl ?_
            intro bt
            refine walk ?_
            refine s_load (v := str (texts.getD kk [])) rfl (Cell.blk ?_) rfl ?_
            · have : kk < texts.length := by simp [texts]; omega
              simp [this]
            refine walk ?_
            refine s_call rfl (tCount (hu'.ent InH.ent) ok) rfl ?_
            rintro _ _ ⟨rfl, rfl⟩
            refine walk ?_
            rw [hwant]
            refine walk ?_
            refine s_call rfl (text_spec) rfl ?_
            rintro _ _ ⟨rfl, rfl⟩
            refine walk ?_
            rw [htx]
            refine s_eqstr rfl rfl (b := true) (by simp) rfl ?_
            refine walk ?_
            refine s_call rfl (tWorks) rfl ?_
            rintro _ _ ⟨rfl, rfl⟩
            refine walk ?_
            refine ret1 (v := .bool _) (.inr rfl) rfl rfl ⟨?_, rfl⟩
            exact InH.ent
          · have htx : textOf g = str [] := by unfold textOf; rw [if_neg hg5]
            refine walk ?_
            refine walk ?_
            refine s_call rfl (tCount (hu'.ent InH.ent) ok) rfl ?_
            rintro _ _ ⟨rfl, rfl⟩
            refine walk ?_
            rw [hwant]
            refine walk ?_
            refine s_call rfl (text_spec) rfl ?_
            rintro _ _ ⟨rfl, rfl⟩
            refine walk ?_
            rw [htx]
            refine s_eqstr rfl rfl (b := true) (by simp) rfl ?_
            refine walk ?_
            refine s_call rfl (tWorks) rfl ?_
            rintro _ _ ⟨rfl, rfl⟩
            refine walk ?_
            refine ret1 (v := .bool _) (.inr rfl) rfl rfl ⟨?_, rfl⟩
            exact InH.ent
        · refine walk ?_
          (refine wp_draw [35] (.look 0 (.look 1 (.look 2 (.look 3 (.look 4 (.look 5 (.look 6 (.look 7 (.look 8 (.look 9 (.look 10 (.look 11 (.look 12 (.look 13 (.look 14 (.look 15 (.look 16 (.look 17 (.look 18 (.look 19 (.look 20 (.look 21 (.look 22 (.look 23 (.look 24 (.look 25 (.look 26 (.look 27 (.look 28 (.look 29 (.look 30 (.look 31 (.look 32 (.look 33 (.look 34 (.act 35 (.look 36 (.look 37 (.look 38 (.look 39 .nil)))) .stop)))))))))))))))))))))))))))))))))))) (by kernel_rfl) ?_; (apply dw_pure; (· exact rfl); (· exact rfl); (· (intro G; exact looked))); (apply dw_pure; (· exact rfl); (· exact rfl); (· (intro G; exact looked))); (apply dw_pure; (· exact rfl); (· exact rfl); (· (intro G; exact looked))); (apply dw_pure; (· exact rfl); (· exact rfl); (· (intro G; exact looked))); (apply dw_pure; (· exact rfl); (· exact rfl); (· (intro G; exact looked))); (apply dw_pure; (· exact rfl); (· exact rfl); (· (intro G; exact looked))); (apply dw_pure; (· exact rfl); (· exact rfl); (· (intro G; exact looked))); (apply dw_pure; (· exact rfl); (· exact rfl); (· (intro G; exact looked))); (apply dw_look; (· exact rfl); (· exact rfl); (· exact looked)); (apply dw_pure; (· exact rfl); (· exact rfl); (· (intro G; exact looked))); (apply dw_pure; (· exact rfl); (· exact rfl); (· (intro G; exact looked))); (apply dw_look; (· exact rfl); (· exact rfl); (· exact looked)); (apply dw_pure; (· exact rfl); (· exact rfl); (· (intro G; exact looked))); (apply dw_pure; (· exact rfl); (· exact rfl); (· (intro G; exact looked))); (apply dw_pure; (· exact rfl); (· exact rfl); (· (intro G; exact looked))); (apply dw_pure; (· exact rfl); (· exact rfl); (· (intro G; exact looked))); (apply dw_pure; (· exact rfl); (· exact rfl); (· (intro G; exact looked))); (apply dw_pure; (· exact rfl); (· exact rfl); (· (intro G; exact looked))); (apply dw_look; (· exact rfl); (· exact rfl); (· exact looked)); (apply dw_pure; (· exact rfl); (· exact rfl); (· (intro G; exact looked))); (apply dw_pure; (· exact rfl); (· exact rfl); (· (intro G; exact looked))); (apply dw_look; (· exact rfl); (· exact rfl); (· exact looked)); (apply dw_pure; (· exact rfl); (· exact rfl); (· (intro G; exact looked))); (apply dw_pure; (· exact rfl); (· exact rfl); (· (intro G; exact looked))); (apply dw_pure; (· exact rfl); (· exact rfl); (· (intro G; exact looked))); (apply dw_pure; (· exact rfl); (· exact rfl); (· (intro G; exact looked))); (apply dw_pure; (· exact rfl); (· exact rfl); (· (intro G; exact looked))); (apply dw_pure; (· exact rfl); (· exact rfl); (· (intro G; exact looked))); (apply dw_pure; (· exact rfl); (· exact rfl); (· (intro G; exact looked))); (apply dw_pure; (· exact rfl); (· exact rfl); (· (intro G; exact looked))); (apply dw_pure; (· exact rfl); (· exact rfl); (· (intro G; exact looked))); (apply dw_pure; (· exact rfl); (· exact rfl); (· (intro G; exact looked))); (apply dw_pure; (· exact rfl); (· exact rfl); (· (intro G; exact looked))); (apply dw_pure; (· exact rfl); (· exact rfl); (· (intro G; exact looked))); (apply dw_pure; (· exact rfl); (· exact rfl); (· (intro G; exact looked))); skip)
          refine dw_do rfl rfl ?_ dw_stop
          refine walk ?_
          refine s_call rfl tBorn rfl ?_
          rintro _ _ ⟨rfl, hb⟩
          rw [if_neg hg] at hb
          subst hb
          refine wpl_nil (qone ⟨(by refine st_past (by kernel_rfl) ?_; refine st_past (by kernel_rfl) ?_; refine st_past (by kernel_rfl) ?_; refine st_past (by kernel_rfl) ?_; exact st_nil), ?_⟩)
          ((apply dw_pure; (· exact rfl); (· exact rfl); (· (intro G; exact looked))); (apply dw_pure; (· exact rfl); (· exact rfl); (· (intro G; exact looked))); (apply dw_pure; (· exact rfl); (· exact rfl); (· (intro G; exact looked))); (apply dw_pure; (· exact rfl); (· exact rfl); (· (intro G; exact looked))); refine dw_nil ?_; skip)
          have htx : textOf g = str [] := by unfold textOf; rw [if_neg (by omega)]
          refine walk ?_
          refine walk ?_
          refine s_call rfl (tCount (hu'.ent InH.ent) ok) rfl ?_
          rintro _ _ ⟨rfl, rfl⟩
          refine walk ?_
          rw [hwant]
          refine walk ?_
          refine s_call rfl (text_spec) rfl ?_
          rintro _ _ ⟨rfl, rfl⟩
          refine walk ?_
          rw [htx]
          refine s_eqstr rfl rfl (b := true) (by simp) rfl ?_
          refine walk ?_
          refine s_call rfl (tWorks) rfl ?_
          rintro _ _ ⟨rfl, rfl⟩
          refine walk ?_
          refine ret1 (v := .bool _) (.inr rfl) rfl rfl ⟨?_, rfl⟩
          exact InH.ent
end
end Go.Proofs.Ytnfipmbmknlmpaa
