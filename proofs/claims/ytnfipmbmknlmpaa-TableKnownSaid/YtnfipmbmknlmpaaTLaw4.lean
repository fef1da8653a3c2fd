/- The law on the free row. No condition. -/
import Derived.Test.YtnfipmbmknlmpaaTRow1
import Derived.Test.YtnfipmbmknlmpaaTLaw5c
namespace Go.Proofs.Ytnfipmbmknlmpaa
open Go Go.SL
set_option linter.unusedSimpArgs false
set_option linter.unusedVariables false
set_option maxRecDepth 10000
set_option maxHeartbeats 2000000
attribute [local irreducible] WP WPL QSeq QBlk QRet Does Cell Cells Rd Own Ent Aside RV TabX TabAt

section
variable {B : World} {F H : HProp} {p : Nat} {T U : Tab}
theorem row_early {s : Value} {n : Int} {l : List TAct} (hs : Rd B F 3 s l.length (actCells l)) (h : 40 < n ∨ 80 < l.length) : Does Try.prog B 4 [.int .i64 n, s] F fun r H' => Ent H' F ∧ r = .bool true := by
  have hs' := hs
  unfold Rd at hs
  obtain ⟨ao, cap, rfl, _, _, _⟩ := hs
  refine fn_intro 157 Try.func4 rfl rfl rfl ?_
  by_cases h1 : 40 < n
  · refine walk ?_
    refine s_call rfl (tWorks) rfl ?_
    rintro _ _ ⟨rfl, rfl⟩
    refine walk ?_
    exact ret1 (v := .bool _) (.inr rfl) rfl rfl ⟨Ent.refl _, rfl⟩
  · refine walk ?_
    refine s_call rfl (tWorks) rfl ?_
    rintro _ _ ⟨rfl, rfl⟩
    refine walk ?_
    exact ret1 (v := .bool _) (.inr rfl) rfl rfl ⟨Ent.refl _, rfl⟩
theorem set_err {g x : Int} (h : (T.set g x).1 ≠ 0) : (T.set g x).2 = T := by
  unfold Tab.set at h ⊢
  split
  · rename_i hg
    rw [if_pos hg] at h
    split
    · rename_i hm; rw [if_pos hm] at h; exact absurd rfl h
    · rfl
  · rfl
theorem ownPop {f : List Int} {g : Int} {ao : Option Addr} {cap : Nat} : Ent (Own 3 1 (.slice ao (f ++ [g]).length cap) (f ++ [g]).length (zs (f ++ [g]))) (Own 3 1 (.slice ao f.length cap) f.length (zs f)) := by
  have h := Own.cut (e := 3) (sz := 1) (ao := ao) (cap := cap) (cs := zs (f ++ [g])) (show f.length ≤ (f ++ [g]).length by simp)
  have e : (zs (f ++ [g])).take (f.length * 1) = zs f := by rw [Nat.mul_one, zs_take, List.take_left]
  rwa [e] at h
/-- What the loop knows. -/
structure Rowing (n i : Nat) (T : Tab) (fr : List Int) : Prop where
  le : i ≤ n
  ok : T.ok i
  row : RowOk T fr
theorem row_main {s : Value} {n : Int} {l : List TAct} (hs : Rd B F 3 s l.length (actCells l)) (h : n ≤ 40) (h2 : l.length ≤ 80) : Does Try.prog B 4 [.int .i64 n, s] F fun r H' => Ent H' F ∧ r = .bool true := by
  have hs' := hs
  unfold Rd at hs
  obtain ⟨ao, cap, rfl, hl, _, hal⟩ := hs
  obtain ⟨m, hm⟩ := Int.eq_ofNat_of_zero_le (show 0 ≤ max 0 (min n 256) by omega)
  have hm2 : m ≤ 256 := by omega
  refine fn_intro 157 Try.func4 rfl rfl rfl ?_
  refine walk ?_
  refine s_call rfl (tNew hm) rfl ?_
  rintro _ _ ⟨p, rfl, rfl⟩
  refine walk ?_
  refine wp_loopF (α := Nat × Tab × List Int × Value) [4, 6, 7, 8, 9, 10, 11, 12, 13, 14, 15, 16, 27, 28, 29, 30, 31, 32, 33, 34, 35, 36, 37, 38, 39, 40, 41, 42, 43, 44, 45, 46, 47, 48, 49, 50, 51, 52, 53, 54, 55, 56, 57, 58, 59, 60, 61, 62, 63, 64, 65, 66, 67, 68, 69, 70, 71, 72, 73, 74, 75, 76, 77, 78, 79, 80, 81, 82, 83, 84, 85, 86, 87, 88, 89, 90, 91, 92, 93, 94, 95, 96, 97, 98, 99, 100, 101, 102, 103, 104, 105, 106, 107, 108, 109, 110, 111, 112, 113, 114, 115, 116, 117, 118, 119, 120, 121, 122, 123, 124, 125, 126, 127, 128, 129, 130, 131, 132, 133, 134, 135, 136, 137, 138, 139, 140, 141, 142, 143, 144, 145, 146, 147, 148, 149, 150, 151, 152, 153, 154, 155] (fun x => [(6, x.2.2.2), (7, .int .i64 x.1)])
    (fun x => TabAt p x.2.1 + (Own 3 1 x.2.2.2 x.2.2.1.length (zs x.2.2.1) + F)) (fun x => Rowing l.length x.1 x.2.1 x.2.2.1) (fun x => l.length - x.1) (0, Tab.new m, [], .slice none 0 0) agreed ?_ ?_ ?_
  · show Ent _ (TabAt p (Tab.new m) + (Own 3 1 (.slice none 0 0) 0 [] + F))
    rw [Own.nil]
    exact Ent.auto
  · exact ⟨Nat.zero_le _, Tab.ok.new hm2, RowOk.new m⟩
  rintro ⟨i, T, fr, fv⟩ g ⟨hi, ok, hro⟩
  simp only at hi ok hro
  simp only [putAll]
  have hok := ok.long
  have hfl := hro.len
  have hself : sameTab T T = true := by rw [sameTab_eq ok ok rfl]; simp
  by_cases hlt : i < l.length
  · obtain ⟨bs, os, rfl, hcm, hcg, hcx⟩ := act_at hal hlt
    refine WP.split (Own 3 1 fv fr.length (zs fr)) (WP.shape ?_)
    rintro fo fcap rfl _ hfc hfm
    refine WP.rd fun rdf => ?_
    have rdf' := rdf
    unfold Rd at rdf'
    obtain ⟨_, _, hv, _, _, hfa⟩ := rdf'
    cases hv
    refine walk ?_
    refine s_call rfl (tCopy ok (by omega)) rfl ?_
    rintro _ _ ⟨q, rfl, rfl⟩
    refine walk ?_
    refine wp_cut_here (α := List Int × Value) [4, 6, 7, 8, 9, 10, 11, 12, 13, 14, 15, 16, 27, 28, 29, 30, 31, 32, 33, 34, 35, 36, 37, 38, 39, 40, 41, 42, 43, 44, 45, 46, 47, 48, 49, 50, 51, 52, 53, 54, 55, 56, 57, 58, 59, 60, 61, 62, 63, 64, 65, 66, 67, 68, 69, 70, 71, 72, 73, 74, 75, 76, 77, 78, 79, 80, 81, 82, 83, 84, 85, 86, 87, 88, 89, 90, 91, 92, 93, 94, 95, 96, 97, 98, 99, 100, 101, 102, 103, 104, 105, 106, 107, 108, 109, 110, 111, 112, 113, 114, 115, 116, 117, 118, 119, 120, 121, 122, 123, 124, 125, 126, 127, 128, 129, 130, 131, 132, 133, 134, 135, 136, 137, 138, 139, 140, 141, 142, 143, 144, 145, 146, 147, 148, 149, 150, 151, 152, 153, 154, 155] (fun z => [(6, z.2), (7, .int .i64 i)])
      (fun z => TabAt p (T.act l[i]) + (Own 3 1 z.2 z.1.length (zs z.1) + F)) (fun z => RowOk (T.act l[i]) z.1) ?_ ?_
    · cases hmk : l[i].isMk with
      | true =>
        have eact : T.act l[i] = T.make.2.2 := by unfold Tab.act; rw [if_pos hmk]
        rw [eact]
        have hro2 := hro.make ok
        refine walk ?_
        refine s_call rfl (tMake ok (by omega)) rfl ?_
        rintro _ _ ⟨rfl, rfl⟩
        refine walk ?_
        cases hrow : T.row with
        | nil =>
          have e1 : T.make.1 = -1 := by unfold Tab.make; rw [hrow]
          have e2 : T.make.2.1 = 130 := by unfold Tab.make; rw [hrow]
          have e3 : T.make.2.2 = T := by unfold Tab.make; rw [hrow]
          rw [e1, e2, e3]
          have e0 : T.row.length = 0 := by simp [hrow]
          refine walk ?_
          refine s_call rfl (tSame) rfl ?_
          rintro _ _ ⟨rfl, rfl⟩
          refine walk ?_
          rw [hself]
          refine walk ?_
          refine s_call rfl (tRow ok (by omega)) rfl ?_
          rintro _ _ rfl
          refine walk ?_
          refine WPL.shape ?_
          rintro ro rcap rfl _ _ _
          rw [e0]
          refine walk ?_
          exact ⟨(fr, _), asided, agreed, Ent.auto, hro⟩
        | cons g rest =>
          have e : T.make.1 = g ∧ T.make.2.1 = 0 := by unfold Tab.make; rw [hrow]; exact ⟨rfl, rfl⟩
          rw [e.1, e.2]
          rcases List.eq_nil_or_concat fr with hnil | ⟨f, x, rfl⟩
          · have h0 : fr.length = 0 := by rw [hnil]; rfl
            have hdl : fr.dropLast = fr := by rw [hnil]; rfl
            rw [hdl] at hro2
            refine walk ?_
            exact ⟨(fr, _), asided, agreed, Ent.auto, hro2⟩
          · rw [List.concat_eq_append] at *
            have hgx : g = x := by
              have := hro.last
              rw [hrow] at this
              exact (List.cons.inj this).1
            subst hgx
            have hflen : (f ++ [g]).length = f.length + 1 := by simp
            have hzl : (zs (f ++ [g])).length = (f ++ [g]).length * 1 := by rw [zs_length]; omega
            obtain ⟨bf, of, rfl, hcf⟩ := Rd.addr hzl hfa (show f.length < (f ++ [g]).length by omega)
            have hlast : (f ++ [g])[f.length]'(by omega) = g := by simp
            rw [List.dropLast_concat] at hro2
            refine walk ?_
            (apply s_indexAddr (j := f.length) (o' := of + f.length); (· exact rfl); (· exact rfl); (· omega); (· omega); (· omega); (· exact rfl))
            refine walk ?_
            (apply s_sliceH (h := f.length); (· exact rfl); (· exact rfl); (· omega); (· omega); (· exact rfl))
            refine walk ?_
            refine ⟨(f, _), asided, agreed, ?_, hro2⟩
            exact (Ent.step (A := Own 3 1 (.slice (some ⟨bf, of, none⟩) (f ++ [g]).length fcap) (f ++ [g]).length (zs (f ++ [g]))) ownPop (Ent.refl _)).trans Ent.auto
      | false =>
        have eact : T.act l[i] = (T.set l[i].g l[i].st).2 := by unfold Tab.act; rw [hmk]; rfl
        rw [eact]
        have hro2 := hro.set ok l[i].g l[i].st
        refine walk ?_
        (refine wp_draw [11] (.look 0 (.look 1 (.look 2 (.look 3 (.look 4 (.look 5 (.look 6 (.look 7 (.look 8 (.look 9 (.look 10 (.act 11 (.look 12 .nil) .stop)))))))))))) (by kernel_rfl) ?_; (apply dw_pure; (· exact rfl); (· exact rfl); (· (intro G; exact looked))); (apply dw_pure; (· exact rfl); (· exact rfl); (· (intro G; exact looked))); (apply dw_pure; (· exact rfl); (· exact rfl); (· (intro G; exact looked))); (apply dw_pure; (· exact rfl); (· exact rfl); (· (intro G; exact looked))); (apply dw_pure; (· exact rfl); (· exact rfl); (· (intro G; exact looked))); (apply dw_look; (· exact rfl); (· exact rfl); (· exact looked)); (apply dw_pure; (· exact rfl); (· exact rfl); (· (intro G; exact looked))); (apply dw_pure; (· exact rfl); (· exact rfl); (· (intro G; exact looked))); (apply dw_pure; (· exact rfl); (· exact rfl); (· (intro G; exact looked))); (apply dw_pure; (· exact rfl); (· exact rfl); (· (intro G; exact looked))); (apply dw_look; (· exact rfl); (· exact rfl); (· exact looked)); skip)
        refine dw_do rfl rfl ?_ dw_stop
        refine s_call rfl (tSet ok (by omega)) rfl ?_
        rintro _ _ ⟨rfl, rfl⟩
        refine wpl_nil (qone ⟨(by refine st_past (by kernel_rfl) ?_; refine st_past (by kernel_rfl) ?_; exact st_nil), ?_⟩)
        ((apply dw_pure; (· exact rfl); (· exact rfl); (· (intro G; exact looked))); refine dw_nil ?_; skip)
        by_cases he : (T.set l[i].g l[i].st).1 = 0
        · by_cases hx : l[i].st = 0
          · rw [if_pos ⟨he, hx⟩] at hro2
            refine walk ?_
            refine s_buildInts (cs := [.int .i64 l[i].g]) rfl rfl rfl rfl rfl ?_
            intro bb
            refine s_append (v := .slice fo fr.length fcap) rfl rfl (Rd.blk0 (m := 1) (e := 3) rfl (by simp [maxLen])) rfl rfl ?_ rfl ?_
            · simp only [maxLen]; omega
            intro v'
            refine walk ?_
            refine ⟨(fr ++ [l[i].g], v'), asided, agreed, ?_, hro2⟩
            simp only [zs_push, len_push]
            exact Ent.auto
          · rw [if_neg (fun h => hx h.2)] at hro2
            refine walk ?_
            exact ⟨(fr, _), asided, agreed, Ent.auto, hro2⟩
        · have e3 := set_err he
          rw [e3]
          refine walk ?_
          refine s_call rfl (tSame) rfl ?_
          rintro _ _ ⟨rfl, rfl⟩
          refine walk ?_
          rw [hself]
          refine walk ?_
          exact ⟨(fr, _), asided, agreed, Ent.auto, hro⟩
    · rintro ⟨fr', fv'⟩ g2 hro'
      simp only at hro'
      simp only [putAll]
      have ok' := ok.act l[i]
      generalize hU : T.act l[i] = U at *
      have hol := ok'.long
      have hsz := ok'.size
      have hpm := hro'.perm ok'
      have hpl := hpm.length_eq
      refine walk ?_
      refine s_call rfl (tRow ok' (by omega)) rfl ?_
      rintro _ _ rfl
      refine walk ?_
      refine WPL.shape ?_
      rintro ro rcap rfl _ hrc hrm
      refine WPL.rd fun rdr => ?_
      refine walk ?_
      refine s_buildInts (cs := [.int .i64 0]) rfl rfl rfl rfl rfl ?_
      intro bb
      refine s_call rfl (tOf (xs := [0]) (Rd.blk0 (m := 1) (e := 3) rfl (by simp [maxLen])) ok') rfl ?_
      rintro _ _ rfl
      refine walk ?_
      refine WPL.shape ?_
      rintro uo ucap rfl _ huc hum
      refine WPL.rd fun rdu => ?_
      generalize hfree : ofTo U.all [0] U.all.length = free at *
      refine walk ?_
      refine wp_loopR (α := Nat) [4, 14, 15, 16, 131, 132, 133, 134, 135, 136, 137, 138, 139, 140, 141, 142, 143, 144, 145, 146, 147, 148, 149, 150, 151, 152, 153, 154, 155] (fun k => [(14, .int .i64 k)]) (fun k => k ≤ free.length) (fun k => free.length - k) 0 agreed (Nat.zero_le _) ?_
      rintro k g3 hk
      simp only [putAll]
      by_cases hkl : k < free.length
      · unfold Rd at rdr rdu
        obtain ⟨_, _, hv, _, _, hra⟩ := rdr
        cases hv
        obtain ⟨_, _, hv, _, _, hua⟩ := rdu
        cases hv
        obtain ⟨bu, ou, rfl, hcu⟩ := Rd.addr (by rw [zs_length]; omega) hua hkl
        obtain ⟨br, orr, rfl, hcr⟩ := Rd.addr (by rw [zs_length]; omega) hra (show 0 < U.row.length by omega)
        have hone : U.row.count free[k] = 1 := by
          have hin : free[k] ∈ U.row := hpm.mem_iff.2 (List.getElem_mem hkl)
          rw [hro'.nodup.count, if_pos hin]
        refine walk ?_
        refine wp_loopR (α := Nat) [15, 16, 137, 138, 139, 140, 141, 142, 143, 144, 145, 146, 147, 148, 149, 150, 151, 152, 153] (fun j => [(16, .int .i64 j), (15, .int .i64 ((U.row.take j).count free[k] : Nat))]) (fun j => j ≤ U.row.length) (fun j => U.row.length - j) 0 agreed (Nat.zero_le _) ?_
        rintro j g4 hj
        simp only [putAll]
        by_cases hjl : j < U.row.length
        · have hct := count_take U.row j free[k] hjl
          have hcl := List.count_le_length (l := U.row.take j) (a := free[k])
          have hcl2 := List.length_take_le j U.row
          by_cases hx : U.row[j] = free[k]
          · rw [if_pos hx] at hct
            refine walk ?_
            (refine wp_draw [] (.look 0 (.look 1 (.look 2 (.look 3 (.look 4 (.look 5 (.look 6 (.look 7 (.look 8 .nil))))))))) (by kernel_rfl) ?_; (apply dw_pure; (· exact rfl); (· exact rfl); (· (intro G; exact looked))); (apply dw_pure; (· exact rfl); (· exact rfl); (· (intro G; exact looked))); (apply dw_pure; (· exact rfl); (· exact rfl); (· (intro G; exact looked))); (apply dw_look; (· exact rfl); (· exact rfl); (· exact looked)); (apply dw_pure; (· exact rfl); (· exact rfl); (· (intro G; exact looked))); (apply dw_pure; (· exact rfl); (· exact rfl); (· (intro G; exact looked))); (apply dw_pure; (· exact rfl); (· exact rfl); (· (intro G; exact looked))); (apply dw_look; (· exact rfl); (· exact rfl); (· exact looked)); (apply dw_pure; (· exact rfl); (· exact rfl); (· (intro G; exact looked))); refine dw_nil ?_)
            refine walk ?_
            refine ⟨j + 1, asided, ?_, Ent.auto, hjl, by omega⟩
            exact ⟨rfl, congrArg (Value.int _) (by omega), trivial⟩
          · rw [if_neg hx] at hct
            refine walk ?_
            (refine wp_draw [] (.look 0 (.look 1 (.look 2 (.look 3 (.look 4 (.look 5 (.look 6 (.look 7 (.look 8 .nil))))))))) (by kernel_rfl) ?_; (apply dw_pure; (· exact rfl); (· exact rfl); (· (intro G; exact looked))); (apply dw_pure; (· exact rfl); (· exact rfl); (· (intro G; exact looked))); (apply dw_pure; (· exact rfl); (· exact rfl); (· (intro G; exact looked))); (apply dw_look; (· exact rfl); (· exact rfl); (· exact looked)); (apply dw_pure; (· exact rfl); (· exact rfl); (· (intro G; exact looked))); (apply dw_pure; (· exact rfl); (· exact rfl); (· (intro G; exact looked))); (apply dw_pure; (· exact rfl); (· exact rfl); (· (intro G; exact looked))); (apply dw_look; (· exact rfl); (· exact rfl); (· exact looked)); (apply dw_pure; (· exact rfl); (· exact rfl); (· (intro G; exact looked))); refine dw_nil ?_)
            refine walk ?_
            refine ⟨j + 1, asided, ?_, Ent.auto, hjl, by omega⟩
            exact ⟨rfl, congrArg (Value.int _) (by omega), trivial⟩
        · have hje : U.row.take j = U.row := List.take_of_length_le (by omega)
          rw [hje, hone]
          refine walk ?_
          exact ⟨k + 1, asided, agreed, Ent.auto, hkl, by omega⟩
      · refine walk ?_
        exact ⟨(i + 1, U, fr', fv'), asided, agreed, Ent.auto, ⟨hlt, ok', hro'⟩, by simp only; omega⟩
  · refine walk ?_
    refine s_call rfl (tWorks) rfl ?_
    rintro _ _ ⟨rfl, rfl⟩
    refine walk ?_
    refine ret1 (v := .bool _) (.inr rfl) rfl rfl ⟨?_, rfl⟩
    exact InH.ent
end
end Go.Proofs.Ytnfipmbmknlmpaa
