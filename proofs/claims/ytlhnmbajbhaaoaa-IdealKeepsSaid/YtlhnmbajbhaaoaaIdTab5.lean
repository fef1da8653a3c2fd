/- The table: making a goroutine, setting its status. No condition. -/
import Derived.Test.YtlhnmbajbhaaoaaIdTab4
namespace Go.Proofs.Ytlhnmbajbhaaoaa
open Go Go.SL
set_option linter.unusedSimpArgs false
set_option linter.unusedVariables false
set_option maxRecDepth 10000
attribute [local irreducible] WP WPL QSeq QBlk QRet Does Cell Cells Rd Mine Ent Aside RV

/-- One is made: who, the error, the table. -/
def Tab.make (T : Tab) : Int × Int × Tab :=
  match T.row with
  | [] => (-1, 130, T)
  | g :: rest => (g, 0, ⟨T.all.set g.toNat (1, (T.all[g.toNat]?.getD (0, 0)).2 + 1), rest⟩)
/-- A status is set: the error, the table. -/
def Tab.set (T : Tab) (g next : Int) : Int × Tab :=
  if 0 ≤ g ∧ g < T.all.length then
    if may (T.all[g.toNat]?.getD (0, 0)).1 next then (0, ⟨T.all.set g.toNat (next, (T.all[g.toNat]?.getD (0, 0)).2), if next = 0 then g :: T.row else T.row⟩) else (4, T)
  else (5, T)

theorem may_range {a x : Int} (h : may a x = true) : 0 ≤ x ∧ x ≤ 4 := by
  unfold may mayRows at h
  have h := of_decide_eq_true h
  (repeat' split at h) <;> simp at h <;> omega
theorem Tab.ok.new {m : Nat} (hm : m ≤ 256) : (Tab.new m).ok 0 := by
  refine ⟨by simp [Tab.new]; omega, ?_, ?_, by simp [Tab.new]; omega, by omega⟩
  · intro g hg
    simp only [Tab.new, List.mem_map, List.mem_range] at hg
    obtain ⟨i, hi, rfl⟩ := hg
    simp [Tab.new]; omega
  · intro q hq
    simp only [Tab.new, List.mem_replicate] at hq
    rw [hq.2]; simp
theorem mem_set_of {α : Type} {l : List α} {k : Nat} {x y : α} (h : y ∈ l.set k x) : y ∈ l ∨ y = x := List.mem_or_eq_of_mem_set h
theorem Tab.ok.make {T : Tab} {K : Int} (ok : T.ok K) : T.make.2.2.ok (K + 1) := by
  have h0 := ok.k0
  have hl := ok.long
  unfold Tab.make
  cases hr : T.row with
  | nil => show T.ok (K + 1); exact ⟨ok.size, ok.row, fun q hq => by have := ok.all q hq; omega, by omega, by omega⟩
  | cons g rest =>
    have hg := ok.row g (by simp [hr])
    obtain ⟨k, rfl⟩ := Int.eq_ofNat_of_zero_le hg.1
    have hk : k < T.all.length := by omega
    have ha := ok.all T.all[k] (List.getElem_mem hk)
    refine ⟨by simpa using ok.size, fun q hq => by simpa using ok.row q (by simp [hr, hq]), fun q hq => ?_, by simp [hr] at hl ⊢; omega, by omega⟩
    rcases mem_set_of hq with h | rfl
    · have := ok.all q h; omega
    · simp [hk]; omega
theorem Tab.ok.set {T : Tab} {K : Int} (ok : T.ok K) (g next : Int) : (T.set g next).2.ok (K + 1) := by
  have h0 := ok.k0
  have hl := ok.long
  have ok' : T.ok (K + 1) := ⟨ok.size, ok.row, fun q hq => by have := ok.all q hq; omega, by omega, by omega⟩
  unfold Tab.set
  split
  · rename_i hg
    split
    · rename_i hm
      obtain ⟨k, rfl⟩ := Int.eq_ofNat_of_zero_le hg.1
      have hk : k < T.all.length := by omega
      have ha := ok.all T.all[k] (List.getElem_mem hk)
      have := may_range hm
      refine ⟨by simpa using ok.size, fun q hq => ?_, fun q hq => ?_, ?_, by omega⟩
      · split at hq
        · rcases List.mem_cons.1 hq with rfl | hq
          · simpa using hg
          · simpa using ok.row q hq
        · simpa using ok.row q hq
      · rcases mem_set_of hq with h | rfl
        · exact ok'.all q h
        · simp [hk]; omega
      · split <;> simp <;> omega
    · exact ok'
  · exact ok'

section
variable {B : World} {F : HProp} {p : Nat} {T : Tab}

theorem make_nil : Does Try.prog B 24 [.pointer none] F fun r H' => F = H' ∧ r = .tuple #[.int .i64 (-1), .int .i64 1] := by
  refine fn_intro 52 Try.func24 rfl rfl rfl ?_
  refine walk ?_
  exact ret2 (v := .int _ _) (x := .int _ _) (.inr rfl) rfl rfl rfl ⟨rfl, rfl⟩
theorem make_none (hr : T.row = []) : Does Try.prog B 24 [.pointer (some ⟨p, 0, none⟩)] (TabAt p T + F) fun r H' => Ent H' (TabAt p T + F) ∧ r = .tuple #[.int .i64 (-1), .int .i64 130] := by
  have e0 : T.row.length = 0 := by simp [hr]
  refine Does.tabRead fun ao cap fo cap2 hf => ?_
  refine fn_intro 52 Try.func24 rfl rfl rfl ?_
  refine walk ?_
  exact ret2 (v := .int _ _) (x := .int _ _) (.inr rfl) rfl rfl rfl ⟨rfl, rfl⟩
theorem make_some {g : Nat} {rest : List Int} (hr : T.row = (g : Int) :: rest) (hg : g < T.all.length) (hl : T.row.length < 4611686018427387904) (hb : 0 ≤ T.all[g].2 ∧ T.all[g].2 < 4611686018427387904) : Does Try.prog B 24 [.pointer (some ⟨p, 0, none⟩)] (TabAt p T + F)
    fun r H' => Ent H' (TabAt p ⟨T.all.set g (1, T.all[g].2 + 1), rest⟩ + F) ∧ r = .tuple #[.int .i64 g, .int .i64 0] := by
  have e0 : T.row.length = rest.length + 1 := by simp [hr]
  have e1 : zs T.row.reverse = zs rest.reverse ++ [.int .i64 g] := by simp [hr, zs]
  refine Does.tab fun ao cap fo cap2 hf => ?_
  unfold TabX
  simp only [HProp.add_assoc]
  refine Does.split (Mine 90 2 (.slice ao T.all.length cap) T.all.length (goros T.all)) ?_
  refine Does.open (by omega) ?_
  rintro ga sp rfl hsp
  refine Does.split (Mine 3 1 (.slice fo T.row.length cap2) T.row.length (zs T.row.reverse)) ?_
  refine Does.open (by omega) ?_
  rintro gf sp2 rfl hsp2
  rw [e1] at hsp2 ⊢
  have hlen1 : (goros T.all).length = T.all.length * 2 := goros_length _
  have hlen2 : (zs rest.reverse).length = rest.length := by simp [zs]
  have g1 := (goros_get T.all g hg).1
  have g2 := (goros_get (T.all.set g (1, T.all[g].2)) g (by simpa using hg)).2
  have c1 := hf.c1
  have c2 := hf.c2
  have c3 := hf.c3
  have c4 := hf.c4
  refine fn_intro 52 Try.func24 rfl rfl rfl ?_
  refine walk ?_
  refine s_indexAddr (j := rest.length) rfl rfl (by omega) (by omega) (o' := rest.length) (by omega) rfl ?_
  refine s_load (v := .int .i64 g) rfl (Cell.blk ?_) rfl ?_
  · rw [List.append_assoc, List.getElem?_append_right (by omega), hlen2, Nat.sub_self]; rfl
  refine walk ?_
  refine s_sliceH (h := rest.length) rfl rfl (by omega) (by omega) rfl ?_
  refine walk ?_
  refine s_store (v := .slice _ _ _) (cs' := [_, _]) rfl rfl rfl (by simp) rfl ?_
  refine walk ?_
  refine s_store (v := .int _ _) (cs' := goros (T.all.set g (1, T.all[g].2)) ++ sp) rfl rfl rfl (by simp; omega) ?_ ?_
  · simp only [Nat.zero_add, Nat.add_zero]
    rw [List.set_append_left _ _ (by omega), (goros_set T.all g hg 1 0).1]
  refine walk ?_
  refine s_load (v := .int .i64 T.all[g].2) rfl (Cell.blk ?_) rfl ?_
  · rw [Nat.zero_add, List.getElem?_append_left (by rw [goros_length]; simp; omega), g2]; simp
  refine walk ?_
  refine s_store (v := .int _ _) (cs' := goros (T.all.set g (1, T.all[g].2 + 1)) ++ sp) rfl rfl rfl (by simp [goros_length]; omega) ?_ ?_
  · rw [Nat.zero_add, List.set_append_left _ _ (by rw [goros_length]; simp; omega), (goros_set _ g (by simpa using hg) 1 _).2]; simp
  refine walk ?_
  refine ret2 (v := .int _ _) (x := .int _ _) (.inr rfl) rfl rfl rfl ⟨?_, rfl⟩
  refine Ent.trans ?_ (tab_close (ao := some ⟨ga, 0, none⟩) (cap := cap) (fo := some ⟨gf, 0, none⟩) (cap2 := cap2))
  unfold TabX
  simp only [HProp.add_assoc, List.length_set]
  refine Ent.step (A := blk p [.slice (some ⟨ga, 0, none⟩) T.all.length cap, .slice (some ⟨gf, 0, none⟩) rest.length cap2] 76) (Ent.refl _) ?_
  refine Ent.step (A := blk ga (goros (T.all.set g (1, T.all[g].2 + 1)) ++ sp) 90) (Mine.of_blk (spare := sp) rfl (by rw [goros_length, List.length_set]) c1 c2 (by simp [goros_length] at hsp ⊢; omega)) ?_
  exact Ent.step (A := blk gf (zs rest.reverse ++ [.int .i64 g] ++ sp2) 3) (Mine.of_blk (spare := [.int .i64 g] ++ sp2) (List.append_assoc _ _ _) (by omega) (by omega) c4 hsp2) (Ent.refl _)

theorem Cells.one {H : HProp} {b o : Nat} {v : Value} (h : Cell B H b o v) : Cells B H b o [v] := by
  unfold Cells
  unfold Cell at h
  intro w hw j u hj
  match j, hj with
  | 0, hj => cases hj; exact h w hw
  | j + 1, hj => simp at hj
theorem tabX_open {ao : Option Addr} {cap : Nat} {fo : Option Addr} {cap2 : Nat} : TabX p T ao cap fo cap2 + F = Mine 90 2 (.slice ao T.all.length cap) T.all.length (goros T.all) + (blk p [.slice ao T.all.length cap, .slice fo T.row.length cap2] 76 + (Mine 3 1 (.slice fo T.row.length cap2) T.row.length (zs T.row.reverse) + F)) := by
  unfold TabX; ac_rfl

theorem set_nil {g x : Int} : Does Try.prog B 45 [.pointer none, .int .i64 g, .int .i64 x] F fun r H' => F = H' ∧ r = .int .i64 1 := by
  refine fn_intro 48 Try.func45 rfl rfl rfl ?_
  refine walk ?_
  exact ret1 (v := .int _ _) (.inr rfl) rfl rfl ⟨rfl, rfl⟩
theorem set_out {g x : Int} (hg : ¬ (0 ≤ g ∧ g < T.all.length)) : Does Try.prog B 45 [.pointer (some ⟨p, 0, none⟩), .int .i64 g, .int .i64 x] (TabAt p T + F) fun r H' => Ent H' (TabAt p T + F) ∧ r = .int .i64 5 := by
  refine Does.tabRead fun ao cap fo cap2 hf => ?_
  refine fn_intro 48 Try.func45 rfl rfl rfl ?_
  refine walk ?_
  refine s_call rfl has_x rfl ?_
  rintro _ _ ⟨rfl, rfl⟩
  rw [decide_eq_false hg]
  refine walk ?_
  exact ret1 (v := .int _ _) (.inr rfl) rfl rfl ⟨rfl, rfl⟩
theorem set_in {k : Nat} {x : Int} (hg : k < T.all.length) (hl : T.row.length < 4611686018427387904) (hs : 0 ≤ T.all[k].1 ∧ T.all[k].1 ≤ 4) (hn : T.row.length < 1000000) :
    Does Try.prog B 45 [.pointer (some ⟨p, 0, none⟩), .int .i64 k, .int .i64 x] (TabAt p T + F) fun r H' => Ent H' (TabAt p (T.set k x).2 + F) ∧ r = .int .i64 (T.set k x).1 := by
  have hset : T.set k x = if may T.all[k].1 x then (0, ⟨T.all.set k (x, T.all[k].2), if x = 0 then (k : Int) :: T.row else T.row⟩) else (4, T) := by
    unfold Tab.set
    rw [if_pos (by omega)]
    simp [hg]
  refine Does.tab fun ao cap fo cap2 hf => ?_
  have c1 := hf.c1
  have c2 := hf.c2
  have c3 := hf.c3
  have c4 := hf.c4
  have hlen1 : (goros T.all).length = T.all.length * 2 := goros_length _
  have g1 := (goros_get T.all k hg).1
  refine fn_intro 48 Try.func45 rfl rfl rfl ?_
  refine walk ?_
  refine s_call rfl has_x rfl ?_
  rintro _ _ ⟨rfl, rfl⟩
  rw [decide_eq_true (show 0 ≤ (k : Int) ∧ (k : Int) < T.all.length by omega)]
  refine WPL.ent (Ent.ac tabX_open) ?_
  refine WPL.open (by omega) ?_
  rintro ga sp rfl hsp
  refine walk ?_
  refine s_loadA (vs := [.int .i64 T.all[k].1]) rfl (Cells.one (Cell.blk ?_)) rfl rfl ?_
  · rw [Nat.zero_add, Nat.add_zero, List.getElem?_append_left (by omega), g1]
  refine walk ?_
  refine s_call rfl (may_spec hs) rfl ?_
  rintro _ H' ⟨he, rfl⟩
  refine WPL.ent he ?_
  cases hm : may T.all[k].1 x with
  | false =>
    rw [hm] at hset
    refine walk ?_
    refine ret1 (v := .int _ _) (.inr rfl) rfl rfl ⟨?_, by rw [hset]; rfl⟩
    rw [hset]
    refine Ent.trans ?_ (tab_close (ao := some ⟨ga, 0, none⟩) (cap := cap) (fo := fo) (cap2 := cap2))
    refine Ent.trans ?_ (Ent.ac tabX_open.symm)
    exact Ent.step (A := blk ga (goros T.all ++ sp) 90) (Mine.of_blk (spare := sp) rfl (by rw [goros_length]) c1 c2 hsp) (Ent.refl _)
  | true =>
    rw [hm, if_pos rfl] at hset
    refine walk ?_
    refine s_store (v := .int _ _) (cs' := goros (T.all.set k (x, T.all[k].2)) ++ sp) rfl rfl rfl (by simp; omega) ?_ ?_
    · simp only [Nat.zero_add, Nat.add_zero]
      rw [List.set_append_left _ _ (by omega), (goros_set T.all k hg x 0).1]
    by_cases hx : x = 0
    · subst hx
      refine walk ?_
      refine s_buildInts (cs := [.int _ _]) rfl rfl rfl rfl rfl ?_
      intro nb
      refine s_append (v := .slice _ _ _) rfl rfl (Rd.blk0 (m := 1) (e := 3) rfl (by simp [maxLen])) rfl rfl ?_ rfl ?_
      · simp only [maxLen]; omega
      intro v'
      refine WPL.shape ?_
      rintro ao' cap' rfl _ _ _
      refine walk ?_
      refine s_store (v := .slice _ _ _) (cs' := [_, _]) rfl rfl rfl (by simp) rfl ?_
      refine walk ?_
      refine ret1 (v := .int _ _) (.inr rfl) rfl rfl ⟨?_, by rw [hset]⟩
      rw [hset]
      refine Ent.trans ?_ (tab_close (ao := some ⟨ga, 0, none⟩) (cap := cap) (fo := ao') (cap2 := cap'))
      refine Ent.trans ?_ (Ent.ac tabX_open.symm)
      simp only [List.length_set, if_pos, List.length_cons, List.reverse_cons]
      refine Ent.step (A := blk ga (goros (T.all.set k (0, T.all[k].2)) ++ sp) 90) (Mine.of_blk (spare := sp) rfl (by rw [goros_length, List.length_set]) c1 c2 (by simp [goros_length] at hsp ⊢; omega)) ?_
      refine Ent.step (A := blk p [.slice (some ⟨ga, 0, none⟩) T.all.length cap, .slice ao' (T.row.length + 1) cap'] 76) (Ent.refl _) ?_
      simp only [zs, List.map_append, List.map_cons, List.map_nil]
      exact Ent.step (Ent.refl _) (Ent.drop (A := blk nb [.int .i64 k] 3) (Ent.refl _))
    · refine walk ?_
      refine ret1 (v := .int _ _) (.inr rfl) rfl rfl ⟨?_, by rw [hset]⟩
      rw [hset]
      refine Ent.trans ?_ (tab_close (ao := some ⟨ga, 0, none⟩) (cap := cap) (fo := fo) (cap2 := cap2))
      refine Ent.trans ?_ (Ent.ac tabX_open.symm)
      simp only [List.length_set, if_neg hx]
      exact Ent.step (A := blk ga (goros (T.all.set k (x, T.all[k].2)) ++ sp) 90) (Mine.of_blk (spare := sp) rfl (by rw [goros_length, List.length_set]) c1 c2 (by simp [goros_length] at hsp ⊢; omega)) (Ent.refl _)
end
end Go.Proofs.Ytlhnmbajbhaaoaa
