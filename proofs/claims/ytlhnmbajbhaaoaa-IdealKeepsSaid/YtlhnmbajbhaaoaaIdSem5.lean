/- Semaphores as a state: what is asked, and done; a copy. No condition. -/
import Derived.Test.YtlhnmbajbhaaoaaIdSem4
namespace Go.Proofs.Ytlhnmbajbhaaoaa
open Go Go.SL
set_option linter.unusedSimpArgs false
set_option linter.unusedVariables false
set_option maxRecDepth 10000
set_option maxHeartbeats 2000000
section
variable {B : World} {F H G : HProp} {p p2 i j : Nat} {S S' : SemS} {k g c : Int} {l : List Int} {w : World}
theorem semAt_open (h : Holds B (SemAt p S) w) : ∃ rs bw wm, SemF rs wm S ∧ Holds B (SemX p rs S.length bw wm) w := by
  unfold SemAt at h
  obtain ⟨x, h⟩ := h.ex_out
  obtain ⟨hf, h⟩ := h.fact_out
  exact ⟨x.1, x.2.1, x.2.2, hf, h⟩
theorem semAt_fact (h : Holds B (SemAt p S + F) w) : ∃ rs wm, SemF rs wm S := by
  obtain ⟨rs, bw, wm, hf, _⟩ := semAt_open h.drop_right
  exact ⟨rs, wm, hf⟩
theorem semAt_c (h : S[i]? = some (l, c)) : Cell B (SemAt p S) p (4 * i + 3) (.int .i64 c) := fun w hw => by
  obtain ⟨rs, bw, wm, hf, hx⟩ := semAt_open hw
  exact semX_c hf h w hx
theorem semAt_n : Cell B (SemAt p S) p 64 (.int .i64 (S.length : Int)) := fun w hw => by
  obtain ⟨rs, bw, wm, hf, hx⟩ := semAt_open hw
  exact semX_n hf w hx
theorem semAt_there : There B (SemAt p S) p := fun w hw => by
  obtain ⟨rs, bw, wm, hf, hx⟩ := semAt_open hw
  unfold SemX at hx
  exact There.blk (H := blk p (cellsOf rs ++ [.int .i64 (S.length : Int), .map (some bw)]) 85 + (mapsH rs + MapAt bw wm)) w hx
end
attribute [local irreducible] WP WPL QSeq QBlk QRet Does Cell Cells Rd Mine Ent Aside RV Yield SemAt
section
variable {B : World} {F H G : HProp} {p p2 i j : Nat} {S S' : SemS} {k g c : Int} {l : List Int} {w : World}
abbrev LOk (S : SemS) : Prop := ∀ (i : Nat) (l : List Int) (c : Int), S[i]? = some (l, c) → l.length ≤ 1000000
theorem sCountA [HasAt SemAt H p S F] : Does Try.prog B 30 [.pointer (some ⟨p, 0, none⟩), .int .i64 k] H fun r H' => H' = H ∧ r = .int .i64 (if 0 ≤ k then (S[k.toNat]?.map (·.2)).getD (-1) else -1) := Does.semRead (p := p) (S := S) fun rs bw wm hf => sCount hf
theorem sCountI [HasAt SemAt H p S F] (h : S[i]? = some (l, c)) : Does Try.prog B 30 [.pointer (some ⟨p, 0, none⟩), .int .i64 i] H fun r H' => H' = H ∧ r = .int .i64 c := by
  have := sCountA (B := B) (H := H) (p := p) (S := S) (k := (i : Int))
  rw [if_pos (by omega), Int.toNat_natCast, h] at this
  exact this
theorem sWhereA [HasAt SemAt H p S F] : Does Try.prog B 93 [.pointer (some ⟨p, 0, none⟩), .int .i64 g] H fun r H' => H' = H ∧ r = .tuple #[.int .i64 (((whereOf S g).getD 0 : Nat) : Int), .bool (whereOf S g).isSome] := Does.semRead (p := p) (S := S) fun rs bw wm hf => sWhere hf
theorem sWaitingA [i : HasAt SemAt H p S F] (hb : LOk S) : Does Try.prog B 31 [.pointer (some ⟨p, 0, none⟩), .int .i64 k] H fun r H' => H' = Mine 3 1 r (rowS S k).length (zs (rowS S k)) + H := by
  rw [i.eq]
  refine Does.sem fun rs bw wm hf => (sWaiting hf hb).weak fun r H1 e => ⟨_, ?_, rfl⟩
  rw [e]
  exact ((sem_shut hf).frame_right F).frame_left _
theorem sWaitingI [HasAt SemAt H p S F] (hb : LOk S) (h : S[i]? = some (l, c)) : Does Try.prog B 31 [.pointer (some ⟨p, 0, none⟩), .int .i64 i] H fun r H' => H' = Mine 3 1 r l.length (zs l) + H := by
  have := sWaitingA (B := B) (H := H) (p := p) (S := S) (k := (i : Int)) hb
  have e : rowS S (i : Int) = l := by unfold rowS; rw [if_pos (by omega), Int.toNat_natCast, h]; rfl
  rw [e] at this
  exact this
theorem autoSem511 {p q : Prop} (k : q) (h : Owed q → p := by
  intro k_
  refine walkG ?_
  repeat ((first | (show WPL _ _ _ _ _ (⟨_, .call ⟨.value (.func 77), _, _⟩, _, _, _, none⟩ :: _) _ _ _; (apply s_call; (· exact rfl); (· refine there_spec ?_ <;> (first | assumption | omega | decide | (unfold U32; omega) | exact InH.ent | (apply Rd.ent; (· assumption); (· exact InH.ent)) | exact Rd.nil | (refine Rd.blk0 ?_ ?_; (· rfl); (· simp [maxLen])) | simp)); (· exact rfl); rintro _ _ ⟨e_, rfl⟩; obtain rfl := e_.symm))); refine walkG ?_)
  exact k_.get) : p := h ⟨k⟩
theorem sWaitingNo [a : HasAt SemAt H p S F] (h : ¬ (0 ≤ k ∧ k < S.length)) : Does Try.prog B 31 [.pointer (some ⟨p, 0, none⟩), .int .i64 k] H fun r H' => H' = H ∧ r = .slice none 0 0 := by
  refine Does.semRead (p := p) (S := S) fun rs bw wm hf => ?_
  refine fn_intro 20 Try.func31 rfl rfl rfl ?_
  refine autoSem511 ?_
  refine wp_cond_b rfl (fun h1 => ?_) (fun h1 => ?_) <;> try simp only [decide_eq_true_eq, decide_eq_false_iff_not, Bool.not_eq_true', Bool.not_eq_false', Bool.and_eq_true, Bool.or_eq_true, Bool.or_eq_false_iff] at h1
  · refine autoSem511 ?_
    (first | refine ret1 (v := .slice _ _ _) (.inr rfl) rfl rfl ?_ | refine ret1  (.inr rfl) rfl rfl ?_ | refine ret1 (v := .slice _ _ _) (.inl rfl) rfl rfl ?_ | refine ret1  (.inl rfl) rfl rfl ?_)
    exact ⟨rfl, rfl⟩
  · exact absurd h1 h
theorem sAcquireA [a : HasAt SemAt H p S F] : Does Try.prog B 48 [.pointer (some ⟨p, 0, none⟩), .int .i64 k, .int .i64 g] H fun r H' => H' = SemAt p (acqS S k g).1 + F ∧ r = .tuple #[.bool (acqS S k g).2.1, .int .i64 (acqS S k g).2.2] := by
  rw [a.eq]
  refine Does.sem fun rs bw wm hf => (sAcquire hf).weak fun r H1 ⟨rs', wm', e, hf', hr⟩ => ⟨_, ?_, rfl, hr⟩
  rw [e]
  exact (sem_shut hf').frame_right F
theorem sReleaseA [a : HasAt SemAt H p S F] : Does Try.prog B 54 [.pointer (some ⟨p, 0, none⟩), .int .i64 k] H fun r H' => H' = SemAt p (relS S k).1 + F ∧ r = .tuple #[.int .i64 (relS S k).2.1, .bool (relS S k).2.2.1, .int .i64 (relS S k).2.2.2] := by
  rw [a.eq]
  refine Does.sem fun rs bw wm hf => (sRelease hf).weak fun r H1 ⟨rs', wm', e, hf', hr⟩ => ⟨_, ?_, rfl, hr⟩
  rw [e]
  exact (sem_shut hf').frame_right F
theorem sLeaveA [a : HasAt SemAt H p S F] : Does Try.prog B 84 [.pointer (some ⟨p, 0, none⟩), .int .i64 g] H fun r H' => H' = SemAt p (leaveS S g) + F ∧ r = .bool (whereOf S g).isSome := by
  rw [a.eq]
  refine Does.sem fun rs bw wm hf => (sLeave hf).weak fun r H1 ⟨rs', wm', e, hf', hr⟩ => ⟨_, ?_, rfl, hr⟩
  rw [e]
  exact (sem_shut hf').frame_right F
/-- The first k of them, then x, then empty ones. -/
def partS (S : SemS) (k : Nat) (x : List Int × Int) : SemS := S.take k ++ x :: List.replicate (S.length - (k + 1)) ([], 0)
def upS (S : SemS) (k : Nat) : SemS := S.take k ++ List.replicate (S.length - k) ([], 0)
theorem upS_zero : upS S 0 = newS S.length 0 := by simp [upS, newS]
theorem upS_all : upS S S.length = S := by simp [upS]
theorem upS_part (h : i < S.length) : upS S i = partS S i ([], 0) := by
  unfold upS partS
  rw [show S.length - i = (S.length - (i + 1)) + 1 by omega, List.replicate_succ]
theorem part_upS {x : List Int × Int} (h : S[i]? = some x) : partS S i x = upS S (i + 1) := by
  obtain ⟨hl, rfl⟩ := List.getElem?_eq_some_iff.1 h
  unfold upS partS
  rw [List.take_succ_eq_append_getElem hl, List.append_assoc]; rfl
theorem partS_len {x : List Int × Int} (h : i < S.length) : (partS S i x).length = S.length := by
  unfold partS
  simp only [List.length_append, List.length_take, List.length_cons, List.length_replicate]
  omega
theorem partS_at {x : List Int × Int} (h : i < S.length) : (partS S i x)[i]? = some x := by
  unfold partS
  rw [List.getElem?_append_right (by rw [List.length_take]; omega), List.length_take, Nat.min_eq_left (by omega), Nat.sub_self]; rfl
theorem partS_set {x y : List Int × Int} (h : i < S.length) : (partS S i x).set i y = partS S i y := by
  unfold partS
  rw [List.set_append_right _ _ (by rw [List.length_take]; omega), List.length_take, Nat.min_eq_left (by omega), Nat.sub_self]; rfl
theorem partS_in {x : List Int × Int} (h : i < S.length) (hin : InS (partS S i x) j g) : (j < i ∧ InS S j g) ∨ (j = i ∧ g ∈ x.1) := by
  obtain ⟨l, c, h1, h2⟩ := hin
  unfold partS at h1
  by_cases hj : j < i
  · rw [List.getElem?_append_left (by rw [List.length_take]; omega), List.getElem?_take, if_pos hj] at h1
    exact .inl ⟨hj, l, c, h1, h2⟩
  · rw [List.getElem?_append_right (by rw [List.length_take]; omega), List.length_take, Nat.min_eq_left (by omega)] at h1
    by_cases he : j = i
    · subst he
      rw [Nat.sub_self] at h1
      have := Option.some.inj h1
      exact .inr ⟨rfl, by rw [this]; exact h2⟩
    · rw [show j - i = (j - i - 1) + 1 by omega, List.getElem?_cons_succ] at h1
      have := List.mem_of_getElem? h1
      have := (List.mem_replicate.1 this).2
      cases this
      cases h2
theorem part_none {rs : List RowC} {wm : Assoc} (hf : SemF rs wm S) (h : S[i]? = some (l, c)) (hj : j < l.length) : whereOf (partS S i (l.take j, c)) l[j] = none := by
  have hi := (List.getElem?_eq_some_iff.1 h).1
  obtain ⟨x, h1, t1, _, hl⟩ := hf.at_ _ _ _ h
  have hnd := hl.nd
  refine where_none.2 fun a ha => ?_
  have hin : InS S i l[j] := ⟨l, c, h, List.getElem_mem hj⟩
  rcases partS_in hi ha with ⟨h2, h3⟩ | ⟨_, h3⟩
  · have := hf.uniq _ _ _ hin h3; omega
  · obtain ⟨q, hq, e⟩ := List.mem_take_iff_getElem.1 h3
    exact List.pairwise_iff_getElem.1 hnd q j (by omega) hj (by omega) e
theorem s_storeO {ro : Option Nat} {P : Program} {ops : Array Oper} {rest : List Oper} {fr : Fr} {Q : Post} {n o : Nat} {ty : TypeId} {pos : String} {after : Array Edge} {T e : TypeId} {x y : Operand} {A Z : List Value} {a v : Value} [i : Plain P T] (hx : ev fr x = .pointer (some ⟨p, o, none⟩)) (ho : o = A.length) [hb : HasBlk H p (A ++ a :: Z) e F] (hy : ev fr y = v) (h1 : v.oneCell' = true)
    (k : WPL ro P B n ops rest fr (blk p (A ++ v :: Z) e + F) Q) : WPL ro P B n ops (⟨none, .store T x y, ty, pos, after, none⟩ :: rest) fr H Q := by
  subst ho
  exact s_store (cs' := A ++ v :: Z) hx hy h1 (by simp) (by rw [List.set_append_right _ _ (Nat.le_refl _)]; simp) k
theorem sCopy_nil : Does Try.prog B 33 [.pointer none] H fun r H' => H' = H ∧ r = .pointer none := by
  refine fn_intro 64 Try.func33 rfl rfl rfl ?_
  refine walk ?_
  (first | refine ret1 (v := .pointer _) (.inr rfl) rfl rfl ?_ | refine ret1  (.inr rfl) rfl rfl ?_ | refine ret1 (v := .pointer _) (.inl rfl) rfl rfl ?_ | refine ret1  (.inl rfl) rfl rfl ?_)
  exact ⟨rfl, rfl⟩
theorem WP.semo {ro : Option Nat} {n : Nat} {cd : Code} {fr : Fr} {Q : Post} (k : ∀ rs bw wm, SemF rs wm S → WP ro Try.prog B n cd fr (SemX p rs S.length bw wm + F) Q) : WP ro Try.prog B n cd fr (SemAt p S + F) Q := by
  unfold SemAt
  exact WP.ex fun y => WP.fact fun hy => k _ _ _ hy
theorem sCopy [a : HasAt SemAt H p S F] (hb : LOk S) : Does Try.prog B 33 [.pointer (some ⟨p, 0, none⟩)] H fun r H' => ∃ p2, H' = SemAt p2 S + H ∧ r = .pointer (some ⟨p2, 0, none⟩) := by
  rw [a.eq]
  refine Does.know (fun w hw => semAt_fact hw) fun ⟨rs, wm, hf⟩ => ?_
  have hlo := hf.lo
  have hhi := hf.hi
  have cn : Cell B (SemAt p S) p 64 (.int .i64 (S.length : Int)) := semAt_n
  refine fn_intro 64 Try.func33 rfl rfl rfl ?_
  refine walk ?_
  refine s_call rfl (sNew (n := (S.length : Int)) (c := 0) (by omega) (by omega) (by omega)) rfl ?_
  rintro _ _ ⟨p2, rfl, rfl⟩
  rw [Int.toNat_natCast, ← upS_zero]
  refine walk ?_
  refine wp_loopF (α := Nat) [5, 7, 22, 23, 24, 25, 26, 27, 28, 29, 30, 31, 32, 33, 34, 35, 36, 37, 38, 39, 40, 41, 42, 43, 44, 45, 46, 47, 48, 49, 50, 51, 52, 53, 54, 55, 56, 57, 58, 59, 60, 61, 62] (fun i => [(22, .int .i64 (i : Nat))]) (fun i => SemAt p2 (upS S i) + (SemAt p S + F)) (fun i => i ≤ S.length) (fun i => S.length - i) 0 agreed (Ent.refl _) (Nat.zero_le _) ?_
  rintro i f hi
  simp only [putAll]
  by_cases hlt : i < S.length
  · obtain ⟨l, c, hs⟩ : ∃ l c, S[i]? = some (l, c) := ⟨_, _, List.getElem?_eq_getElem hlt⟩
    have cc : Cell B (SemAt p S) p (4 * i + 3) (.int .i64 c) := semAt_c hs
    have hcnt := hf.cnt _ _ _ hs
    have hl6 := hb _ _ _ hs
    rw [upS_part hlt]
    refine walk ?_
    refine WP.semo fun rs2 bw2 wm2 hf2 => ?_
    obtain ⟨x2, h2, t2, hr2, hl2⟩ := hf2.at_ i _ _ (partS_at hlt)
    have hnew := hf2.count (partS_at hlt) hr2 hl2 hcnt
    rw [partS_set hlt] at hnew
    refine WP.ent (Ent.ac (show _ = blk p2 ((cellsOf (rs2.take i) ++ [mapV x2, .int .i64 h2, .int .i64 t2]) ++ .int .i64 0 :: (cellsOf (rs2.drop (i + 1)) ++ [.int .i64 ((partS S i ([], 0)).length : Int), .map (some bw2)])) 85 + (mapH x2 + (mapsH (rs2.take i) + (mapsH (rs2.drop (i + 1)) + MapAt bw2 wm2)) + (SemAt p S + F)) by
      rw [semX_row hr2]; simp only [List.append_assoc, List.cons_append, List.nil_append, HProp.add_assoc])) ?_
    (refine wp_draw [13] (.look 0 (.look 1 (.look 2 (.look 3 (.look 4 (.look 5 (.look 6 (.look 7 (.look 8 (.look 9 (.look 10 (.look 11 (.look 12 (.act 13 .nil .stop)))))))))))))) (by kernel_rfl) ?_; (apply dw_pure; (· exact rfl); (· exact rfl); (· (intro G; exact looked))); (apply dw_pure; (· exact rfl); (· exact rfl); (· (intro G; exact looked))); (apply dw_pure; (· exact rfl); (· exact rfl); (· (intro G; exact looked))); (apply dw_pure; (· exact rfl); (· exact rfl); (· (intro G; exact looked))); (apply dw_pure; (· exact rfl); (· exact rfl); (· (intro G; exact looked))); (apply dw_pure; (· exact rfl); (· exact rfl); (· (intro G; exact looked))); (apply dw_pure; (· exact rfl); (· exact rfl); (· (intro G; refine s_indexAddrA (j := i) rfl rfl (by omega) (by omega) (o' := 4 * i) (by omega) rfl ?_; exact looked))); (apply dw_pure; (· exact rfl); (· exact rfl); (· (intro G; exact looked))); (apply dw_look; (· exact rfl); (· exact rfl); (· (exact looked))); (apply dw_pure; (· exact rfl); (· exact rfl); (· (intro G; exact looked))); (apply dw_pure; (· exact rfl); (· exact rfl); (· (intro G; exact looked))); (apply dw_pure; (· exact rfl); (· exact rfl); (· (intro G; refine s_indexAddrA (j := i) rfl rfl (by omega) (by omega) (o' := 4 * i) (by omega) rfl ?_; exact looked))); (apply dw_pure; (· exact rfl); (· exact rfl); (· (intro G; exact looked))); skip)
    refine dw_do0 rfl rfl ?_ dw_stop
    refine s_storeO (v := .int .i64 c) rfl (by simp only [List.length_append, take_len hr2]; rfl) rfl rfl ?_
    refine wpl_nil (qone0 ⟨(by refine st_past (by kernel_rfl) ?_; exact st_nil), ?_⟩)
    (refine dw_nil ?_; skip)
    refine q_seq (WP.ent (G := SemAt p2 (partS S i ([], c)) + (SemAt p S + F)) ?_ ?_)
    · refine Ent.trans (Ent.ac ?_) ((sem_shut (bw := bw2) hnew).frame_right _)
      rw [partS_len hlt, semX_set hr2, partS_len hlt]
      simp only [List.append_assoc, List.cons_append, List.nil_append, HProp.add_assoc]
    refine walk ?_
    refine s_call rfl (sWaitingI (p := p) (S := S) hb hs) rfl ?_
    rintro v _ rfl
    refine WPL.shape ?_
    rintro ao cap rfl _ hc hm
    refine WPL.rd fun rd => ?_
    have rd' := rd
    unfold Rd at rd'
    obtain ⟨_, _, e_, hll, hmm, haa⟩ := rd'
    cases e_
    refine walk ?_
    refine wp_loopF (α := Nat) [7, 42, 43, 44, 45, 46, 47, 48, 49, 50, 51, 52, 53, 54, 55, 56, 57, 58, 59, 60, 61] (fun j => [(42, .int .i64 (j : Nat))]) (fun j => SemAt p2 (partS S i (l.take j, c)) + (Mine 3 1 (.slice ao l.length cap) l.length (zs l) + (SemAt p S + F))) (fun j => j ≤ l.length) (fun j => l.length - j) 0 agreed (by show Ent _ (SemAt p2 (partS S i ([], c)) + _); exact Ent.auto) (Nat.zero_le _) ?_
    rintro j f2 hj
    simp only [putAll]
    by_cases hjl : j < l.length
    · obtain ⟨bl, ol, rfl, hcl⟩ := Rd.addr hll haa hjl
      have hcell := hcl.cell (zs_get l j hjl)
      refine WP.semo fun rs3 bw3 wm3 hf3 => ?_
      obtain ⟨x, h, t, hr, hl⟩ := hf3.at_ i _ _ (partS_at hlt)
      have hw := part_none hf hs hjl
      have hnew := fun x' h' t' (hl' : LnF x' h' t' (l.take j ++ [l[j]])) => hf3.push (partS_at hlt) hl' hw
      have hng : ¬ l[j] ∈ l.take j := fun hg => where_none.1 hw i ⟨_, _, partS_at hlt, hg⟩
      rw [partS_set hlt, ← List.take_succ_eq_append_getElem hjl] at hnew
      refine walk ?_
      refine s_indexAddrA (j := i) rfl rfl (by omega) (by omega) (o' := 4 * i) (by omega) rfl ?_
      refine walk ?_
      refine s_buildInts (cs := [.int .i64 l[j]]) rfl rfl rfl rfl rfl ?_
      intro bb
      refine WPL.ent (Ent.ac (show _ = blk p2 (cellsOf (rs3.take i) ++ mapV x :: .int .i64 h :: .int .i64 t :: (.int .i64 c :: (cellsOf (rs3.drop (i + 1)) ++ [.int .i64 ((partS S i (l.take j, c)).length : Int), .map (some bw3)]))) 85 + (mapH x + (blk bb [.int .i64 l[j]] 3 + (mapsH (rs3.take i) + (mapsH (rs3.drop (i + 1)) + (MapAt bw3 wm3 + (Mine 3 1 (.slice (some ⟨bl, ol, none⟩) l.length cap) l.length (zs l) + (SemAt p S + F))))))) by rw [semX_row hr]; ac_rfl)) ?_
      rw [← take_len hr]
      refine s_call rfl (lnPush (y := l[j]) hl hng (Rd.blk0 rfl (by simp [maxLen]))) rfl ?_
      rintro _ _ ⟨b, m, h', t', rfl, hl', rfl⟩
      rw [← List.take_succ_eq_append_getElem hjl] at hl'
      have cw : Cell B (blk p2 (cellsOf (rs3.take i) ++ .map (some b) :: .int .i64 h' :: .int .i64 t' :: (.int .i64 c :: (cellsOf (rs3.drop (i + 1)) ++ [.int .i64 ((partS S i (l.take j, c)).length : Int), .map (some bw3)]))) 85) p2 65 (.map (some bw3)) := by
        have h3 := hf3.len
        refine Cell.blk ?_
        rw [List.getElem?_append_right (by rw [take_len hr]; omega), take_len hr, show 65 - 4 * i = (61 - 4 * i) + 4 by omega]
        simp only [List.getElem?_cons_succ]
        rw [List.getElem?_append_right (by rw [cells_len, List.length_drop]; omega), cells_len, List.length_drop, show 61 - 4 * i - 4 * (rs3.length - (i + 1)) = 1 by omega]; rfl
      refine walk ?_
      refine s_mset (v := .int .i64 i) (k := l[j]) rfl rfl rfl ?_
      refine walk ?_
      refine ⟨j + 1, asided, agreed, ?_, hjl, by omega⟩
      refine Ent.trans (Q := SemX p2 (rs3.set i (some (b, m), h', t', c)) (partS S i (l.take (j + 1), c)).length bw3 (mset wm3 l[j] (.int .i64 i)) + (Mine 3 1 (.slice (some ⟨bl, ol, none⟩) l.length cap) l.length (zs l) + (SemAt p S + F))) ?_ ((sem_shut (hnew (some (b, m)) h' t' hl')).frame_right _)
      rw [partS_len hlt, semX_set hr, partS_len hlt]
      simp only [mapV, mapH]
      exact Ent.auto
    · obtain rfl : j = l.length := by omega
      rw [List.take_length, part_upS hs]
      refine walk ?_
      exact ⟨i + 1, asided, agreed, Ent.auto, hlt, by omega⟩
  · obtain rfl : i = S.length := by omega
    rw [upS_all]
    refine walk ?_
    (first | refine ret1 (v := .pointer _) (.inr rfl) rfl rfl ?_ | refine ret1  (.inr rfl) rfl rfl ?_ | refine ret1 (v := .pointer _) (.inl rfl) rfl rfl ?_ | refine ret1  (.inl rfl) rfl rfl ?_)
    exact ⟨p2, rfl, rfl⟩
end
end Go.Proofs.Ytlhnmbajbhaaoaa
