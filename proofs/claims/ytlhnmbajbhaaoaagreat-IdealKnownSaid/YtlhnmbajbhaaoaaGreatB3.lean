/- Semaphores as a state: what is asked, and done; a copy. A config is right, or not. The system, as a thing of numbers: what notes may be, and what they do. The system in memory; its small functions. The system in memory; its small functions, the others. What may be: each kind of notes. No condition. -/
import Derived.Test.YtlhnmbajbhaaoaaGreatSL2
import Derived.Test.YtlhnmbajbhaaoaaGreatB2
import Derived.Test.YtlhnmbajbhaaoaaGreatB1
import Derived.Test.YtlhnmbajbhaaoaaGreatSL3
namespace Go.Proofs.YtlhnmbajbhaaoaaGreat
open Go Go.SL
set_option linter.unusedSimpArgs false
set_option linter.unusedVariables false
set_option maxRecDepth 10000
set_option maxHeartbeats 2000000
section
variable {B : World} {F H G : HProp} {p p2 i j : Nat} {S S' : SemS} {k g c : Int} {l : List Int} {w : World}
theorem semAt_open (h : Holds B (SemAt p S) w) : ∃ rs bw wm, SemF rs wm S ∧ Holds B (SemX p rs S.length bw wm) w := by
  unfold SemAt at h
  obtain ⟨x, h⟩ := h.ex_out
  obtain ⟨hf, h⟩ := h.fact_out
  exact ⟨x.1, x.2.1, x.2.2, hf, h⟩
theorem semAt_fact (h : Holds B (SemAt p S + F) w) : ∃ rs wm, SemF rs wm S := by
  obtain ⟨rs, bw, wm, hf, _⟩ := semAt_open h.drop_right
  exact ⟨rs, wm, hf⟩
theorem semAt_c (h : S[i]? = some (l, c)) : Cell B (SemAt p S) p (4 * i + 3) (.int .i64 c) := fun w hw => by
  obtain ⟨rs, bw, wm, hf, hx⟩ := semAt_open hw
  exact semX_c hf h w hx
theorem semAt_n : Cell B (SemAt p S) p 64 (.int .i64 (S.length : Int)) := fun w hw => by
  obtain ⟨rs, bw, wm, hf, hx⟩ := semAt_open hw
  exact semX_n hf w hx
end
attribute [local irreducible] WP WPL QSeq QBlk QRet Does Cell Cells Rd Mine Ent Aside RV Yield SemAt
section
variable {B : World} {F H G : HProp} {p p2 i j : Nat} {S S' : SemS} {k g c : Int} {l : List Int} {w : World}
abbrev LOk (S : SemS) : Prop := ∀ (i : Nat) (l : List Int) (c : Int), S[i]? = some (l, c) → l.length ≤ 1000000
theorem sCountA [HasAt SemAt H p S F] : Does Tryz.prog B 44 [.pointer (some ⟨p, 0, none⟩), .int .i64 k] H fun r H' => H' = H ∧ r = .int .i64 (if 0 ≤ k then (S[k.toNat]?.map (·.2)).getD (-1) else -1) := Does.semRead (p := p) (S := S) fun rs bw wm hf => sCount hf
theorem sWaitingA [i : HasAt SemAt H p S F] (hb : LOk S) : Does Tryz.prog B 45 [.pointer (some ⟨p, 0, none⟩), .int .i64 k] H fun r H' => H' = Mine 3 1 r (rowS S k).length (zs (rowS S k)) + H := by
  rw [i.eq]
  refine Does.sem fun rs bw wm hf => (sWaiting hf hb).weak fun r H1 e => ⟨_, ?_, rfl⟩
  rw [e]
  exact ((sem_shut hf).frame_right F).frame_left _
theorem sWaitingI [HasAt SemAt H p S F] (hb : LOk S) (h : S[i]? = some (l, c)) : Does Tryz.prog B 45 [.pointer (some ⟨p, 0, none⟩), .int .i64 i] H fun r H' => H' = Mine 3 1 r l.length (zs l) + H := by
  have := sWaitingA (B := B) (H := H) (p := p) (S := S) (k := (i : Int)) hb
  have e : rowS S (i : Int) = l := by unfold rowS; rw [if_pos (by omega), Int.toNat_natCast, h]; rfl
  rw [e] at this
  exact this
theorem sAcquireA [a : HasAt SemAt H p S F] : Does Tryz.prog B 74 [.pointer (some ⟨p, 0, none⟩), .int .i64 k, .int .i64 g] H fun r H' => H' = SemAt p (acqS S k g).1 + F ∧ r = .tuple #[.bool (acqS S k g).2.1, .int .i64 (acqS S k g).2.2] := by
  rw [a.eq]
  refine Does.sem fun rs bw wm hf => (sAcquire hf).weak fun r H1 ⟨rs', wm', e, hf', hr⟩ => ⟨_, ?_, rfl, hr⟩
  rw [e]
  exact (sem_shut hf').frame_right F
theorem sReleaseA [a : HasAt SemAt H p S F] : Does Tryz.prog B 80 [.pointer (some ⟨p, 0, none⟩), .int .i64 k] H fun r H' => H' = SemAt p (relS S k).1 + F ∧ r = .tuple #[.int .i64 (relS S k).2.1, .bool (relS S k).2.2.1, .int .i64 (relS S k).2.2.2] := by
  rw [a.eq]
  refine Does.sem fun rs bw wm hf => (sRelease hf).weak fun r H1 ⟨rs', wm', e, hf', hr⟩ => ⟨_, ?_, rfl, hr⟩
  rw [e]
  exact (sem_shut hf').frame_right F
/-- The first k of them, then x, then empty ones. -/
def partS (S : SemS) (k : Nat) (x : List Int × Int) : SemS := S.take k ++ x :: List.replicate (S.length - (k + 1)) ([], 0)
def upS (S : SemS) (k : Nat) : SemS := S.take k ++ List.replicate (S.length - k) ([], 0)
theorem upS_zero : upS S 0 = newS S.length 0 := by simp [upS, newS]
theorem upS_all : upS S S.length = S := by simp [upS]
theorem upS_part (h : i < S.length) : upS S i = partS S i ([], 0) := by
  unfold upS partS
  rw [show S.length - i = (S.length - (i + 1)) + 1 by omega, List.replicate_succ]
theorem part_upS {x : List Int × Int} (h : S[i]? = some x) : partS S i x = upS S (i + 1) := by
  obtain ⟨hl, rfl⟩ := List.getElem?_eq_some_iff.1 h
  unfold upS partS
  rw [List.take_succ_eq_append_getElem hl, List.append_assoc]; rfl
theorem partS_len {x : List Int × Int} (h : i < S.length) : (partS S i x).length = S.length := by
  unfold partS
  simp only [List.length_append, List.length_take, List.length_cons, List.length_replicate]
  omega
theorem partS_at {x : List Int × Int} (h : i < S.length) : (partS S i x)[i]? = some x := by
  unfold partS
  rw [List.getElem?_append_right (by rw [List.length_take]; omega), List.length_take, Nat.min_eq_left (by omega), Nat.sub_self]; rfl
theorem partS_set {x y : List Int × Int} (h : i < S.length) : (partS S i x).set i y = partS S i y := by
  unfold partS
  rw [List.set_append_right _ _ (by rw [List.length_take]; omega), List.length_take, Nat.min_eq_left (by omega), Nat.sub_self]; rfl
theorem partS_in {x : List Int × Int} (h : i < S.length) (hin : InS (partS S i x) j g) : (j < i ∧ InS S j g) ∨ (j = i ∧ g ∈ x.1) := by
  obtain ⟨l, c, h1, h2⟩ := hin
  unfold partS at h1
  by_cases hj : j < i
  · rw [List.getElem?_append_left (by rw [List.length_take]; omega), List.getElem?_take, if_pos hj] at h1
    exact .inl ⟨hj, l, c, h1, h2⟩
  · rw [List.getElem?_append_right (by rw [List.length_take]; omega), List.length_take, Nat.min_eq_left (by omega)] at h1
    by_cases he : j = i
    · subst he
      rw [Nat.sub_self] at h1
      have := Option.some.inj h1
      exact .inr ⟨rfl, by rw [this]; exact h2⟩
    · rw [show j - i = (j - i - 1) + 1 by omega, List.getElem?_cons_succ] at h1
      have := List.mem_of_getElem? h1
      have := (List.mem_replicate.1 this).2
      cases this
      cases h2
theorem part_none {rs : List RowC} {wm : Assoc} (hf : SemF rs wm S) (h : S[i]? = some (l, c)) (hj : j < l.length) : whereOf (partS S i (l.take j, c)) l[j] = none := by
  have hi := (List.getElem?_eq_some_iff.1 h).1
  obtain ⟨x, h1, t1, _, hl⟩ := hf.at_ _ _ _ h
  have hnd := hl.nd
  refine where_none.2 fun a ha => ?_
  have hin : InS S i l[j] := ⟨l, c, h, List.getElem_mem hj⟩
  rcases partS_in hi ha with ⟨h2, h3⟩ | ⟨_, h3⟩
  · have := hf.uniq _ _ _ hin h3; omega
  · obtain ⟨q, hq, e⟩ := List.mem_take_iff_getElem.1 h3
    exact List.pairwise_iff_getElem.1 hnd q j (by omega) hj (by omega) e
theorem s_storeO {ro : Option Nat} {P : Program} {ops : Array Oper} {rest : List Oper} {fr : Fr} {Q : Post} {n o : Nat} {ty : TypeId} {pos : String} {after : Array Edge} {T e : TypeId} {x y : Operand} {A Z : List Value} {a v : Value} [i : Plain P T] (hx : ev fr x = .pointer (some ⟨p, o, none⟩)) (ho : o = A.length) [hb : HasBlk H p (A ++ a :: Z) e F] (hy : ev fr y = v) (h1 : v.oneCell' = true)
    (k : WPL ro P B n ops rest fr (blk p (A ++ v :: Z) e + F) Q) : WPL ro P B n ops (⟨none, .store T x y, ty, pos, after, none⟩ :: rest) fr H Q := by
  subst ho
  exact s_store (cs' := A ++ v :: Z) hx hy h1 (by simp) (by rw [List.set_append_right _ _ (Nat.le_refl _)]; simp) k
theorem WP.semo {ro : Option Nat} {n : Nat} {cd : Code} {fr : Fr} {Q : Post} (k : ∀ rs bw wm, SemF rs wm S → WP ro Tryz.prog B n cd fr (SemX p rs S.length bw wm + F) Q) : WP ro Tryz.prog B n cd fr (SemAt p S + F) Q := by
  unfold SemAt
  exact WP.ex fun y => WP.fact fun hy => k _ _ _ hy
theorem sCopy [a : HasAt SemAt H p S F] (hb : LOk S) : Does Tryz.prog B 47 [.pointer (some ⟨p, 0, none⟩)] H fun r H' => ∃ p2, H' = SemAt p2 S + H ∧ r = .pointer (some ⟨p2, 0, none⟩) := by
  rw [a.eq]
  refine Does.know (fun w hw => semAt_fact hw) fun ⟨rs, wm, hf⟩ => ?_
  have hlo := hf.lo
  have hhi := hf.hi
  have cn : Cell B (SemAt p S) p 64 (.int .i64 (S.length : Int)) := semAt_n
  refine fn_intro 64 Tryz.func47 rfl rfl rfl ?_
  refine walk ?_
  refine s_call rfl (sNew (n := (S.length : Int)) (c := 0) (by omega) (by omega) (by omega)) rfl ?_
  rintro _ _ ⟨p2, rfl, rfl⟩
  rw [Int.toNat_natCast, ← upS_zero]
  refine walk ?_
  refine wp_loopF (α := Nat) [5, 7, 22, 23, 24, 25, 26, 27, 28, 29, 30, 31, 32, 33, 34, 35, 36, 37, 38, 39, 40, 41, 42, 43, 44, 45, 46, 47, 48, 49, 50, 51, 52, 53, 54, 55, 56, 57, 58, 59, 60, 61, 62] (fun i => [(22, .int .i64 (i : Nat))]) (fun i => SemAt p2 (upS S i) + (SemAt p S + F)) (fun i => i ≤ S.length) (fun i => S.length - i) 0 agreed (Ent.refl _) (Nat.zero_le _) ?_
  rintro i f hi
  simp only [putAll]
  by_cases hlt : i < S.length
  · obtain ⟨l, c, hs⟩ : ∃ l c, S[i]? = some (l, c) := ⟨_, _, List.getElem?_eq_getElem hlt⟩
    have cc : Cell B (SemAt p S) p (4 * i + 3) (.int .i64 c) := semAt_c hs
    have hcnt := hf.cnt _ _ _ hs
    have hl6 := hb _ _ _ hs
    rw [upS_part hlt]
    refine walk ?_
    refine WP.semo fun rs2 bw2 wm2 hf2 => ?_
    obtain ⟨x2, h2, t2, hr2, hl2⟩ := hf2.at_ i _ _ (partS_at hlt)
    have hnew := hf2.count (partS_at hlt) hr2 hl2 hcnt
    rw [partS_set hlt] at hnew
    refine WP.ent (Ent.ac (show _ = blk p2 ((cellsOf (rs2.take i) ++ [mapV x2, .int .i64 h2, .int .i64 t2]) ++ .int .i64 0 :: (cellsOf (rs2.drop (i + 1)) ++ [.int .i64 ((partS S i ([], 0)).length : Int), .map (some bw2)])) 120 + (mapH x2 + (mapsH (rs2.take i) + (mapsH (rs2.drop (i + 1)) + MapAt bw2 wm2)) + (SemAt p S + F)) by
      rw [semX_row hr2]; simp only [List.append_assoc, List.cons_append, List.nil_append, HProp.add_assoc])) ?_
    (refine wp_draw [13] (.look 0 (.look 1 (.look 2 (.look 3 (.look 4 (.look 5 (.look 6 (.look 7 (.look 8 (.look 9 (.look 10 (.look 11 (.look 12 (.act 13 .nil .stop)))))))))))))) (by kernel_rfl) ?_; refine dwP ?_; refine dwP ?_; refine dwP ?_; refine dwP ?_; refine dwP ?_; refine dwP ?_; (apply dw_pure; (· exact rfl); (· exact rfl); (· (intro G; refine s_indexAddrA (j := i) rfl rfl (by omega) (by omega) (o' := 4 * i) (by omega) rfl ?_; exact looked))); refine dwP ?_; refine dwL ?_; refine dwP ?_; refine dwP ?_; (apply dw_pure; (· exact rfl); (· exact rfl); (· (intro G; refine s_indexAddrA (j := i) rfl rfl (by omega) (by omega) (o' := 4 * i) (by omega) rfl ?_; exact looked))); refine dwP ?_; skip)
    refine dw_do0 rfl rfl ?_ dw_stop
    refine s_storeO (v := .int .i64 c) rfl (by simp only [List.length_append, take_len hr2]; rfl) rfl rfl ?_
    refine wpl_nil (qone0 ⟨(by refine st_past (by kernel_rfl) ?_; exact st_nil), ?_⟩)
    (refine dw_nil ?_; skip)
    refine q_seq (WP.ent (G := SemAt p2 (partS S i ([], c)) + (SemAt p S + F)) ?_ ?_)
    · refine Ent.trans (Ent.ac ?_) ((sem_shut (bw := bw2) hnew).frame_right _)
      rw [partS_len hlt, semX_set hr2, partS_len hlt]
      simp only [List.append_assoc, List.cons_append, List.nil_append, HProp.add_assoc]
    refine walk ?_
    refine s_call rfl (sWaitingI (p := p) (S := S) hb hs) rfl ?_
    rintro v _ rfl
    refine WPL.shape ?_
    rintro ao cap rfl _ hc hm
    refine WPL.rd fun rd => ?_
    have rd' := rd
    unfold Rd at rd'
    obtain ⟨_, _, e_, hll, hmm, haa⟩ := rd'
    cases e_
    refine walk ?_
    refine wp_loopF (α := Nat) [7, 42, 43, 44, 45, 46, 47, 48, 49, 50, 51, 52, 53, 54, 55, 56, 57, 58, 59, 60, 61] (fun j => [(42, .int .i64 (j : Nat))]) (fun j => SemAt p2 (partS S i (l.take j, c)) + (Mine 3 1 (.slice ao l.length cap) l.length (zs l) + (SemAt p S + F))) (fun j => j ≤ l.length) (fun j => l.length - j) 0 agreed (by show Ent _ (SemAt p2 (partS S i ([], c)) + _); exact Ent.auto) (Nat.zero_le _) ?_
    rintro j f2 hj
    simp only [putAll]
    by_cases hjl : j < l.length
    · obtain ⟨bl, ol, rfl, hcl⟩ := Rd.addr hll haa hjl
      have hcell := hcl.cell (zs_get l j hjl)
      refine WP.semo fun rs3 bw3 wm3 hf3 => ?_
      obtain ⟨x, h, t, hr, hl⟩ := hf3.at_ i _ _ (partS_at hlt)
      have hw := part_none hf hs hjl
      have hnew := fun x' h' t' (hl' : LnF x' h' t' (l.take j ++ [l[j]])) => hf3.push (partS_at hlt) hl' hw
      have hng : ¬ l[j] ∈ l.take j := fun hg => where_none.1 hw i ⟨_, _, partS_at hlt, hg⟩
      rw [partS_set hlt, ← List.take_succ_eq_append_getElem hjl] at hnew
      refine walk ?_
      refine s_indexAddrA (j := i) rfl rfl (by omega) (by omega) (o' := 4 * i) (by omega) rfl ?_
      refine walk ?_
      refine s_buildInts (cs := [.int .i64 l[j]]) rfl rfl rfl rfl rfl ?_
      intro bb
      refine WPL.ent (Ent.ac (show _ = blk p2 (cellsOf (rs3.take i) ++ mapV x :: .int .i64 h :: .int .i64 t :: (.int .i64 c :: (cellsOf (rs3.drop (i + 1)) ++ [.int .i64 ((partS S i (l.take j, c)).length : Int), .map (some bw3)]))) 120 + (mapH x + (blk bb [.int .i64 l[j]] 3 + (mapsH (rs3.take i) + (mapsH (rs3.drop (i + 1)) + (MapAt bw3 wm3 + (Mine 3 1 (.slice (some ⟨bl, ol, none⟩) l.length cap) l.length (zs l) + (SemAt p S + F))))))) by rw [semX_row hr]; ac_rfl)) ?_
      rw [← take_len hr]
      refine s_call rfl (lnPush (y := l[j]) hl hng (Rd.blk0 rfl (by simp [maxLen]))) rfl ?_
      rintro _ _ ⟨b, m, h', t', rfl, hl', rfl⟩
      rw [← List.take_succ_eq_append_getElem hjl] at hl'
      have cw : Cell B (blk p2 (cellsOf (rs3.take i) ++ .map (some b) :: .int .i64 h' :: .int .i64 t' :: (.int .i64 c :: (cellsOf (rs3.drop (i + 1)) ++ [.int .i64 ((partS S i (l.take j, c)).length : Int), .map (some bw3)]))) 120) p2 65 (.map (some bw3)) := by
        have h3 := hf3.len
        refine Cell.blk ?_
        rw [List.getElem?_append_right (by rw [take_len hr]; omega), take_len hr, show 65 - 4 * i = (61 - 4 * i) + 4 by omega]
        simp only [List.getElem?_cons_succ]
        rw [List.getElem?_append_right (by rw [cells_len, List.length_drop]; omega), cells_len, List.length_drop, show 61 - 4 * i - 4 * (rs3.length - (i + 1)) = 1 by omega]; rfl
      refine walk ?_
      refine s_mset (v := .int .i64 i) (k := l[j]) rfl rfl rfl ?_
      refine walk ?_
      refine ⟨j + 1, asided, agreed, ?_, hjl, by omega⟩
      refine Ent.trans (Q := SemX p2 (rs3.set i (some (b, m), h', t', c)) (partS S i (l.take (j + 1), c)).length bw3 (mset wm3 l[j] (.int .i64 i)) + (Mine 3 1 (.slice (some ⟨bl, ol, none⟩) l.length cap) l.length (zs l) + (SemAt p S + F))) ?_ ((sem_shut (hnew (some (b, m)) h' t' hl')).frame_right _)
      rw [partS_len hlt, semX_set hr, partS_len hlt]
      simp only [mapV, mapH]
      exact Ent.auto
    · obtain rfl : j = l.length := by omega
      rw [List.take_length, part_upS hs]
      refine walk ?_
      exact ⟨i + 1, asided, agreed, Ent.auto, hlt, by omega⟩
  · obtain rfl : i = S.length := by omega
    rw [upS_all]
    refine walk ?_
    (first | refine ret1 (v := .pointer _) (.inr rfl) rfl rfl ?_ | refine ret1  (.inr rfl) rfl rfl ?_ | refine ret1 (v := .pointer _) (.inl rfl) rfl rfl ?_ | refine ret1  (.inl rfl) rfl rfl ?_)
    exact ⟨p2, rfl, rfl⟩
end
end Go.Proofs.YtlhnmbajbhaaoaaGreat
namespace Go.Proofs.YtlhnmbajbhaaoaaGreat
open Go Go.SL
set_option linter.unusedSimpArgs false
set_option linter.unusedVariables false
set_option maxRecDepth 10000
set_option maxHeartbeats 1000000
structure Cfg where
  n : Int
  q : Int
  g : Int
  m : Int
  t : Int
  s : Int
deriving DecidableEq
abbrev cv (c : Cfg) : List Value := [.int .i64 c.n, .int .i64 c.q, .int .i64 c.g, .int .i64 c.m, .int .i64 c.t, .int .i64 c.s]
abbrev cfgV (c : Cfg) : Value := .agg (cv c).toArray
def RoomP (q : Int) : Prop := q = 2 ∨ q = 4 ∨ q = 8 ∨ q = 16 ∨ q = 32 ∨ q = 64
instance (q : Int) : Decidable (RoomP q) := inferInstanceAs (Decidable (q = 2 ∨ q = 4 ∨ q = 8 ∨ q = 16 ∨ q = 32 ∨ q = 64))
def RightP (c : Cfg) : Prop := RoomP c.q ∧ 1 ≤ c.n ∧ c.n ≤ 8 ∧ 1 ≤ c.g ∧ c.g ≤ 256 ∧ c.n < c.m ∧ c.m ≤ 16 ∧ 2 ≤ c.t ∧ c.t ≤ 200 ∧ 0 ≤ c.s ∧ c.s ≤ 1000
instance (c : Cfg) : Decidable (RightP c) := by unfold RightP; exact inferInstance
theorem room_and : ∀ k : Nat, k ≤ 64 → 2 ≤ k → ((k &&& (k - 1)) = 0 ↔ (k = 2 ∨ k = 4 ∨ k = 8 ∨ k = 16 ∨ k = 32 ∨ k = 64)) := by decide
attribute [local irreducible] WP WPL QSeq QBlk QRet Does Cell Cells Rd Mine Ent Aside RV Yield
section
variable {B : World} {F H G : HProp} {c : Cfg} {x lo hi p : Int}
theorem within_t (h : lo ≤ x ∧ x ≤ hi) : Does Tryz.prog B 30 [.int .i64 x, .int .i64 lo, .int .i64 hi] H fun r H' => H' = H ∧ r = .bool true := by
  refine fn_intro 15 Tryz.func30 rfl rfl rfl ?_
  refine walk ?_
  (first | refine ret1 (v := .bool _) (.inr rfl) rfl rfl ?_ | refine ret1  (.inr rfl) rfl rfl ?_ | refine ret1 (v := .bool _) (.inl rfl) rfl rfl ?_ | refine ret1  (.inl rfl) rfl rfl ?_)
  exact ⟨rfl, rfl⟩
theorem within_f (h : ¬ (lo ≤ x ∧ x ≤ hi)) : Does Tryz.prog B 30 [.int .i64 x, .int .i64 lo, .int .i64 hi] H fun r H' => H' = H ∧ r = .bool false := by
  refine fn_intro 15 Tryz.func30 rfl rfl rfl ?_
  by_cases h1 : lo ≤ x
  · refine walk ?_
    (first | refine ret1 (v := .bool _) (.inr rfl) rfl rfl ?_ | refine ret1  (.inr rfl) rfl rfl ?_ | refine ret1 (v := .bool _) (.inl rfl) rfl rfl ?_ | refine ret1  (.inl rfl) rfl rfl ?_)
    exact ⟨rfl, rfl⟩
  · refine walk ?_
    (first | refine ret1 (v := .bool _) (.inr rfl) rfl rfl ?_ | refine ret1  (.inr rfl) rfl rfl ?_ | refine ret1 (v := .bool _) (.inl rfl) rfl rfl ?_ | refine ret1  (.inl rfl) rfl rfl ?_)
    exact ⟨rfl, rfl⟩
theorem right_no (h : ¬ RightP c) : decide (RightP c) = false := decide_eq_false h
theorem cRight : Does Tryz.prog B 6 [cfgV c] H fun r H' => H' = H ∧ r = .bool (decide (RightP c)) := by
  refine Does.frame0 ?_
  refine fn_intro 43 Tryz.func6 rfl rfl rfl ?_
  refine walk ?_
  refine s_box (cs := cv c) rfl rfl rfl ?_
  intro b
  refine walk ?_
  by_cases hn : 1 ≤ c.n ∧ c.n ≤ 8
  · refine s_call rfl (within_t hn) rfl ?_
    rintro _ _ ⟨e_, rfl⟩
    obtain rfl := e_.symm
    refine walk ?_
    by_cases hq : 2 ≤ c.q ∧ c.q ≤ 64
    · refine s_call rfl (within_t hq) rfl ?_
      rintro _ _ ⟨e_, rfl⟩
      obtain rfl := e_.symm
      refine walk ?_
      obtain ⟨kq, hkq⟩ := Int.eq_ofNat_of_zero_le (show 0 ≤ c.q by omega)
      have hand := room_and kq (by omega) (by omega)
      refine s_and (p := c.q) (q := c.q - 1) (r := (kq &&& (kq - 1))) rfl rfl ?_ ?_ ?_ ?_ rfl ?_
      · show 0 ≤ c.q ∧ c.q < 18446744073709551616; omega
      · show 0 ≤ c.q - 1 ∧ c.q - 1 < 18446744073709551616; omega
      · rw [hkq]; congr 1; omega
      · refine intI64 ?_; have : kq &&& (kq - 1) ≤ kq := Nat.and_le_left; omega
      by_cases hr : RoomP c.q
      · have hz : (kq &&& (kq - 1)) = 0 := hand.2 (by unfold RoomP at hr; omega)
        rw [hz]
        refine walk ?_
        by_cases hg : 1 ≤ c.g ∧ c.g ≤ 256
        · refine s_call rfl (within_t hg) rfl ?_
          rintro _ _ ⟨e_, rfl⟩
          obtain rfl := e_.symm
          refine walk ?_
          by_cases hm : c.n + 1 ≤ c.m ∧ c.m ≤ 16
          · refine s_call rfl (within_t hm) rfl ?_
            rintro _ _ ⟨e_, rfl⟩
            obtain rfl := e_.symm
            refine walk ?_
            by_cases ht : 2 ≤ c.t ∧ c.t ≤ 200
            · refine s_call rfl (within_t ht) rfl ?_
              rintro _ _ ⟨e_, rfl⟩
              obtain rfl := e_.symm
              refine walk ?_
              by_cases hs : 0 ≤ c.s ∧ c.s ≤ 1000
              · refine s_call rfl (within_t hs) rfl ?_
                rintro _ _ ⟨e_, rfl⟩
                obtain rfl := e_.symm
                refine walk ?_
                (first | (apply retRD1 (G := H) (.inr rfl) rfl; (· first | (refine rv_tmp (v := .bool _) rfl) | exact rv_tmp rfl); (· exact Ent.auto)) | (apply retRD1 (G := H) (.inl rfl) rfl; (· first | (refine rv_tmp (v := .bool _) rfl) | exact rv_tmp rfl); (· exact Ent.auto)))
                exact ⟨Ent.refl _, by rw [decide_eq_true (show RightP c from ⟨hr, hn.1, hn.2, hg.1, hg.2, by omega, hm.2, ht.1, ht.2, hs.1, hs.2⟩)]⟩
              · refine s_call rfl (within_f hs) rfl ?_
                rintro _ _ ⟨e_, rfl⟩
                obtain rfl := e_.symm
                refine walk ?_
                (first | (apply retRD1 (G := H) (.inr rfl) rfl; (· first | (refine rv_tmp (v := .bool _) rfl) | exact rv_tmp rfl); (· exact Ent.auto)) | (apply retRD1 (G := H) (.inl rfl) rfl; (· first | (refine rv_tmp (v := .bool _) rfl) | exact rv_tmp rfl); (· exact Ent.auto)))
                exact ⟨Ent.refl _, by rw [right_no fun h => hs (by obtain ⟨_, _, _, _, _, _, _, _, _, h10⟩ := h; omega)]⟩
            · refine s_call rfl (within_f ht) rfl ?_
              rintro _ _ ⟨e_, rfl⟩
              obtain rfl := e_.symm
              refine walk ?_
              (first | (apply retRD1 (G := H) (.inr rfl) rfl; (· first | (refine rv_tmp (v := .bool _) rfl) | exact rv_tmp rfl); (· exact Ent.auto)) | (apply retRD1 (G := H) (.inl rfl) rfl; (· first | (refine rv_tmp (v := .bool _) rfl) | exact rv_tmp rfl); (· exact Ent.auto)))
              exact ⟨Ent.refl _, by rw [right_no fun h => ht (by obtain ⟨_, _, _, _, _, _, _, h8, h9, _⟩ := h; omega)]⟩
          · refine s_call rfl (within_f hm) rfl ?_
            rintro _ _ ⟨e_, rfl⟩
            obtain rfl := e_.symm
            refine walk ?_
            (first | (apply retRD1 (G := H) (.inr rfl) rfl; (· first | (refine rv_tmp (v := .bool _) rfl) | exact rv_tmp rfl); (· exact Ent.auto)) | (apply retRD1 (G := H) (.inl rfl) rfl; (· first | (refine rv_tmp (v := .bool _) rfl) | exact rv_tmp rfl); (· exact Ent.auto)))
            exact ⟨Ent.refl _, by rw [right_no fun h => hm (by obtain ⟨_, _, _, _, _, h6, h7, _⟩ := h; omega)]⟩
        · refine s_call rfl (within_f hg) rfl ?_
          rintro _ _ ⟨e_, rfl⟩
          obtain rfl := e_.symm
          refine walk ?_
          (first | (apply retRD1 (G := H) (.inr rfl) rfl; (· first | (refine rv_tmp (v := .bool _) rfl) | exact rv_tmp rfl); (· exact Ent.auto)) | (apply retRD1 (G := H) (.inl rfl) rfl; (· first | (refine rv_tmp (v := .bool _) rfl) | exact rv_tmp rfl); (· exact Ent.auto)))
          exact ⟨Ent.refl _, by rw [right_no fun h => hg ⟨h.2.2.2.1, h.2.2.2.2.1⟩]⟩
      · have hz : (kq &&& (kq - 1)) ≠ 0 := fun h => hr (by have := hand.1 h; unfold RoomP; omega)
        refine walk ?_
        (first | (apply retRD1 (G := H) (.inr rfl) rfl; (· first | (refine rv_tmp (v := .bool _) rfl) | exact rv_tmp rfl); (· exact Ent.auto)) | (apply retRD1 (G := H) (.inl rfl) rfl; (· first | (refine rv_tmp (v := .bool _) rfl) | exact rv_tmp rfl); (· exact Ent.auto)))
        exact ⟨Ent.refl _, by rw [right_no fun h => hr h.1]⟩
    · refine s_call rfl (within_f hq) rfl ?_
      rintro _ _ ⟨e_, rfl⟩
      obtain rfl := e_.symm
      refine walk ?_
      (first | (apply retRD1 (G := H) (.inr rfl) rfl; (· first | (refine rv_tmp (v := .bool _) rfl) | exact rv_tmp rfl); (· exact Ent.auto)) | (apply retRD1 (G := H) (.inl rfl) rfl; (· first | (refine rv_tmp (v := .bool _) rfl) | exact rv_tmp rfl); (· exact Ent.auto)))
      exact ⟨Ent.refl _, by rw [right_no fun h => hq (by have := h.1; unfold RoomP at this; omega)]⟩
  · refine s_call rfl (within_f hn) rfl ?_
    rintro _ _ ⟨e_, rfl⟩
    obtain rfl := e_.symm
    refine walk ?_
    (first | (apply retRD1 (G := H) (.inr rfl) rfl; (· first | (refine rv_tmp (v := .bool _) rfl) | exact rv_tmp rfl); (· exact Ent.auto)) | (apply retRD1 (G := H) (.inl rfl) rfl; (· first | (refine rv_tmp (v := .bool _) rfl) | exact rv_tmp rfl); (· exact Ent.auto)))
    exact ⟨Ent.refl _, by rw [right_no fun h => hn ⟨h.2.1, h.2.2.1⟩]⟩
end
end Go.Proofs.YtlhnmbajbhaaoaaGreat
namespace Go.Proofs.YtlhnmbajbhaaoaaGreat
open Go Go.SL
set_option linter.unusedSimpArgs false
set_option linter.unusedVariables false
/-- A note. -/
structure Nt where
  kind : Int
  g : Int
  p : Int
  m : Int
  x : Int
deriving DecidableEq
abbrev nv (n : Nt) : List Value := [.int .i64 n.kind, .int .i64 n.g, .int .i64 n.p, .int .i64 n.m, .int .i64 n.x]
abbrev noteV (n : Nt) : Value := .agg (nv n).toArray
/-- An M, and the P on which its call began. -/
structure Mc where
  a : Int
  p : Int
  g : Int
  b : Int
deriving DecidableEq
structure Ide where
  c : Cfg
  tab : Tab
  sem : SemS
  ms : List Mc
  ps : List Int
  many : Int
/-- The letters of the numbers that have a meaning. -/
def fK (k : Int) : List UInt8 :=
  if k = 1 ∨ k = 8 then [103, 109, 120] else if k = 2 ∨ k = 5 ∨ k = 6 ∨ k = 7 ∨ k = 11 then [103, 112, 109, 120]
  else if k = 3 ∨ k = 4 ∨ k = 9 ∨ k = 10 then [103, 112, 109] else if k = 12 then [103, 109] else if k = 13 then [112, 109, 120] else if k = 14 then [112, 109] else [112]
/-- X stays below this. -/
def xK (c : Cfg) (k : Int) : Int := if k = 1 then c.g else if k = 2 ∨ k = 11 ∨ k = 13 then 2 else if k = 5 ∨ k = 6 ∨ k = 7 ∨ k = 8 then 4 else 0
def fieldB (named : Bool) (n bound : Int) : Bool := if named then decide (0 ≤ n ∧ n < bound) else decide (n = -1)
def rightB (c : Cfg) (n : Nt) : Bool :=
  fieldB (decide (103 ∈ fK n.kind)) n.g c.g && (fieldB (decide (112 ∈ fK n.kind)) n.p c.n && (fieldB (decide (109 ∈ fK n.kind)) n.m c.m && fieldB (decide (120 ∈ fK n.kind)) n.x (xK c n.kind)))
section
variable (I : Ide) (n : Nt)
def Ide.mAt (m : Int) : Mc := I.ms[m.toNat]?.getD ⟨0, 0, 0, 0⟩
def Ide.pAt (p : Int) : Int := I.ps[p.toNat]?.getD 0
def Ide.stat (g : Int) : Int := if 0 ≤ g ∧ g < I.tab.all.length then (I.tab.all[g.toNat]?.getD (0, 0)).1 else 0
def Ide.count (s : Int) : Int := if 0 ≤ s then (I.sem[s.toNat]?.map (·.2)).getD (-1) else -1
def Ide.first (s g : Int) : Bool := if g < 0 then decide (rowS I.sem s = []) else decide ((rowS I.sem s)[0]? = some g)
def Ide.kept (p : Int) : Bool := decide (0 ≤ I.pAt p) && decide ((I.mAt (I.pAt p)).a = 3)
def Ide.callers : Nat := I.ms.countP fun m => decide (m.a = 3)
def runsB : Bool := decide ((I.mAt n.m).a = 2 ∧ (I.mAt n.m).p = n.p ∧ (I.mAt n.m).g = n.g)
def searchesB : Bool := decide ((I.mAt n.m).a = 1 ∧ (I.mAt n.m).p = n.p ∧ (I.mAt n.m).g = -1)
def callsB : Bool := decide ((I.mAt n.m).a = 3) && decide ((I.mAt n.m).g = n.g)
def mayK : Bool :=
  if n.kind = 1 then decide ((I.mAt n.m).a = 2) && (decide ((I.mAt n.m).g = n.x) && decide (I.tab.row[0]? = some n.g))
  else if n.kind = 2 then searchesB I n && decide (I.stat n.g = 1)
  else if n.kind = 3 ∨ n.kind = 4 ∨ n.kind = 9 then runsB I n
  else if n.kind = 5 then runsB I n && decide (0 < I.count n.x)
  else if n.kind = 6 then runsB I n && decide (I.count n.x = 0)
  else if n.kind = 7 then runsB I n && (I.first n.x (-1) && decide (I.count n.x < 1073741824))
  else if n.kind = 8 then decide ((I.mAt n.m).a = 2) && I.first n.x n.g
  else if n.kind = 10 then runsB I n && decide ((I.callers : Int) < I.c.m - I.c.n)
  else if n.kind = 11 then if n.x = 1 then callsB I n && (decide ((I.mAt n.m).b = n.p) && I.kept n.p) else callsB I n && (decide ((I.mAt n.m).p < 0) && decide (I.pAt n.p = -1))
  else if n.kind = 12 then callsB I n && decide ((I.mAt n.m).p < 0)
  else if n.kind = 13 then decide ((I.mAt n.m).a = 0) && decide (I.pAt n.p = n.x - 2)
  else if n.kind = 14 then searchesB I n
  else if n.kind = 15 then I.kept n.p
  else true
def mayB : Bool := decide (1 ≤ n.kind ∧ n.kind ≤ 16) && (rightB I.c n && mayK I n)
/-- An M does something on a P, with a goroutine. -/
def Ide.has (m p a g : Int) : Ide := { I with ms := I.ms.modify m.toNat fun x => { x with a := a, p := p, g := g }, ps := if 0 ≤ p then I.ps.set p.toNat m else I.ps }
def Ide.leaves (m : Int) : Ide := { I with ms := I.ms.modify m.toNat fun x => { x with a := 0, p := -1, g := -1 } }
def Ide.drops (p : Int) : Ide := { I with ms := I.ms.modify (I.pAt p).toNat fun x => { x with p := -1 } }
def Ide.tset (g s : Int) : Ide := { I with tab := (I.tab.set g s).2 }
def Ide.pset (p v : Int) : Ide := { I with ps := I.ps.set p.toNat v }
def doK : Ide :=
  if n.kind = 1 then { I with tab := I.tab.make.2.2 }
  else if n.kind = 2 then (I.tset n.g 2).has n.m n.p 2 n.g
  else if n.kind = 3 ∨ n.kind = 4 then (I.tset n.g 1).has n.m n.p 1 (-1)
  else if n.kind = 5 then { I with sem := (acqS I.sem n.x n.g).1 }
  else if n.kind = 6 then (Ide.tset { I with sem := (acqS I.sem n.x n.g).1 } n.g 3).has n.m n.p 1 (-1)
  else if n.kind = 7 then { I with sem := (relS I.sem n.x).1 }
  else if n.kind = 8 then Ide.tset { I with sem := (relS I.sem n.x).1 } n.g 1
  else if n.kind = 9 then (I.tset n.g 0).has n.m n.p 1 (-1)
  else if n.kind = 10 then let J := (I.tset n.g 4).has n.m n.p 3 n.g; { J with ms := J.ms.modify n.m.toNat fun x => { x with b := n.p } }
  else if n.kind = 11 then (Ide.tset (if n.x = 1 then I.drops n.p else I) n.g 2).has n.m n.p 2 n.g
  else if n.kind = 12 then (I.tset n.g 1).leaves n.m
  else if n.kind = 13 then I.has n.m n.p 1 (-1)
  else if n.kind = 14 then (I.leaves n.m).pset n.p (-1)
  else if n.kind = 15 then (I.drops n.p).pset n.p (-2)
  else I
/-- Notes that are taken: how many, and the system. -/
def takeI : Ide → List Nt → Nat × Ide
  | I, [] => (0, I)
  | I, n :: l => if mayB I n then let r := takeI { doK I n with many := (doK I n).many + 1 } l; (r.1 + 1, r.2) else (0, I)
end
/-- It is within bounds. -/
structure Ide.ok (I : Ide) (K : Int) : Prop where
  c : RightP I.c
  ml : (I.ms.length : Int) = I.c.m
  pl : (I.ps.length : Int) = I.c.n
  pm : ∀ q ∈ I.ps, q < I.c.m
  tab : I.tab.ok K
  tl : (I.tab.all.length : Int) = I.c.g
  sl : I.sem.length = 4
  sk : ∀ (i : Nat) (l : List Int) (x : Int), I.sem[i]? = some (l, x) → (l.length : Int) ≤ K
  many : 0 ≤ I.many ∧ I.many ≤ K
end Go.Proofs.YtlhnmbajbhaaoaaGreat
namespace Go.Proofs.YtlhnmbajbhaaoaaGreat
open Go Go.SL
set_option linter.unusedSimpArgs false
set_option linter.unusedVariables false
set_option maxRecDepth 10000
set_option maxHeartbeats 1000000
def mcC (m : Mc) : List Value := [.int .i64 m.a, .int .i64 m.p, .int .i64 m.g, .int .i64 m.b]
def mcs : List Mc → List Value
  | [] => []
  | m :: l => mcC m ++ mcs l
theorem mcs_len (l : List Mc) : (mcs l).length = l.length * 4 := by
  induction l with
  | nil => rfl
  | cons m l ih => simp only [mcs, mcC, List.length_append, List.length_cons, List.length_nil, ih]; omega
theorem mcs_one : ∀ l : List Mc, (mcs l).all Value.oneCell' = true
  | [] => rfl
  | m :: l => by simp [mcs, mcC, mcs_one l, Value.oneCell']
theorem mcs_app (a b : List Mc) : mcs (a ++ b) = mcs a ++ mcs b := by
  induction a with
  | nil => rfl
  | cons r a ih => simp only [List.cons_append, mcs, ih, List.append_assoc]
theorem mcs_split {l : List Mc} {k : Nat} (h : k < l.length) : mcs l = mcs (l.take k) ++ (mcC l[k] ++ mcs (l.drop (k + 1))) := by
  have e : l = l.take k ++ l[k] :: l.drop (k + 1) := by rw [← List.drop_eq_getElem_cons h, List.take_append_drop]
  conv => lhs; rw [e]
  rw [mcs_app]; rfl
theorem mcs_modify {l : List Mc} {k : Nat} (h : k < l.length) (f : Mc → Mc) : mcs (l.modify k f) = mcs (l.take k) ++ (mcC (f l[k]) ++ mcs (l.drop (k + 1))) := by
  have e : l.modify k f = l.take k ++ f l[k] :: l.drop (k + 1) := by
    apply List.ext_getElem
    · simp; omega
    · intro i h1 h2
      rw [List.getElem_modify]
      by_cases hi : i < k
      · rw [if_neg (by omega), List.getElem_append_left (by simp; omega)]
        simp
      · rw [List.getElem_append_right (by simp; omega)]
        simp only [List.length_take, Nat.min_eq_left (Nat.le_of_lt h)]
        by_cases hk : k = i
        · subst hk; simp
        · rw [if_neg hk, List.getElem_cons, dif_neg (by omega)]
          simp only [List.getElem_drop]
          congr 1
          omega
  rw [e, mcs_app]; rfl
theorem mcs_at {l : List Mc} {k j : Nat} (h : k < l.length) (hj : j < 4) (sp : List Value) : (mcs l ++ sp)[k * 4 + j]? = (mcC l[k])[j]? := by
  have hl : (mcs (l.take k)).length = k * 4 := by rw [mcs_len, List.length_take]; omega
  rw [mcs_split h, List.append_assoc, List.getElem?_append_right (by omega), hl, Nat.add_sub_cancel_left, List.append_assoc, List.getElem?_append_left (by simpa [mcC] using hj)]
theorem mcs_set3 {l : List Mc} {k : Nat} (h : k < l.length) (sp : List Value) (a p g : Int) : (mcs l ++ sp).take (k * 4) ++ [.int .i64 a, .int .i64 p, .int .i64 g] ++ (mcs l ++ sp).drop (k * 4 + 3) = mcs (l.modify k fun x => { x with a := a, p := p, g := g }) ++ sp := by
  have hl : (mcs (l.take k)).length = k * 4 := by rw [mcs_len, List.length_take]; omega
  rw [mcs_modify h, mcs_split h, List.append_assoc (mcs (l.take k)) (mcC l[k] ++ mcs (l.drop (k + 1))) sp, List.take_left' hl, ← List.drop_drop, List.drop_left' hl]
  simp [mcC]
theorem mcs_setP {l : List Mc} {k : Nat} (h : k < l.length) (sp : List Value) (p : Int) : (mcs l ++ sp).set (k * 4 + 1) (.int .i64 p) = mcs (l.modify k fun x => { x with p := p }) ++ sp := by
  have hl : (mcs (l.take k)).length = k * 4 := by rw [mcs_len, List.length_take]; omega
  rw [mcs_modify h, mcs_split h, List.append_assoc, List.set_append_right _ _ (by omega), hl, Nat.add_sub_cancel_left, List.append_assoc]
  simp [mcC]
theorem mcs_setB {l : List Mc} {k : Nat} (h : k < l.length) (sp : List Value) (p : Int) : (mcs l ++ sp).set (k * 4 + 3) (.int .i64 p) = mcs (l.modify k fun x => { x with b := p }) ++ sp := by
  have hl : (mcs (l.take k)).length = k * 4 := by rw [mcs_len, List.length_take]; omega
  rw [mcs_modify h, mcs_split h, List.append_assoc, List.set_append_right _ _ (by omega), hl, Nat.add_sub_cancel_left, List.append_assoc]
  simp [mcC]
/-- The system, and where its parts lie. -/
structure IdL where
  I : Ide
  q : Nat
  s : Nat
  bm : Nat
  cm : Nat
  sm : List Value
  bp : Nat
  cp : Nat
  sp : List Value
abbrev ideC (L : IdL) : List Value := [.int .i64 L.I.c.n, .int .i64 L.I.c.q, .int .i64 L.I.c.g, .int .i64 L.I.c.m, .int .i64 L.I.c.t, .int .i64 L.I.c.s, ptr L.q, ptr L.s,
  .slice (some ⟨L.bm, 0, none⟩) L.I.ms.length L.cm, .slice (some ⟨L.bp, 0, none⟩) L.I.ps.length L.cp, .int .i64 L.I.many]
def IdeAt (x : Nat) (L : IdL) : HProp := blk x (ideC L) 75 + (blk L.bm (mcs L.I.ms ++ L.sm) 80 + (blk L.bp (zs L.I.ps ++ L.sp) 3 + (TabAt L.q L.I.tab + SemAt L.s L.I.sem)))
theorem ide_open {x : Nat} {L : IdL} {F : HProp} : IdeAt x L + F = blk x (ideC L) 75 + (blk L.bm (mcs L.I.ms ++ L.sm) 80 + (blk L.bp (zs L.I.ps ++ L.sp) 3 + (TabAt L.q L.I.tab + (SemAt L.s L.I.sem + F)))) := by
  unfold IdeAt; simp only [HProp.add_assoc]
abbrev IdL.put (L : IdL) (J : Ide) : IdL := { L with I := J }
abbrev stS (a p g : Int) : List Sc := [.int .i64 a, .int .i64 p, .int .i64 g]
attribute [local irreducible] WP WPL QSeq QBlk QRet Does Cell Cells Rd Mine Ent Aside RV Yield TabAt SemAt
section
variable {B : World} {H F G : HProp} {x : Nat} {L : IdL} {n : Nt} {m p a g : Int} {k j : Nat}
theorem mAt_of (h : 0 ≤ m ∧ m < L.I.ms.length) : ∃ (k : Nat) (hk : k < L.I.ms.length), m = (k : Int) ∧ L.I.mAt m = L.I.ms[k] := by
  refine ⟨m.toNat, by omega, by omega, ?_⟩
  unfold Ide.mAt
  rw [List.getElem?_eq_getElem (by omega)]
  rfl
theorem pAt_of (h : 0 ≤ p ∧ p < L.I.ps.length) : ∃ (k : Nat) (hk : k < L.I.ps.length), p = (k : Int) ∧ L.I.pAt p = L.I.ps[k] := by
  refine ⟨p.toNat, by omega, by omega, ?_⟩
  unfold Ide.pAt
  rw [List.getElem?_eq_getElem (by omega)]
  rfl
theorem m_cell (hk : k < L.I.ms.length) {v : Value} (hj : j < 4) (hv : (mcC L.I.ms[k])[j]? = some v) : Cell B (blk L.bm (mcs L.I.ms ++ L.sm) 80) L.bm (k * 4 + j) v := by
  rw [← HProp.add_emp (blk L.bm (mcs L.I.ms ++ L.sm) 80)]
  exact Cell.blk (by rw [mcs_at hk hj, hv])
theorem m_cells (hk : k < L.I.ms.length) : Cells B (blk L.bm (mcs L.I.ms ++ L.sm) 80) L.bm (k * 4) [.int .i64 L.I.ms[k].a, .int .i64 L.I.ms[k].p, .int .i64 L.I.ms[k].g] := by
  rw [← HProp.add_emp (blk L.bm (mcs L.I.ms ++ L.sm) 80)]
  refine Cells.blk fun j v hj => ?_
  match j, hj with
  | 0, hj => rw [mcs_at hk (by omega)]; exact hj
  | 1, hj => rw [mcs_at hk (by omega)]; exact hj
  | 2, hj => rw [mcs_at hk (by omega)]; exact hj
theorem p_cell (hk : k < L.I.ps.length) : Cell B (blk L.bp (zs L.I.ps ++ L.sp) 3) L.bp k (.int .i64 L.I.ps[k]) := by
  rw [← HProp.add_emp (blk L.bp (zs L.I.ps ++ L.sp) 3)]
  exact Cell.blk (by rw [List.getElem?_append_left (by rw [zs_length]; omega), zs_get _ _ hk])
theorem iRuns [i : HasAt IdeAt H x L F] (hm : 0 ≤ n.m ∧ n.m < L.I.ms.length) : Does Tryz.prog B 62 [ptr x, noteV n] H fun r H' => H' = H ∧ r = .bool (runsB L.I n) := by
  obtain ⟨k, hk, hm, hA⟩ := mAt_of hm
  unfold runsB
  rw [hA]
  have cs := m_cells (B := B) hk
  rw [i.eq, ide_open]
  refine Does.frame0 ?_
  refine fn_intro 20 Tryz.func62 rfl rfl rfl ?_
  refine walk ?_
  refine s_box (cs := nv n) rfl rfl rfl ?_
  intro b
  refine walk ?_
  (refine wp_draw [] (.look 0 (.look 1 (.look 2 (.look 3 (.look 4 (.look 5 (.look 6 (.look 7 (.look 8 (.look 9 (.look 10 (.look 11 (.look 12 (.look 13 (.look 14 (.look 15 .nil)))))))))))))))) (by kernel_rfl) ?_; refine dwP ?_; refine dwP ?_; refine dwP ?_; refine dwL ?_; refine dwP ?_; refine dwL ?_; (apply dw_pure; (· exact rfl); (· exact rfl); (· (intro G; (apply s_indexAddr (j := k) (o' := k * 4); (· exact rfl); (· exact rfl); (· omega); (· omega); (· omega); (· exact rfl)); exact looked))); refine dwP ?_; refine dwL ?_; refine dwP ?_; refine dwL ?_; refine dwP ?_; refine dwL ?_; (apply dw_pure; (· exact rfl); (· exact rfl); (· (intro G; (refine s_build (cs := [.int .i64 2, .int .i64 n.p, .int .i64 n.g]) ?_ rfl ?_; (· kernel_rfl)); exact looked))); (apply dw_pure; (· exact rfl); (· exact rfl); (· (intro G; refine s_eqlF (stS L.I.ms[k].a L.I.ms[k].p L.I.ms[k].g) (stS 2 n.p n.g) (b := decide (L.I.ms[k].a = 2 ∧ L.I.ms[k].p = n.p ∧ L.I.ms[k].g = n.g)) rfl rfl rfl rfl (by simp) rfl ?_; exact looked))); refine dwP ?_; refine dw_nil ?_)
  refine walk ?_
  (first | (apply retRD1 (G := (blk x (ideC L) 75 + (blk L.bm (mcs L.I.ms ++ L.sm) 80 + (blk L.bp (zs L.I.ps ++ L.sp) 3 + (TabAt L.q L.I.tab + (SemAt L.s L.I.sem + F)))))) (.inr rfl) rfl; (· first | (refine rv_tmp (v := .bool _) rfl) | exact rv_tmp rfl); (· exact Ent.auto)) | (apply retRD1 (G := (blk x (ideC L) 75 + (blk L.bm (mcs L.I.ms ++ L.sm) 80 + (blk L.bp (zs L.I.ps ++ L.sp) 3 + (TabAt L.q L.I.tab + (SemAt L.s L.I.sem + F)))))) (.inl rfl) rfl; (· first | (refine rv_tmp (v := .bool _) rfl) | exact rv_tmp rfl); (· exact Ent.auto)))
  exact ⟨Ent.refl _, rfl⟩
end
end Go.Proofs.YtlhnmbajbhaaoaaGreat
namespace Go.Proofs.YtlhnmbajbhaaoaaGreat
open Go Go.SL
set_option linter.unusedSimpArgs false
set_option linter.unusedVariables false
set_option maxRecDepth 10000
set_option maxHeartbeats 1000000
attribute [local irreducible] WP WPL QSeq QBlk QRet Does Cell Cells Rd Mine Ent Aside RV Yield TabAt SemAt
section
variable {B : World} {H F G : HProp} {x : Nat} {L : IdL} {n : Nt} {m p a g : Int} {k j : Nat}
theorem iSearches [i : HasAt IdeAt H x L F] (hm : 0 ≤ n.m ∧ n.m < L.I.ms.length) : Does Tryz.prog B 69 [ptr x, noteV n] H fun r H' => H' = H ∧ r = .bool (searchesB L.I n) := by
  obtain ⟨k, hk, hm, hA⟩ := mAt_of hm
  unfold searchesB
  rw [hA]
  have cs := m_cells (B := B) hk
  rw [i.eq, ide_open]
  refine Does.frame0 ?_
  refine fn_intro 18 Tryz.func69 rfl rfl rfl ?_
  refine walk ?_
  refine s_box (cs := nv n) rfl rfl rfl ?_
  intro b
  refine walk ?_
  (refine wp_draw [] (.look 0 (.look 1 (.look 2 (.look 3 (.look 4 (.look 5 (.look 6 (.look 7 (.look 8 (.look 9 (.look 10 (.look 11 (.look 12 (.look 13 .nil)))))))))))))) (by kernel_rfl) ?_; refine dwP ?_; refine dwP ?_; refine dwP ?_; refine dwL ?_; refine dwP ?_; refine dwL ?_; (apply dw_pure; (· exact rfl); (· exact rfl); (· (intro G; (apply s_indexAddr (j := k) (o' := k * 4); (· exact rfl); (· exact rfl); (· omega); (· omega); (· omega); (· exact rfl)); exact looked))); refine dwP ?_; refine dwL ?_; refine dwP ?_; refine dwL ?_; (apply dw_pure; (· exact rfl); (· exact rfl); (· (intro G; (refine s_build (cs := [.int .i64 1, .int .i64 n.p, .int .i64 (-1)]) ?_ rfl ?_; (· kernel_rfl)); exact looked))); (apply dw_pure; (· exact rfl); (· exact rfl); (· (intro G; refine s_eqlF (stS L.I.ms[k].a L.I.ms[k].p L.I.ms[k].g) (stS 1 n.p (-1)) (b := decide (L.I.ms[k].a = 1 ∧ L.I.ms[k].p = n.p ∧ L.I.ms[k].g = -1)) rfl rfl rfl rfl (by simp) rfl ?_; exact looked))); refine dwP ?_; refine dw_nil ?_)
  refine walk ?_
  (first | (apply retRD1 (G := (blk x (ideC L) 75 + (blk L.bm (mcs L.I.ms ++ L.sm) 80 + (blk L.bp (zs L.I.ps ++ L.sp) 3 + (TabAt L.q L.I.tab + (SemAt L.s L.I.sem + F)))))) (.inr rfl) rfl; (· first | (refine rv_tmp (v := .bool _) rfl) | exact rv_tmp rfl); (· exact Ent.auto)) | (apply retRD1 (G := (blk x (ideC L) 75 + (blk L.bm (mcs L.I.ms ++ L.sm) 80 + (blk L.bp (zs L.I.ps ++ L.sp) 3 + (TabAt L.q L.I.tab + (SemAt L.s L.I.sem + F)))))) (.inl rfl) rfl; (· first | (refine rv_tmp (v := .bool _) rfl) | exact rv_tmp rfl); (· exact Ent.auto)))
  exact ⟨Ent.refl _, rfl⟩
theorem iCalls [i : HasAt IdeAt H x L F] (hm : 0 ≤ n.m ∧ n.m < L.I.ms.length) : Does Tryz.prog B 89 [ptr x, noteV n] H fun r H' => H' = H ∧ r = .bool (callsB L.I n) := by
  obtain ⟨k, hk, hm, hA⟩ := mAt_of hm
  unfold callsB
  rw [hA]
  have c0 := m_cell (B := B) hk (j := 0) (by omega) rfl
  have c2 := m_cell (B := B) hk (j := 2) (by omega) rfl
  rw [i.eq, ide_open]
  refine Does.frame0 ?_
  by_cases h3 : L.I.ms[k].a = 3
  · by_cases h2 : L.I.ms[k].g = n.g
    · rw [decide_eq_true h3, decide_eq_true h2]
      refine fn_intro 31 Tryz.func89 rfl rfl rfl ?_
      refine walk ?_
      refine s_box (cs := nv n) rfl rfl rfl ?_
      intro b
      refine walk ?_
      (refine wp_draw [] (.look 0 (.look 1 (.look 2 (.look 3 (.look 4 (.look 5 (.look 6 (.look 7 (.look 8 (.look 9 (.look 10 (.look 11 (.look 12 (.look 13 (.look 14 (.look 15 (.look 16 (.look 17 (.look 18 (.look 19 (.look 20 (.look 21 (.look 22 (.look 23 (.look 24 (.look 25 (.look 26 .nil))))))))))))))))))))))))))) (by kernel_rfl) ?_; refine dwP ?_; refine dwP ?_; refine dwP ?_; refine dwL ?_; refine dwP ?_; refine dwL ?_; (apply dw_pure; (· exact rfl); (· exact rfl); (· (intro G; (apply s_indexAddr (j := k) (o' := k * 4); (· exact rfl); (· exact rfl); (· omega); (· omega); (· omega); (· exact rfl)); exact looked))); refine dwP ?_; refine dwP ?_; refine dwL ?_; refine dwP ?_; refine dwP ?_; refine dwP ?_; refine dwP ?_; refine dwP ?_; refine dwL ?_; refine dwP ?_; refine dwL ?_; (apply dw_pure; (· exact rfl); (· exact rfl); (· (intro G; (first | (refine step_wanted rfl rfl ?_; (apply s_indexAddr (j := k) (o' := k * 4); (· exact rfl); (· exact rfl); (· omega); (· omega); (· omega); (· exact rfl))) | skip); exact looked))); refine dwP ?_; refine dwP ?_; refine dwL ?_; refine dwP ?_; refine dwL ?_; refine dwP ?_; refine dwP ?_; refine dwP ?_; refine dw_nil ?_)
      refine walk ?_
      (first | (apply retRD1 (G := (blk x (ideC L) 75 + (blk L.bm (mcs L.I.ms ++ L.sm) 80 + (blk L.bp (zs L.I.ps ++ L.sp) 3 + (TabAt L.q L.I.tab + (SemAt L.s L.I.sem + F)))))) (.inr rfl) rfl; (· first | (refine rv_tmp (v := .bool _) rfl) | exact rv_tmp rfl); (· exact Ent.auto)) | (apply retRD1 (G := (blk x (ideC L) 75 + (blk L.bm (mcs L.I.ms ++ L.sm) 80 + (blk L.bp (zs L.I.ps ++ L.sp) 3 + (TabAt L.q L.I.tab + (SemAt L.s L.I.sem + F)))))) (.inl rfl) rfl; (· first | (refine rv_tmp (v := .bool _) rfl) | exact rv_tmp rfl); (· exact Ent.auto)))
      exact ⟨Ent.refl _, rfl⟩
    · rw [decide_eq_true h3, decide_eq_false h2]
      refine fn_intro 31 Tryz.func89 rfl rfl rfl ?_
      refine walk ?_
      refine s_box (cs := nv n) rfl rfl rfl ?_
      intro b
      refine walk ?_
      (refine wp_draw [] (.look 0 (.look 1 (.look 2 (.look 3 (.look 4 (.look 5 (.look 6 (.look 7 (.look 8 (.look 9 (.look 10 (.look 11 (.look 12 (.look 13 (.look 14 (.look 15 (.look 16 (.look 17 (.look 18 (.look 19 (.look 20 (.look 21 (.look 22 (.look 23 (.look 24 (.look 25 (.look 26 .nil))))))))))))))))))))))))))) (by kernel_rfl) ?_; refine dwP ?_; refine dwP ?_; refine dwP ?_; refine dwL ?_; refine dwP ?_; refine dwL ?_; (apply dw_pure; (· exact rfl); (· exact rfl); (· (intro G; (apply s_indexAddr (j := k) (o' := k * 4); (· exact rfl); (· exact rfl); (· omega); (· omega); (· omega); (· exact rfl)); exact looked))); refine dwP ?_; refine dwP ?_; refine dwL ?_; refine dwP ?_; refine dwP ?_; refine dwP ?_; refine dwP ?_; refine dwP ?_; refine dwL ?_; refine dwP ?_; refine dwL ?_; (apply dw_pure; (· exact rfl); (· exact rfl); (· (intro G; (first | (refine step_wanted rfl rfl ?_; (apply s_indexAddr (j := k) (o' := k * 4); (· exact rfl); (· exact rfl); (· omega); (· omega); (· omega); (· exact rfl))) | skip); exact looked))); refine dwP ?_; refine dwP ?_; refine dwL ?_; refine dwP ?_; refine dwL ?_; refine dwP ?_; refine dwP ?_; refine dwP ?_; refine dw_nil ?_)
      refine walk ?_
      (first | (apply retRD1 (G := (blk x (ideC L) 75 + (blk L.bm (mcs L.I.ms ++ L.sm) 80 + (blk L.bp (zs L.I.ps ++ L.sp) 3 + (TabAt L.q L.I.tab + (SemAt L.s L.I.sem + F)))))) (.inr rfl) rfl; (· first | (refine rv_tmp (v := .bool _) rfl) | exact rv_tmp rfl); (· exact Ent.auto)) | (apply retRD1 (G := (blk x (ideC L) 75 + (blk L.bm (mcs L.I.ms ++ L.sm) 80 + (blk L.bp (zs L.I.ps ++ L.sp) 3 + (TabAt L.q L.I.tab + (SemAt L.s L.I.sem + F)))))) (.inl rfl) rfl; (· first | (refine rv_tmp (v := .bool _) rfl) | exact rv_tmp rfl); (· exact Ent.auto)))
      exact ⟨Ent.refl _, rfl⟩
  · rw [decide_eq_false h3, Bool.false_and]
    refine fn_intro 31 Tryz.func89 rfl rfl rfl ?_
    refine walk ?_
    refine s_box (cs := nv n) rfl rfl rfl ?_
    intro b
    refine walk ?_
    (refine wp_draw [] (.look 0 (.look 1 (.look 2 (.look 3 (.look 4 (.look 5 (.look 6 (.look 7 (.look 8 (.look 9 (.look 10 (.look 11 (.look 12 (.look 13 (.look 14 (.look 15 (.look 16 (.look 17 (.look 18 (.look 19 (.look 20 (.look 21 (.look 22 (.look 23 (.look 24 (.look 25 (.look 26 .nil))))))))))))))))))))))))))) (by kernel_rfl) ?_; refine dwP ?_; refine dwP ?_; refine dwP ?_; refine dwL ?_; refine dwP ?_; refine dwL ?_; (apply dw_pure; (· exact rfl); (· exact rfl); (· (intro G; (apply s_indexAddr (j := k) (o' := k * 4); (· exact rfl); (· exact rfl); (· omega); (· omega); (· omega); (· exact rfl)); exact looked))); refine dwP ?_; refine dwP ?_; refine dwL ?_; refine dwP ?_; refine dwP ?_; refine dwP ?_; refine dwP ?_; refine dwP ?_; refine dwL ?_; refine dwP ?_; refine dwL ?_; (apply dw_pure; (· exact rfl); (· exact rfl); (· (intro G; (first | (refine step_wanted rfl rfl ?_; (apply s_indexAddr (j := k) (o' := k * 4); (· exact rfl); (· exact rfl); (· omega); (· omega); (· omega); (· exact rfl))) | skip); exact looked))); refine dwP ?_; refine dwP ?_; refine dwL ?_; refine dwP ?_; refine dwL ?_; refine dwP ?_; refine dwP ?_; refine dwP ?_; refine dw_nil ?_)
    refine walk ?_
    (first | (apply retRD1 (G := (blk x (ideC L) 75 + (blk L.bm (mcs L.I.ms ++ L.sm) 80 + (blk L.bp (zs L.I.ps ++ L.sp) 3 + (TabAt L.q L.I.tab + (SemAt L.s L.I.sem + F)))))) (.inr rfl) rfl; (· first | (refine rv_tmp (v := .bool _) rfl) | exact rv_tmp rfl); (· exact Ent.auto)) | (apply retRD1 (G := (blk x (ideC L) 75 + (blk L.bm (mcs L.I.ms ++ L.sm) 80 + (blk L.bp (zs L.I.ps ++ L.sp) 3 + (TabAt L.q L.I.tab + (SemAt L.s L.I.sem + F)))))) (.inl rfl) rfl; (· first | (refine rv_tmp (v := .bool _) rfl) | exact rv_tmp rfl); (· exact Ent.auto)))
    exact ⟨Ent.refl _, rfl⟩
theorem iKept [i : HasAt IdeAt H x L F] (hp : 0 ≤ p ∧ p < L.I.ps.length) (hv : L.I.pAt p < L.I.ms.length) : Does Tryz.prog B 96 [ptr x, .int .i64 p] H fun r H' => H' = H ∧ r = .bool (L.I.kept p) := by
  obtain ⟨kp, hkp, hp, hA⟩ := pAt_of hp
  unfold Ide.kept
  rw [hA] at hv ⊢
  have cp := p_cell (B := B) hkp
  rw [i.eq, ide_open]
  refine Does.frame0 ?_
  by_cases h0 : 0 ≤ L.I.ps[kp]
  · obtain ⟨k, hk, hm, hA⟩ := mAt_of (L := L) ⟨h0, hv⟩
    rw [hA]
    have c0 := m_cell (B := B) hk (j := 0) (by omega) rfl
    by_cases h3 : L.I.ms[k].a = 3
    · rw [decide_eq_true h0, decide_eq_true h3]
      refine fn_intro 31 Tryz.func96 rfl rfl rfl ?_
      refine walk ?_
      (refine wp_draw [] (.look 0 (.look 1 (.look 2 (.look 3 (.look 4 (.look 5 (.look 6 (.look 7 (.look 8 (.look 9 (.look 10 (.look 11 (.look 12 (.look 13 (.look 14 (.look 15 (.look 16 (.look 17 (.look 18 (.look 19 (.look 20 (.look 21 (.look 22 (.look 23 (.look 24 (.look 25 (.look 26 .nil))))))))))))))))))))))))))) (by kernel_rfl) ?_; refine dwP ?_; refine dwP ?_; refine dwP ?_; refine dwL ?_; refine dwP ?_; (apply dw_pure; (· exact rfl); (· exact rfl); (· (intro G; (apply s_indexAddr (j := kp) (o' := kp); (· exact rfl); (· exact rfl); (· omega); (· omega); (· omega); (· exact rfl)); exact looked))); refine dwL ?_; refine dwP ?_; refine dwP ?_; refine dwP ?_; refine dwP ?_; refine dwP ?_; refine dwL ?_; refine dwP ?_; refine dwP ?_; refine dwP ?_; refine dwL ?_; refine dwP ?_; (apply dw_pure; (· exact rfl); (· exact rfl); (· (intro G; (first | (refine step_wanted rfl rfl ?_; (apply s_indexAddr (j := kp) (o' := kp); (· exact rfl); (· exact rfl); (· omega); (· omega); (· omega); (· exact rfl))) | skip); exact looked))); refine dwL ?_; (apply dw_pure; (· exact rfl); (· exact rfl); (· (intro G; (first | (refine step_wanted rfl rfl ?_; (apply s_indexAddr (j := k) (o' := k * 4); (· exact rfl); (· exact rfl); (· omega); (· omega); (· omega); (· exact rfl))) | skip); exact looked))); refine dwP ?_; refine dwP ?_; refine dwL ?_; refine dwP ?_; refine dwP ?_; refine dwP ?_; refine dw_nil ?_)
      refine walk ?_
      (first | (apply retRD1 (G := (blk x (ideC L) 75 + (blk L.bm (mcs L.I.ms ++ L.sm) 80 + (blk L.bp (zs L.I.ps ++ L.sp) 3 + (TabAt L.q L.I.tab + (SemAt L.s L.I.sem + F)))))) (.inr rfl) rfl; (· first | (refine rv_tmp (v := .bool _) rfl) | exact rv_tmp rfl); (· exact Ent.auto)) | (apply retRD1 (G := (blk x (ideC L) 75 + (blk L.bm (mcs L.I.ms ++ L.sm) 80 + (blk L.bp (zs L.I.ps ++ L.sp) 3 + (TabAt L.q L.I.tab + (SemAt L.s L.I.sem + F)))))) (.inl rfl) rfl; (· first | (refine rv_tmp (v := .bool _) rfl) | exact rv_tmp rfl); (· exact Ent.auto)))
      exact ⟨Ent.refl _, rfl⟩
    · rw [decide_eq_true h0, decide_eq_false h3]
      refine fn_intro 31 Tryz.func96 rfl rfl rfl ?_
      refine walk ?_
      (refine wp_draw [] (.look 0 (.look 1 (.look 2 (.look 3 (.look 4 (.look 5 (.look 6 (.look 7 (.look 8 (.look 9 (.look 10 (.look 11 (.look 12 (.look 13 (.look 14 (.look 15 (.look 16 (.look 17 (.look 18 (.look 19 (.look 20 (.look 21 (.look 22 (.look 23 (.look 24 (.look 25 (.look 26 .nil))))))))))))))))))))))))))) (by kernel_rfl) ?_; refine dwP ?_; refine dwP ?_; refine dwP ?_; refine dwL ?_; refine dwP ?_; (apply dw_pure; (· exact rfl); (· exact rfl); (· (intro G; (apply s_indexAddr (j := kp) (o' := kp); (· exact rfl); (· exact rfl); (· omega); (· omega); (· omega); (· exact rfl)); exact looked))); refine dwL ?_; refine dwP ?_; refine dwP ?_; refine dwP ?_; refine dwP ?_; refine dwP ?_; refine dwL ?_; refine dwP ?_; refine dwP ?_; refine dwP ?_; refine dwL ?_; refine dwP ?_; (apply dw_pure; (· exact rfl); (· exact rfl); (· (intro G; (first | (refine step_wanted rfl rfl ?_; (apply s_indexAddr (j := kp) (o' := kp); (· exact rfl); (· exact rfl); (· omega); (· omega); (· omega); (· exact rfl))) | skip); exact looked))); refine dwL ?_; (apply dw_pure; (· exact rfl); (· exact rfl); (· (intro G; (first | (refine step_wanted rfl rfl ?_; (apply s_indexAddr (j := k) (o' := k * 4); (· exact rfl); (· exact rfl); (· omega); (· omega); (· omega); (· exact rfl))) | skip); exact looked))); refine dwP ?_; refine dwP ?_; refine dwL ?_; refine dwP ?_; refine dwP ?_; refine dwP ?_; refine dw_nil ?_)
      refine walk ?_
      (first | (apply retRD1 (G := (blk x (ideC L) 75 + (blk L.bm (mcs L.I.ms ++ L.sm) 80 + (blk L.bp (zs L.I.ps ++ L.sp) 3 + (TabAt L.q L.I.tab + (SemAt L.s L.I.sem + F)))))) (.inr rfl) rfl; (· first | (refine rv_tmp (v := .bool _) rfl) | exact rv_tmp rfl); (· exact Ent.auto)) | (apply retRD1 (G := (blk x (ideC L) 75 + (blk L.bm (mcs L.I.ms ++ L.sm) 80 + (blk L.bp (zs L.I.ps ++ L.sp) 3 + (TabAt L.q L.I.tab + (SemAt L.s L.I.sem + F)))))) (.inl rfl) rfl; (· first | (refine rv_tmp (v := .bool _) rfl) | exact rv_tmp rfl); (· exact Ent.auto)))
      exact ⟨Ent.refl _, rfl⟩
  · rw [decide_eq_false h0, Bool.false_and]
    obtain ⟨k, _⟩ : ∃ k : Nat, k = k := ⟨0, rfl⟩
    refine fn_intro 31 Tryz.func96 rfl rfl rfl ?_
    refine walk ?_
    (refine wp_draw [] (.look 0 (.look 1 (.look 2 (.look 3 (.look 4 (.look 5 (.look 6 (.look 7 (.look 8 (.look 9 (.look 10 (.look 11 (.look 12 (.look 13 (.look 14 (.look 15 (.look 16 (.look 17 (.look 18 (.look 19 (.look 20 (.look 21 (.look 22 (.look 23 (.look 24 (.look 25 (.look 26 .nil))))))))))))))))))))))))))) (by kernel_rfl) ?_; refine dwP ?_; refine dwP ?_; refine dwP ?_; refine dwL ?_; refine dwP ?_; (apply dw_pure; (· exact rfl); (· exact rfl); (· (intro G; (apply s_indexAddr (j := kp) (o' := kp); (· exact rfl); (· exact rfl); (· omega); (· omega); (· omega); (· exact rfl)); exact looked))); refine dwL ?_; refine dwP ?_; refine dwP ?_; refine dwP ?_; refine dwP ?_; refine dwP ?_; refine dwL ?_; refine dwP ?_; refine dwP ?_; refine dwP ?_; refine dwL ?_; refine dwP ?_; (apply dw_pure; (· exact rfl); (· exact rfl); (· (intro G; (first | (refine step_wanted rfl rfl ?_; (apply s_indexAddr (j := kp) (o' := kp); (· exact rfl); (· exact rfl); (· omega); (· omega); (· omega); (· exact rfl))) | skip); exact looked))); refine dwL ?_; (apply dw_pure; (· exact rfl); (· exact rfl); (· (intro G; (first | (refine step_wanted rfl rfl ?_; (apply s_indexAddr (j := k) (o' := k * 4); (· exact rfl); (· exact rfl); (· omega); (· omega); (· omega); (· exact rfl))) | skip); exact looked))); refine dwP ?_; refine dwP ?_; refine dwL ?_; refine dwP ?_; refine dwP ?_; refine dwP ?_; refine dw_nil ?_)
    refine walk ?_
    (first | (apply retRD1 (G := (blk x (ideC L) 75 + (blk L.bm (mcs L.I.ms ++ L.sm) 80 + (blk L.bp (zs L.I.ps ++ L.sp) 3 + (TabAt L.q L.I.tab + (SemAt L.s L.I.sem + F)))))) (.inr rfl) rfl; (· first | (refine rv_tmp (v := .bool _) rfl) | exact rv_tmp rfl); (· exact Ent.auto)) | (apply retRD1 (G := (blk x (ideC L) 75 + (blk L.bm (mcs L.I.ms ++ L.sm) 80 + (blk L.bp (zs L.I.ps ++ L.sp) 3 + (TabAt L.q L.I.tab + (SemAt L.s L.I.sem + F)))))) (.inl rfl) rfl; (· first | (refine rv_tmp (v := .bool _) rfl) | exact rv_tmp rfl); (· exact Ent.auto)))
    exact ⟨Ent.refl _, rfl⟩
theorem iHas [i : HasAt IdeAt H x L F] (hm : 0 ≤ m ∧ m < L.I.ms.length) (hp : 0 ≤ p ∧ p < L.I.ps.length) : Does Tryz.prog B 35 [ptr x, .int .i64 m, .int .i64 p, .int .i64 a, .int .i64 g] H fun r H' => H' = IdeAt x (L.put (L.I.has m p a g)) + F ∧ r = .tuple #[] := by
  obtain ⟨k, hk, rfl, _⟩ := mAt_of hm
  obtain ⟨kp, hkp, rfl, _⟩ := pAt_of hp
  have hl1 : (mcs L.I.ms).length = L.I.ms.length * 4 := mcs_len _
  have hl2 : (zs L.I.ps).length = L.I.ps.length := zs_length _
  rw [i.eq, ide_open, ide_open]
  refine Does.same ?_
  refine fn_intro 30 Tryz.func35 rfl rfl rfl ?_
  refine walk ?_
  (refine s_build (cs := [.int .i64 a, .int .i64 ((kp : Nat) : Int), .int .i64 g]) ?_ rfl ?_; (· kernel_rfl))
  refine walk ?_
  refine s_storeA (vs := [.int .i64 a, .int .i64 ((kp : Nat) : Int), .int .i64 g]) (cs' := mcs (L.I.ms.modify k fun x => { x with a := a, p := ((kp : Nat) : Int), g := g }) ++ L.sm) rfl rfl rfl rfl ?_ ?_ ?_
  · simp only [List.length_append, List.length_cons, List.length_nil]; omega
  · have := mcs_set3 hk L.sm a ((kp : Nat) : Int) g; simpa using this
  refine walk ?_
  refine s_store (v := .int .i64 ((k : Nat) : Int)) (cs' := zs (L.I.ps.set kp ((k : Nat) : Int)) ++ L.sp) rfl rfl rfl ?_ ?_ ?_
  · simp only [List.length_append, List.length_cons, List.length_nil]; omega
  · rw [List.set_append_left _ _ (by omega)]; simp [zs, List.map_set]
  refine walk ?_
  refine ret0 (.inl rfl) rfl ⟨?_, rfl⟩
  simp only [IdL.put, ideC, Ide.has, List.length_modify, List.length_set, Int.toNat_natCast, if_pos (Int.natCast_nonneg kp)]
  exact Ent.auto
theorem iLeaves [i : HasAt IdeAt H x L F] (hm : 0 ≤ m ∧ m < L.I.ms.length) : Does Tryz.prog B 91 [ptr x, .int .i64 m] H fun r H' => H' = IdeAt x (L.put (L.I.leaves m)) + F ∧ r = .tuple #[] := by
  obtain ⟨k, hk, rfl, _⟩ := mAt_of hm
  have hl1 : (mcs L.I.ms).length = L.I.ms.length * 4 := mcs_len _
  rw [i.eq, ide_open, ide_open]
  refine Does.same ?_
  refine fn_intro 12 Tryz.func91 rfl rfl rfl ?_
  refine walk ?_
  (refine s_build (cs := [.int .i64 0, .int .i64 (-1), .int .i64 (-1)]) ?_ rfl ?_; (· kernel_rfl))
  refine walk ?_
  refine s_storeA (vs := [.int .i64 0, .int .i64 (-1), .int .i64 (-1)]) (cs' := mcs (L.I.ms.modify k fun x => { x with a := 0, p := -1, g := -1 }) ++ L.sm) rfl rfl rfl rfl ?_ ?_ ?_
  · simp only [List.length_append, List.length_cons, List.length_nil]; omega
  · have := mcs_set3 hk L.sm 0 (-1) (-1); simpa using this
  refine walk ?_
  refine ret0 (.inl rfl) rfl ⟨?_, rfl⟩
  simp only [IdL.put, ideC, Ide.leaves, List.length_modify, Int.toNat_natCast]
  exact Ent.auto
theorem iDrops [i : HasAt IdeAt H x L F] (hp : 0 ≤ p ∧ p < L.I.ps.length) (hv : 0 ≤ L.I.pAt p ∧ L.I.pAt p < L.I.ms.length) : Does Tryz.prog B 98 [ptr x, .int .i64 p] H fun r H' => H' = IdeAt x (L.put (L.I.drops p)) + F ∧ r = .tuple #[] := by
  obtain ⟨kp, hkp, hp, hA⟩ := pAt_of hp
  obtain ⟨k, hk, hm, _⟩ := mAt_of (L := L) hv
  have cp := p_cell (B := B) hkp
  have hl1 : (mcs L.I.ms).length = L.I.ms.length * 4 := mcs_len _
  have hpk : L.I.ps[kp] = (k : Int) := by rw [← hA]; exact hm
  have hpt : (L.I.pAt p).toNat = k := by omega
  rw [i.eq, ide_open, ide_open]
  refine Does.same ?_
  refine fn_intro 18 Tryz.func98 rfl rfl rfl ?_
  refine walk ?_
  (refine wp_draw [14] (.look 0 (.look 1 (.look 2 (.look 3 (.look 4 (.look 5 (.look 6 (.look 7 (.look 8 (.look 9 (.look 10 (.look 11 (.look 12 (.look 13 (.act 14 .nil .stop))))))))))))))) (by kernel_rfl) ?_; refine dwP ?_; refine dwP ?_; refine dwP ?_; refine dwL ?_; refine dwP ?_; refine dwP ?_; refine dwP ?_; refine dwL ?_; refine dwP ?_; (apply dw_pure; (· exact rfl); (· exact rfl); (· (intro G; (apply s_indexAddr (j := kp) (o' := kp); (· exact rfl); (· exact rfl); (· omega); (· omega); (· omega); (· exact rfl)); exact looked))); refine dwL ?_; (apply dw_pure; (· exact rfl); (· exact rfl); (· (intro G; (apply s_indexAddr (j := k) (o' := k * 4); (· exact rfl); (· exact rfl); (· omega); (· omega); (· omega); (· exact rfl)); exact looked))); refine dwP ?_; refine dwP ?_; skip)
  refine dw_do0 rfl rfl ?_ dw_stop
  refine s_store (v := .int .i64 (-1)) (cs' := mcs (L.I.ms.modify k fun x => { x with p := -1 }) ++ L.sm) rfl rfl rfl ?_ (mcs_setP hk _ _) ?_
  · simp only [List.length_append, List.length_cons, List.length_nil]; omega
  refine wpl_nil (qone0 ⟨(by refine st_past (by kernel_rfl) ?_; refine st_past (by kernel_rfl) ?_; refine st_past (by kernel_rfl) ?_; exact st_nil), ?_⟩)
  (refine dw_nil ?_; skip)
  refine walk ?_
  refine ret0 (.inl rfl) rfl ⟨?_, rfl⟩
  simp only [IdL.put, ideC, Ide.drops, List.length_modify, hpt]
  exact Ent.auto
end
end Go.Proofs.YtlhnmbajbhaaoaaGreat
namespace Go.Proofs.YtlhnmbajbhaaoaaGreat
open Go Go.SL
set_option linter.unusedSimpArgs false
set_option linter.unusedVariables false
set_option maxRecDepth 10000
set_option maxHeartbeats 2000000
attribute [local irreducible] WP WPL QSeq QBlk QRet Does Cell Cells Rd Mine Ent Aside RV Yield TabAt SemAt
section
variable {B : World} {H F G : HProp} {x : Nat} {L : IdL} {n : Nt} {m p a g s : Int} {k j : Nat} {K : Int}
theorem ide_cell {v : Value} (hv : (ideC L)[j]? = some v) : Cell B (IdeAt x L) x j v := by
  unfold IdeAt
  exact Cell.blk hv
theorem ide_m (hk : k < L.I.ms.length) {v : Value} (hj : j < 4) (hv : (mcC L.I.ms[k])[j]? = some v) : Cell B (IdeAt x L) L.bm (k * 4 + j) v := by
  unfold IdeAt
  exact (m_cell hk hj hv).ent ((Ent.drop_left _ _).trans (Ent.drop_right _ _))
theorem ide_p (hk : k < L.I.ps.length) : Cell B (IdeAt x L) L.bp k (.int .i64 L.I.ps[k]) := by
  unfold IdeAt
  exact (p_cell hk).ent ((Ent.drop_left _ _).trans ((Ent.drop_left _ _).trans (Ent.drop_right _ _)))
instance ideTab : HasAt TabAt (IdeAt x L) L.q L.I.tab (blk x (ideC L) 75 + (blk L.bm (mcs L.I.ms ++ L.sm) 80 + (blk L.bp (zs L.I.ps ++ L.sp) 3 + SemAt L.s L.I.sem))) := ⟨by unfold IdeAt; ac_rfl⟩
instance ideSem : HasAt SemAt (IdeAt x L) L.s L.I.sem (blk x (ideC L) 75 + (blk L.bm (mcs L.I.ms ++ L.sm) 80 + (blk L.bp (zs L.I.ps ++ L.sp) 3 + TabAt L.q L.I.tab))) := ⟨by unfold IdeAt; ac_rfl⟩
theorem iStat [i : HasAt IdeAt H x L F] : Does Tryz.prog B 43 [ptr L.q, .int .i64 g] H fun r H' => H' = H ∧ r = .tuple #[.int .i64 (L.I.stat g), .bool (decide (0 ≤ g ∧ g < L.I.tab.all.length))] := by
  rw [i.eq]
  refine (tStatus (p := L.q) (T := L.I.tab) (g := g)).weak fun r H' ⟨e, hr⟩ => ⟨_, Ent.refl _, e, ?_⟩
  rw [hr]
  unfold Ide.stat
  by_cases h : 0 ≤ g ∧ g < L.I.tab.all.length
  · rw [if_pos h, if_pos h, decide_eq_true h]
  · rw [if_neg h, if_neg h, decide_eq_false h]
theorem iCount [i : HasAt IdeAt H x L F] : Does Tryz.prog B 44 [ptr L.s, .int .i64 s] H fun r H' => H' = H ∧ r = .int .i64 (L.I.count s) := by
  rw [i.eq]
  exact sCountA (p := L.s) (S := L.I.sem) (k := s)
theorem rowS_all (hk : ∀ (i : Nat) (l : List Int) (y : Int), L.I.sem[i]? = some (l, y) → (l.length : Int) ≤ K) (hK : K ≤ 100000) : LOk L.I.sem := fun i l y h => by have := hk i l y h; omega
theorem iFirst [i : HasAt IdeAt H x L F] (hl : LOk L.I.sem) : Does Tryz.prog B 78 [ptr x, .int .i64 s, .int .i64 g] H fun r H' => H' = H ∧ r = .bool (L.I.first s g) := by
  have z0 : Cell B (IdeAt x L) x 0 (.int .i64 L.I.c.n) := ide_cell rfl
  have z3 : Cell B (IdeAt x L) x 3 (.int .i64 L.I.c.m) := ide_cell rfl
  have z6 : Cell B (IdeAt x L) x 6 (ptr L.q) := ide_cell rfl
  have z7 : Cell B (IdeAt x L) x 7 (ptr L.s) := ide_cell rfl
  have z8 : Cell B (IdeAt x L) x 8 (.slice (some ⟨L.bm, 0, none⟩) L.I.ms.length L.cm) := ide_cell rfl
  have z9 : Cell B (IdeAt x L) x 9 (.slice (some ⟨L.bp, 0, none⟩) L.I.ps.length L.cp) := ide_cell rfl
  rw [i.eq]
  unfold Ide.first
  refine Does.frame0 ?_
  obtain ⟨R, hR⟩ : ∃ R, rowS L.I.sem s = R := ⟨_, rfl⟩
  rw [hR]
  by_cases hg : g < 0
  · rw [if_pos hg]
    cases R with
    | nil =>
      refine fn_intro 29 Tryz.func78 rfl rfl rfl ?_
      refine walk ?_
      refine s_call rfl (sWaitingA (p := L.s) (S := L.I.sem) (k := s) hl) rfl ?_
      rintro r _ rfl
      refine WPL.shape ?_
      rintro ao cap rfl hl1 hl2 hl3
      refine WPL.rd fun rd => ?_
      rw [hR]
      simp only [List.length_nil, List.length_cons]
      refine walk ?_
      (first | (apply retRD1 (G := (IdeAt x L + F)) (.inr rfl) rfl; (· first | (refine rv_tmp (v := .bool _) rfl) | exact rv_tmp rfl); (· exact Ent.auto)) | (apply retRD1 (G := (IdeAt x L + F)) (.inl rfl) rfl; (· first | (refine rv_tmp (v := .bool _) rfl) | exact rv_tmp rfl); (· exact Ent.auto)))
      exact ⟨Ent.refl _, rfl⟩
    | cons y R =>
      refine fn_intro 29 Tryz.func78 rfl rfl rfl ?_
      refine walk ?_
      refine s_call rfl (sWaitingA (p := L.s) (S := L.I.sem) (k := s) hl) rfl ?_
      rintro r _ rfl
      refine WPL.shape ?_
      rintro ao cap rfl hl1 hl2 hl3
      refine WPL.rd fun rd => ?_
      rw [hR]
      simp only [List.length_nil, List.length_cons]
      refine walk ?_
      (first | (apply retRD1 (G := (IdeAt x L + F)) (.inr rfl) rfl; (· first | (refine rv_tmp (v := .bool _) rfl) | exact rv_tmp rfl); (· exact Ent.auto)) | (apply retRD1 (G := (IdeAt x L + F)) (.inl rfl) rfl; (· first | (refine rv_tmp (v := .bool _) rfl) | exact rv_tmp rfl); (· exact Ent.auto)))
      exact ⟨Ent.refl _, rfl⟩
  · rw [if_neg hg]
    cases R with
    | nil =>
      refine fn_intro 29 Tryz.func78 rfl rfl rfl ?_
      refine walk ?_
      refine s_call rfl (sWaitingA (p := L.s) (S := L.I.sem) (k := s) hl) rfl ?_
      rintro r _ rfl
      refine WPL.shape ?_
      rintro ao cap rfl hl1 hl2 hl3
      refine WPL.rd fun rd => ?_
      rw [hR]
      simp only [List.length_nil, List.length_cons]
      refine walk ?_
      (first | (apply retRD1 (G := (IdeAt x L + F)) (.inr rfl) rfl; (· first | (refine rv_tmp (v := .bool _) rfl) | exact rv_tmp rfl); (· exact Ent.auto)) | (apply retRD1 (G := (IdeAt x L + F)) (.inl rfl) rfl; (· first | (refine rv_tmp (v := .bool _) rfl) | exact rv_tmp rfl); (· exact Ent.auto)))
      exact ⟨Ent.refl _, rfl⟩
    | cons y R =>
      by_cases hy : y = g
      · skip
        refine fn_intro 29 Tryz.func78 rfl rfl rfl ?_
        refine walk ?_
        refine s_call rfl (sWaitingA (p := L.s) (S := L.I.sem) (k := s) hl) rfl ?_
        rintro r _ rfl
        refine WPL.shape ?_
        rintro ao cap rfl hl1 hl2 hl3
        refine WPL.rd fun rd => ?_
        rw [hR] at rd ⊢
        simp only [List.length_cons] at rd ⊢
        obtain ⟨ao', cap', hv, _, _, hc⟩ := (by unfold Rd at rd; exact rd)
        obtain ⟨b, o, rfl, hcs⟩ := Rd.addr (k := 0) (by rw [zs_length, Nat.mul_one]) hc (by simp)
        cases hv
        have hcell := hcs.cell (j := 0) rfl
        refine walk ?_
        (first | refine step_wanted rfl rfl ?_ | skip)
        (apply s_indexAddr (j := 0) (o' := o); (· exact rfl); (· exact rfl); (· omega); (· omega); (· omega); (· exact rfl))
        refine walk ?_
        (first | (apply retRD1 (G := (IdeAt x L + F)) (.inr rfl) rfl; (· first | (refine rv_tmp (v := .bool _) rfl) | exact rv_tmp rfl); (· exact Ent.auto)) | (apply retRD1 (G := (IdeAt x L + F)) (.inl rfl) rfl; (· first | (refine rv_tmp (v := .bool _) rfl) | exact rv_tmp rfl); (· exact Ent.auto)))
        exact ⟨Ent.refl _, by simp [hy]⟩
      · skip
        refine fn_intro 29 Tryz.func78 rfl rfl rfl ?_
        refine walk ?_
        refine s_call rfl (sWaitingA (p := L.s) (S := L.I.sem) (k := s) hl) rfl ?_
        rintro r _ rfl
        refine WPL.shape ?_
        rintro ao cap rfl hl1 hl2 hl3
        refine WPL.rd fun rd => ?_
        rw [hR] at rd ⊢
        simp only [List.length_cons] at rd ⊢
        obtain ⟨ao', cap', hv, _, _, hc⟩ := (by unfold Rd at rd; exact rd)
        obtain ⟨b, o, rfl, hcs⟩ := Rd.addr (k := 0) (by rw [zs_length, Nat.mul_one]) hc (by simp)
        cases hv
        have hcell := hcs.cell (j := 0) rfl
        refine walk ?_
        (first | refine step_wanted rfl rfl ?_ | skip)
        (apply s_indexAddr (j := 0) (o' := o); (· exact rfl); (· exact rfl); (· omega); (· omega); (· omega); (· exact rfl))
        refine walk ?_
        (first | (apply retRD1 (G := (IdeAt x L + F)) (.inr rfl) rfl; (· first | (refine rv_tmp (v := .bool _) rfl) | exact rv_tmp rfl); (· exact Ent.auto)) | (apply retRD1 (G := (IdeAt x L + F)) (.inl rfl) rfl; (· first | (refine rv_tmp (v := .bool _) rfl) | exact rv_tmp rfl); (· exact Ent.auto)))
        exact ⟨Ent.refl _, by simp [hy]⟩
theorem callers_take (hk : k < L.I.ms.length) : (L.I.ms.take (k + 1)).countP (fun m => decide (m.a = 3)) = (L.I.ms.take k).countP (fun m => decide (m.a = 3)) + if L.I.ms[k].a = 3 then 1 else 0 := by
  rw [List.take_succ_eq_append_getElem hk, List.countP_append]
  simp [List.countP_cons]
theorem ide_c4 (hk : k < L.I.ms.length) : Cells B (IdeAt x L) L.bm (k * 4) (mcC L.I.ms[k]) := by
  have h : Cells B (blk L.bm (mcs L.I.ms ++ L.sm) 80) L.bm (k * 4) (mcC L.I.ms[k]) := by
    rw [← HProp.add_emp (blk L.bm (mcs L.I.ms ++ L.sm) 80)]
    exact Cells.blk fun j v hj => by
      have hj4 : j < 4 := (List.getElem?_eq_some_iff.1 hj).1
      rw [mcs_at hk hj4]; exact hj
  unfold IdeAt
  exact h.ent ((Ent.drop_left _ _).trans (Ent.drop_right _ _))
theorem iCallers [i : HasAt IdeAt H x L F] (hl : L.I.ms.length ≤ 16) : Does Tryz.prog B 41 [ptr x] H fun r H' => H' = H ∧ r = .int .i64 (L.I.callers : Int) := by
  have z0 : Cell B (IdeAt x L) x 0 (.int .i64 L.I.c.n) := ide_cell rfl
  have z3 : Cell B (IdeAt x L) x 3 (.int .i64 L.I.c.m) := ide_cell rfl
  have z6 : Cell B (IdeAt x L) x 6 (ptr L.q) := ide_cell rfl
  have z7 : Cell B (IdeAt x L) x 7 (ptr L.s) := ide_cell rfl
  have z8 : Cell B (IdeAt x L) x 8 (.slice (some ⟨L.bm, 0, none⟩) L.I.ms.length L.cm) := ide_cell rfl
  have z9 : Cell B (IdeAt x L) x 9 (.slice (some ⟨L.bp, 0, none⟩) L.I.ps.length L.cp) := ide_cell rfl
  rw [i.eq]
  refine Does.frame0 ?_
  refine fn_intro 24 Tryz.func41 rfl rfl rfl ?_
  refine walk ?_
  refine wp_loopF (α := Nat) [2, 4, 12, 13, 14, 15, 16, 17, 18, 19, 20, 21, 22] (fun k => [(12, .int .i64 k), (2, .int .i64 ((L.I.ms.take k).countP (fun m => decide (m.a = 3)) : Nat))]) (fun _ => IdeAt x L + F) (fun k => k ≤ L.I.ms.length) (fun k => L.I.ms.length - k) 0 agreed (Ent.refl _) (by omega) ?_
  intro k f hk
  simp only [putAll]
  by_cases hlt : k < L.I.ms.length
  · have c4 := ide_c4 (B := B) (x := x) hlt
    have c4' : Cells B (IdeAt x L) L.bm (0 + k * 4) (mcC L.I.ms[k]) := by rw [Nat.zero_add]; exact c4
    have ct := callers_take hlt
    have cb := List.countP_le_length (p := fun m : Mc => decide (m.a = 3)) (l := L.I.ms.take k)
    rw [List.length_take] at cb
    refine walk ?_
    refine s_alloc rfl ?_
    intro b
    refine walk ?_
    refine s_storeW (vs := mcC L.I.ms[k]) (cs := [.int .i64 0, .int .i64 0, .int .i64 0, .int .i64 0]) rfl rfl rfl rfl rfl ?_
    by_cases h3 : L.I.ms[k].a = 3
    · rw [if_pos h3] at ct
      refine walk ?_
      exact ⟨k + 1, asided, agreed, Ent.auto, by omega, by omega⟩
    · rw [if_neg h3] at ct
      refine walk ?_
      exact ⟨k + 1, asided, agreed, Ent.auto, by omega, by omega⟩
  · have e : L.I.ms.take k = L.I.ms := List.take_of_length_le (by omega)
    rw [e]
    refine walk ?_
    (first | (apply retRD1 (G := (IdeAt x L + F)) (.inr rfl) rfl; (· first | (refine rv_tmp (v := .int _ _) rfl) | exact rv_tmp rfl); (· exact Ent.auto)) | (apply retRD1 (G := (IdeAt x L + F)) (.inl rfl) rfl; (· first | (refine rv_tmp (v := .int _ _) rfl) | exact rv_tmp rfl); (· exact Ent.auto)))
    exact ⟨Ent.refl _, rfl⟩
end
end Go.Proofs.YtlhnmbajbhaaoaaGreat
