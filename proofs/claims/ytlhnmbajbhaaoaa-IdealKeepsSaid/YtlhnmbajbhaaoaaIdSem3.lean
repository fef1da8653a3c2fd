/- Semaphores: what is done. No condition. -/
import Derived.Test.YtlhnmbajbhaaoaaIdSem2
namespace Go.Proofs.Ytlhnmbajbhaaoaa
open Go Go.SL
set_option linter.unusedSimpArgs false
set_option linter.unusedVariables false
set_option maxRecDepth 10000
set_option maxHeartbeats 1000000
attribute [local irreducible] WP WPL QSeq QBlk QRet Does Cell Cells Rd Mine Ent Aside RV Yield
section
variable {B : World} {F H G : HProp} {p bw n i : Nat} {rs : List RowC} {wm : Assoc} {S : SemS} {k g y c c' h t : Int} {l l' : List Int} {x : MapO}
instance {p n bw : Nat} {rs : List RowC} {wm : Assoc} : HasAt MapAt (SemX p rs n bw wm) bw wm (blk p (cellsOf rs ++ [.int .i64 (n : Int), .map (some bw)]) 85 + mapsH rs) := ⟨by unfold SemX; ac_rfl⟩
theorem semX_wm {wm' : Assoc} : MapAt bw wm' + (blk p (cellsOf rs ++ [.int .i64 (n : Int), .map (some bw)]) 85 + (mapsH rs + F)) = SemX p rs n bw wm' + F := by unfold SemX; ac_rfl
def leaveS (S : SemS) (g : Int) : SemS := match whereOf S g with
  | none => S
  | some i => S.modify i fun r => (r.1.erase g, r.2)
theorem modify_at {α : Type} {L : List α} {i : Nat} {a : α} {f : α → α} (h : L[i]? = some a) : L.modify i f = L.set i (f a) := by
  obtain ⟨hl, rfl⟩ := List.getElem?_eq_some_iff.1 h
  refine List.ext_getElem? fun j => ?_
  rw [List.getElem?_modify, List.getElem?_set]
  by_cases h : i = j
  · subst h; simp [hl]
  · simp [h]
theorem sLeave (hf : SemF rs wm S) : Does Try.prog B 84 [.pointer (some ⟨p, 0, none⟩), .int .i64 g] (SemX p rs S.length bw wm + F) fun r H' => ∃ rs' wm', H' = SemX p rs' (leaveS S g).length bw wm' + F ∧ SemF rs' wm' (leaveS S g) ∧ r = .bool (whereOf S g).isSome := by
  have c1 : Cell B (SemX p rs S.length bw wm) p 65 (.map (some bw)) := semX_w hf
  have hi16 := hf.hi
  refine fn_intro 28 Try.func84 rfl rfl rfl ?_
  refine walk ?_
  refine s_call rfl (sWhere (g := g) hf) rfl ?_
  rintro _ _ ⟨e_, rfl⟩
  obtain rfl := e_.symm
  refine walk ?_
  unfold leaveS
  cases hw : whereOf S g with
  | none =>
    simp only [Option.getD_none, Option.isSome_none]
    refine walkG ?_
    (first | refine ret1 (v := .bool _) (.inr rfl) rfl rfl ?_ | refine ret1  (.inr rfl) rfl rfl ?_ | refine ret1 (v := .bool _) (.inl rfl) rfl rfl ?_ | refine ret1  (.inl rfl) rfl rfl ?_)
    exact ⟨rs, wm, rfl, hf, rfl⟩
  | some i =>
    obtain ⟨l, c, hs, hg⟩ := where_in hw
    obtain ⟨x, h, t, hr, hl⟩ := hf.at_ i l c hs
    have hil := (List.getElem?_eq_some_iff.1 hs).1
    simp only [Option.getD_some, Option.isSome_some]
    rw [modify_at hs, List.length_set]
    have hnew := fun x' h' t' (hl' : LnF x' h' t' (l.erase g)) => hf.leave hs hl' hl.nd hg
    refine walkG ?_
    refine s_mdel0 (k := g) rfl rfl ?_
    rw [semX_wm]
    refine walkG ?_
    refine s_indexAddrA (j := i) rfl rfl (by omega) (by omega) (o' := 4 * i) (by omega) rfl ?_
    refine walkG ?_
    rw [semX_row hr, ← take_len hr]
    simp only [HProp.add_assoc]
    refine s_call rfl (lnRemove (y := g) hl) rfl ?_
    rintro _ _ ⟨rfl, x', h', t', hl', rfl⟩
    rw [decide_eq_true hg]
    refine walkG ?_
    (first | refine ret1 (v := .bool _) (.inr rfl) rfl rfl ?_ | refine ret1  (.inr rfl) rfl rfl ?_ | refine ret1 (v := .bool _) (.inl rfl) rfl rfl ?_ | refine ret1  (.inl rfl) rfl rfl ?_)
    exact ⟨_, _, by rw [semX_set hr]; simp only [HProp.add_assoc], hnew x' h' t' hl', rfl⟩
theorem s_storeM3 {ro : Option Nat} {P : Program} {ops : Array Oper} {rest : List Oper} {fr : Fr} {Q : Post} {n : Nat} {ty : TypeId} {pos : String} {after : Array Edge} {T e : TypeId} {x y : Operand} {A Z : List Value} {a b c d v : Value} [i : Plain P T] (hx : ev fr x = .pointer (some ⟨p, A.length + 3, none⟩)) [hb : HasBlk H p (A ++ a :: b :: c :: d :: Z) e F] (hy : ev fr y = v) (h1 : v.oneCell' = true)
    (k : WPL ro P B n ops rest fr (blk p (A ++ a :: b :: c :: v :: Z) e + F) Q) : WPL ro P B n ops (⟨none, .store T x y, ty, pos, after, none⟩ :: rest) fr H Q :=
  s_store (cs' := A ++ a :: b :: c :: v :: Z) hx hy h1 (by simp) (by rw [List.set_append_right _ _ (by omega)]; simp) k
def pushS (S : SemS) (i : Nat) (g : Int) : SemS := S.modify i fun r => (r.1 ++ [g], r.2)
def countS (S : SemS) (i : Nat) (c : Int) : SemS := S.modify i fun r => (r.1, c)
/-- What asking does: what is held, whether it came at once, the number of the error. -/
def acqS (S : SemS) (k g : Int) : SemS × Bool × Int :=
  if ¬ (0 ≤ k ∧ k < S.length) then (S, false, 2)
  else if (whereOf S g).isSome then (S, false, 140)
  else match S[k.toNat]? with
    | some (l, c) => if 0 < c then (countS S k.toNat (c - 1), true, 0) else (pushS S k.toNat g, false, 0)
    | none => (S, false, 2)
theorem autoSem35 {p q : Prop} (k : q) (h : Owed q → p := by
  intro k_
  refine walkG ?_
  repeat ((first | (show WPL _ _ _ _ _ (⟨_, .call ⟨.value (.func 77), _, _⟩, _, _, _, none⟩ :: _) _ _ _; (apply s_call; (· exact rfl); (· refine there_spec ?_ <;> (first | assumption | omega | decide | (unfold U32; omega) | exact InH.ent | (apply Rd.ent; (· assumption); (· exact InH.ent)) | exact Rd.nil | (refine Rd.blk0 ?_ ?_; (· rfl); (· simp [maxLen])) | simp)); (· exact rfl); rintro _ _ ⟨e_, rfl⟩; obtain rfl := e_.symm))); refine walkG ?_)
  exact k_.get) : p := h ⟨k⟩
theorem sAcquire (hf : SemF rs wm S) : Does Try.prog B 48 [.pointer (some ⟨p, 0, none⟩), .int .i64 k, .int .i64 g] (SemX p rs S.length bw wm + F) fun r H' => ∃ rs' wm', H' = SemX p rs' (acqS S k g).1.length bw wm' + F ∧ SemF rs' wm' (acqS S k g).1 ∧ r = .tuple #[.bool (acqS S k g).2.1, .int .i64 (acqS S k g).2.2] := by
  have c1 : Cell B (SemX p rs S.length bw wm) p 65 (.map (some bw)) := semX_w hf
  have hi16 := hf.hi
  refine fn_intro 56 Try.func48 rfl rfl rfl ?_
  refine autoSem35 ?_
  unfold acqS
  refine wp_cond_b rfl (fun h1 => ?_) (fun h1 => ?_) <;> try simp only [decide_eq_true_eq, decide_eq_false_iff_not, Bool.not_eq_true', Bool.not_eq_false', Bool.and_eq_true, Bool.or_eq_true, Bool.or_eq_false_iff] at h1
  · rw [if_pos (by omega)]
    refine autoSem35 ?_
    (first | refine ret2 (v := .bool _) (x := .int _ _) (.inr rfl) rfl rfl rfl ?_ | refine ret2  (.inr rfl) rfl rfl rfl ?_ | refine ret2 (v := .bool _) (x := .int _ _) (.inl rfl) rfl rfl rfl ?_ | refine ret2  (.inl rfl) rfl rfl rfl ?_)
    exact ⟨rs, wm, rfl, hf, rfl⟩
  · obtain ⟨h0, h1⟩ := h1
    have hlt : k.toNat < S.length := by omega
    obtain ⟨l, c, hs⟩ : ∃ l c, S[k.toNat]? = some (l, c) := ⟨_, _, List.getElem?_eq_getElem hlt⟩
    rw [if_neg (by omega), hs]
    obtain ⟨x, h, t, hr, hl⟩ := hf.at_ _ l c hs
    have hcnt := hf.cnt _ _ _ hs
    have c3 : Cell B (SemX p rs S.length bw wm) p (4 * k.toNat + 3) (.int .i64 c) := semX_c hf hs
    refine autoSem35 ?_
    refine s_mget2 rfl rfl (where_get hf).1 (where_get hf).2 rfl ?_
    cases hw : whereOf S g with
    | some i =>
      simp only [Option.isSome_some, if_true]
      refine autoSem35 ?_
      (first | refine ret2 (v := .bool _) (x := .int _ _) (.inr rfl) rfl rfl rfl ?_ | refine ret2  (.inr rfl) rfl rfl rfl ?_ | refine ret2 (v := .bool _) (x := .int _ _) (.inl rfl) rfl rfl rfl ?_ | refine ret2  (.inl rfl) rfl rfl rfl ?_)
      exact ⟨rs, wm, rfl, hf, rfl⟩
    | none =>
      simp only [Option.isSome_none]
      rw [if_neg (by simp)]
      refine autoSem35 ?_
      refine s_indexAddrA (j := k.toNat) rfl rfl rfl (by omega) (o' := 4 * k.toNat) (by omega) rfl ?_
      by_cases hc : 0 < c
      · rw [if_pos hc]
        unfold countS
        rw [modify_at hs, List.length_set]
        refine autoSem35 ?_
        skip
        rw [semX_row hr, ← take_len hr]
        simp only [HProp.add_assoc]
        refine s_storeM3 (v := .int .i64 (c - 1)) rfl rfl rfl ?_
        refine autoSem35 ?_
        (first | refine ret2 (v := .bool _) (x := .int _ _) (.inr rfl) rfl rfl rfl ?_ | refine ret2  (.inr rfl) rfl rfl rfl ?_ | refine ret2 (v := .bool _) (x := .int _ _) (.inl rfl) rfl rfl rfl ?_ | refine ret2  (.inl rfl) rfl rfl rfl ?_)
        exact ⟨rs.set k.toNat (x, h, t, c - 1), wm, by rw [semX_set hr]; simp only [HProp.add_assoc], hf.count hs hr hl (by omega), rfl⟩
      · rw [if_neg hc]
        unfold pushS
        rw [modify_at hs, List.length_set]
        refine autoSem35 ?_
        refine s_mset (v := .int .i64 k) (k := g) rfl rfl rfl ?_
        rw [semX_wm]
        refine autoSem35 ?_
        refine s_buildInts (cs := [.int .i64 g]) rfl rfl rfl rfl rfl ?_
        intro bb
        have hk : ((k.toNat : Nat) : Int) = k := Int.toNat_of_nonneg h0
        have hng : ¬ g ∈ l := fun hg => where_none.1 hw k.toNat ⟨l, c, hs, hg⟩
        have hnew := fun x' h' t' (hl' : LnF x' h' t' (l ++ [g])) => hf.push hs hl' hw
        rw [hk] at hnew
        refine WPL.ent (Ent.ac (show _ = blk p (cellsOf (rs.take k.toNat) ++ mapV x :: .int .i64 h :: .int .i64 t :: (.int .i64 c :: (cellsOf (rs.drop (k.toNat + 1)) ++ [.int .i64 (S.length : Int), .map (some bw)]))) 85 + (mapH x + (blk bb [.int .i64 g] 3 + (mapsH (rs.take k.toNat) + (mapsH (rs.drop (k.toNat + 1)) + (MapAt bw (mset wm g (.int .i64 k)) + F))))) by rw [semX_row hr]; ac_rfl)) ?_
        rw [← take_len hr]
        refine s_call rfl (lnPush (y := g) hl hng (Rd.blk0 rfl (by simp [maxLen]))) rfl ?_
        rintro _ _ ⟨b, m, h', t', rfl, hl', rfl⟩
        refine autoSem35 ?_
        (first | (apply retRD2 (G := (blk p (cellsOf (rs.take k.toNat) ++ .map (some b) :: .int .i64 h' :: .int .i64 t' :: (.int .i64 c :: (cellsOf (rs.drop (k.toNat + 1)) ++ [.int .i64 (S.length : Int), .map (some bw)]))) 85 + (MapAt b m + (mapsH (rs.take k.toNat) + (mapsH (rs.drop (k.toNat + 1)) + (MapAt bw (mset wm g (.int .i64 k)) + F)))))) (.inr rfl) rfl; (· first | (refine rv_tmp (v := .bool _) rfl) | exact rv_tmp rfl); (· first | (refine rv_tmp (v := .int _ _) rfl) | exact rv_tmp rfl); (· exact Ent.auto)) | (apply retRD2 (G := (blk p (cellsOf (rs.take k.toNat) ++ .map (some b) :: .int .i64 h' :: .int .i64 t' :: (.int .i64 c :: (cellsOf (rs.drop (k.toNat + 1)) ++ [.int .i64 (S.length : Int), .map (some bw)]))) 85 + (MapAt b m + (mapsH (rs.take k.toNat) + (mapsH (rs.drop (k.toNat + 1)) + (MapAt bw (mset wm g (.int .i64 k)) + F)))))) (.inl rfl) rfl; (· first | (refine rv_tmp (v := .bool _) rfl) | exact rv_tmp rfl); (· first | (refine rv_tmp (v := .int _ _) rfl) | exact rv_tmp rfl); (· exact Ent.auto)))
        exact ⟨rs.set k.toNat (some (b, m), h', t', c), _, by rw [semX_set hr]; simp only [HProp.add_assoc, mapV, mapH], hnew _ _ _ hl', rfl⟩
/-- What giving back does: what is held, who goes on, whether one does, the number of the error. -/
def relS (S : SemS) (k : Int) : SemS × Int × Bool × Int :=
  if ¬ (0 ≤ k ∧ k < S.length) then (S, 0, false, 2)
  else match S[k.toNat]? with
    | some (g :: l, c) => (S.set k.toNat (l, c), g, true, 0)
    | some ([], c) => if c = 1073741824 then (S, 0, false, 3) else (countS S k.toNat (c + 1), 0, false, 0)
    | none => (S, 0, false, 2)
theorem autoSem37 {p q : Prop} (k : q) (h : Owed q → p := by
  intro k_
  refine walkG ?_
  repeat ((first | (show WPL _ _ _ _ _ (⟨_, .call ⟨.value (.func 77), _, _⟩, _, _, _, none⟩ :: _) _ _ _; (apply s_call; (· exact rfl); (· refine there_spec ?_ <;> (first | assumption | omega | decide | (unfold U32; omega) | exact InH.ent | (apply Rd.ent; (· assumption); (· exact InH.ent)) | exact Rd.nil | (refine Rd.blk0 ?_ ?_; (· rfl); (· simp [maxLen])) | simp)); (· exact rfl); rintro _ _ ⟨e_, rfl⟩; obtain rfl := e_.symm))); refine walkG ?_)
  exact k_.get) : p := h ⟨k⟩
theorem sRelease (hf : SemF rs wm S) : Does Try.prog B 54 [.pointer (some ⟨p, 0, none⟩), .int .i64 k] (SemX p rs S.length bw wm + F) fun r H' => ∃ rs' wm', H' = SemX p rs' (relS S k).1.length bw wm' + F ∧ SemF rs' wm' (relS S k).1 ∧ r = .tuple #[.int .i64 (relS S k).2.1, .bool (relS S k).2.2.1, .int .i64 (relS S k).2.2.2] := by
  have hi16 := hf.hi
  refine fn_intro 47 Try.func54 rfl rfl rfl ?_
  refine autoSem37 ?_
  unfold relS
  refine wp_cond_b rfl (fun h1 => ?_) (fun h1 => ?_) <;> try simp only [decide_eq_true_eq, decide_eq_false_iff_not, Bool.not_eq_true', Bool.not_eq_false', Bool.and_eq_true, Bool.or_eq_true, Bool.or_eq_false_iff] at h1
  · rw [if_pos (by omega)]
    refine autoSem37 ?_
    (first | refine ret3 (v := .int _ _) (x := .bool _) (y := .int _ _) (.inr rfl) rfl rfl rfl rfl ?_ | refine ret3  (.inr rfl) rfl rfl rfl rfl ?_ | refine ret3 (v := .int _ _) (x := .bool _) (y := .int _ _) (.inl rfl) rfl rfl rfl rfl ?_ | refine ret3  (.inl rfl) rfl rfl rfl rfl ?_)
    exact ⟨rs, wm, rfl, hf, rfl⟩
  · obtain ⟨h0, h1⟩ := h1
    have hlt : k.toNat < S.length := by omega
    obtain ⟨l, c, hs⟩ : ∃ l c, S[k.toNat]? = some (l, c) := ⟨_, _, List.getElem?_eq_getElem hlt⟩
    rw [if_neg (by omega), hs]
    obtain ⟨x, h, t, hr, hl⟩ := hf.at_ _ l c hs
    have hcnt := hf.cnt _ _ _ hs
    have c3 : Cell B (SemX p rs S.length bw wm) p (4 * k.toNat + 3) (.int .i64 c) := semX_c hf hs
    refine autoSem37 ?_
    refine s_indexAddrA (j := k.toNat) rfl rfl rfl (by omega) (o' := 4 * k.toNat) (by omega) rfl ?_
    refine autoSem37 ?_
    refine s_call rfl (lnHead (semX_ln hf hs)) rfl ?_
    rintro _ _ ⟨rfl, y, hy, rfl⟩
    cases l with
    | nil =>
      simp only [List.length_nil, show decide (0 < 0) = false from rfl]
      by_cases hc : c = 1073741824
      · simp only [if_pos hc]
        refine autoSem37 ?_
        (first | refine ret3 (v := .int _ _) (x := .bool _) (y := .int _ _) (.inr rfl) rfl rfl rfl rfl ?_ | refine ret3  (.inr rfl) rfl rfl rfl rfl ?_ | refine ret3 (v := .int _ _) (x := .bool _) (y := .int _ _) (.inl rfl) rfl rfl rfl rfl ?_ | refine ret3  (.inl rfl) rfl rfl rfl rfl ?_)
        exact ⟨rs, wm, rfl, hf, rfl⟩
      · simp only [if_neg hc]
        unfold countS
        rw [modify_at hs, List.length_set]
        refine autoSem37 ?_
        skip
        rw [semX_row hr, ← take_len hr]
        simp only [HProp.add_assoc]
        refine s_storeM3 (v := .int .i64 (c + 1)) rfl rfl rfl ?_
        refine autoSem37 ?_
        (first | refine ret3 (v := .int _ _) (x := .bool _) (y := .int _ _) (.inr rfl) rfl rfl rfl rfl ?_ | refine ret3  (.inr rfl) rfl rfl rfl rfl ?_ | refine ret3 (v := .int _ _) (x := .bool _) (y := .int _ _) (.inl rfl) rfl rfl rfl rfl ?_ | refine ret3  (.inl rfl) rfl rfl rfl rfl ?_)
        exact ⟨rs.set k.toNat (x, h, t, c + 1), wm, by rw [semX_set hr]; simp only [HProp.add_assoc], hf.count hs hr hl (by omega), rfl⟩
    | cons g l =>
      obtain rfl : g = y := by have := hy (by simp); simpa using this
      have hd : decide (0 < (g :: l).length) = true := by simp
      rw [hd]
      have hw : whereOf S g = some k.toNat := (where_iff hf.uniq).2 ⟨_, _, hs, by simp⟩
      refine autoSem37 ?_
      skip
      refine s_call rfl (sLeave (g := g) hf) rfl ?_
      have e : leaveS S g = S.set k.toNat (l, c) := by
        unfold leaveS
        rw [hw]
        simp only
        rw [modify_at hs]
        simp
      rw [e]
      rintro _ _ ⟨rs', wm', rfl, hf', rfl⟩
      refine autoSem37 ?_
      (first | refine ret3 (v := .int _ _) (x := .bool _) (y := .int _ _) (.inr rfl) rfl rfl rfl rfl ?_ | refine ret3  (.inr rfl) rfl rfl rfl rfl ?_ | refine ret3 (v := .int _ _) (x := .bool _) (y := .int _ _) (.inl rfl) rfl rfl rfl rfl ?_ | refine ret3  (.inl rfl) rfl rfl rfl rfl ?_)
      exact ⟨rs', wm', rfl, hf', rfl⟩
end
end Go.Proofs.Ytlhnmbajbhaaoaa
