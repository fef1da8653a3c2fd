/- Semaphores: plain facts; shut and opened. No condition. -/
import Derived.Test.YtlhnmbajbhaaoaaIdSem1
namespace Go.Proofs.Ytlhnmbajbhaaoaa
open Go Go.SL
set_option linter.unusedSimpArgs false
set_option linter.unusedVariables false
set_option maxRecDepth 10000
attribute [local irreducible] WP WPL QSeq QBlk QRet Does Cell Cells Rd Mine Ent Aside RV Yield
section
variable {ro : Option Nat} {B : World} {F H G : HProp} {p bw n i : Nat} {rs : List RowC} {wm : Assoc} {S : SemS} {k g y c c' h t : Int} {l l' : List Int} {x : MapO} {f : FuncId} {args : List Value} {R : Value → HProp → Prop}
theorem where_in {k : Nat} (h : whereOf S g = some k) : InS S k g := by
  obtain ⟨hk, hp, _⟩ := List.findIdx?_eq_some_iff_getElem.1 h
  exact ⟨S[k].1, S[k].2, List.getElem?_eq_getElem hk, by simpa using hp⟩
theorem where_none : whereOf S g = none ↔ ∀ i, ¬ InS S i g := by
  unfold whereOf
  rw [List.findIdx?_eq_none_iff]
  constructor
  · rintro h i ⟨l, c, hi, hg⟩
    have := h _ (List.mem_of_getElem? hi)
    simp at this
    exact this hg
  · intro h r hr
    obtain ⟨i, hi⟩ := List.getElem?_of_mem hr
    simp only [decide_eq_false_iff_not]
    exact fun hg => h i ⟨r.1, r.2, hi, hg⟩
theorem where_iff (hu : ∀ i j g, InS S i g → InS S j g → i = j) {k : Nat} : whereOf S g = some k ↔ InS S k g := by
  refine ⟨where_in, fun h => ?_⟩
  cases hw : whereOf S g with
  | none => exact absurd h (where_none.1 hw k)
  | some j => rw [hu _ _ _ (where_in hw) h]
theorem where_of {w : Option Nat} (h : ∀ k, whereOf S g = some k ↔ w = some k) : whereOf S g = w := by
  cases hw : whereOf S g with
  | some k => exact ((h k).1 hw).symm
  | none => cases w with
    | none => rfl
    | some k => rw [(h k).2 rfl] at hw; cases hw
theorem in_set (hi : i < S.length) {j : Nat} : InS (S.set i (l', c')) j g ↔ if j = i then g ∈ l' else InS S j g := by
  unfold InS
  rw [List.getElem?_set]
  by_cases hj : i = j
  · subst hj
    simp [hi]
  · have : ¬ j = i := fun e => hj e.symm
    simp [hj, this]
theorem LnF.nd (h' : LnF x h t l) : l.Nodup := by
  cases x with
  | none => rw [show l = [] from h']; exact List.nodup_nil
  | some x => exact LinkF.nd h'
/-- One semaphore turns. -/
theorem SemF.set (hf : SemF rs wm S) {wm' : Assoc} {x' : MapO} {h' t' : Int} (hi : S[i]? = some (l, c)) (hl : LnF x' h' t' l') (hc : 0 ≤ c' ∧ c' ≤ 1073741824)
    (hw : ∀ g, mget wm' g = (whereOf (S.set i (l', c')) g).map fun k => .int .i64 ((k : Nat) : Int)) (hn : (mkeys wm').Nodup) (hu : ∀ a b g, InS (S.set i (l', c')) a g → InS (S.set i (l', c')) b g → a = b) :
    SemF (rs.set i (x', h', t', c')) wm' (S.set i (l', c')) := by
  have hil := (List.getElem?_eq_some_iff.1 hi).1
  have h16 := hf.hi
  have hlen := hf.len
  refine ⟨by rw [List.length_set]; exact hf.lo, by rw [List.length_set]; exact hf.hi, by rw [List.length_set]; exact hf.len, ?_, hw, hn, ?_, hu⟩
  · intro j l2 c2 hj
    rw [List.getElem?_set] at hj ⊢
    split at hj
    · subst_vars
      cases hj
      exact ⟨x', h', t', by rw [if_pos rfl, if_pos (by omega)], hl⟩
    · obtain ⟨x2, h2, t2, h3, h4⟩ := hf.at_ j l2 c2 hj
      exact ⟨x2, h2, t2, by rw [if_neg (by assumption)]; exact h3, h4⟩
  · intro j l2 c2 hj
    rw [List.getElem?_set] at hj
    split at hj
    · subst_vars
      cases hj
      exact hc
    · exact hf.cnt j l2 c2 hj
theorem in_same (hi : S[i]? = some (l, c)) {j : Nat} : InS (S.set i (l, c')) j g ↔ InS S j g := by
  rw [in_set (List.getElem?_eq_some_iff.1 hi).1]
  split
  · subst_vars
    exact ⟨fun h => ⟨l, c, hi, h⟩, fun ⟨l2, c2, h1, h2⟩ => by rw [hi] at h1; cases h1; exact h2⟩
  · rfl
/-- A count turns. -/
theorem SemF.count (hf : SemF rs wm S) (hi : S[i]? = some (l, c)) (hr : rs[i]? = some (x, h, t, c)) (hl : LnF x h t l) (hc : 0 ≤ c' ∧ c' ≤ 1073741824) : SemF (rs.set i (x, h, t, c')) wm (S.set i (l, c')) := by
  have hu : ∀ a b g, InS (S.set i (l, c')) a g → InS (S.set i (l, c')) b g → a = b := fun a b g h1 h2 => hf.uniq a b g ((in_same hi).1 h1) ((in_same hi).1 h2)
  refine hf.set hi hl hc (fun g => ?_) hf.wnd hu
  rw [hf.wh]
  congr 1
  refine (where_of fun k => ?_).symm
  rw [where_iff hu, where_iff hf.uniq]
  exact in_same hi
/-- One more waits. -/
theorem SemF.push (hf : SemF rs wm S) (hi : S[i]? = some (l, c)) {x' : MapO} {h' t' : Int} (hl : LnF x' h' t' (l ++ [y])) (hy : whereOf S y = none) : SemF (rs.set i (x', h', t', c)) (mset wm y (.int .i64 (i : Int))) (S.set i (l ++ [y], c)) := by
  have hil := (List.getElem?_eq_some_iff.1 hi).1
  have hin : ∀ j g, InS (S.set i (l ++ [y], c)) j g ↔ (j = i ∧ g = y) ∨ InS S j g := by
    intro j g
    rw [in_set hil]
    split
    · subst_vars
      rw [List.mem_append, List.mem_singleton]
      constructor
      · rintro (h | h)
        · exact .inr ⟨l, c, hi, h⟩
        · exact .inl ⟨rfl, h⟩
      · rintro (h | ⟨l2, c2, h1, h2⟩)
        · exact .inr h.2
        · rw [hi] at h1; cases h1; exact .inl h2
    · rename_i hj
      exact ⟨.inr, fun h => h.elim (fun h => absurd h.1 hj) id⟩
  have hny := where_none.1 hy
  have hu : ∀ a b g, InS (S.set i (l ++ [y], c)) a g → InS (S.set i (l ++ [y], c)) b g → a = b := by
    intro a b g h1 h2
    rcases (hin _ _).1 h1 with h1 | h1 <;> rcases (hin _ _).1 h2 with h2 | h2
    · omega
    · rw [h1.2] at h2; exact absurd h2 (hny _)
    · rw [h2.2] at h1; exact absurd h1 (hny _)
    · exact hf.uniq _ _ _ h1 h2
  refine hf.set hi hl (hf.cnt i l c hi) (fun g => ?_) (mkeys_mset_nd hf.wnd) hu
  rw [mget_mset, hf.wh]
  split
  · subst_vars
    rw [(where_iff hu).2 ((hin i g).2 (.inl ⟨rfl, rfl⟩))]; rfl
  · rename_i hg
    congr 1
    refine (where_of fun k => ?_).symm
    rw [where_iff hu, where_iff hf.uniq, hin]
    exact ⟨fun h => h.elim (fun h => absurd h.2 hg) id, .inr⟩
/-- One waits no more. -/
theorem SemF.leave (hf : SemF rs wm S) (hi : S[i]? = some (l, c)) {x' : MapO} {h' t' : Int} (hl : LnF x' h' t' (l.erase y)) (hn : l.Nodup) (hy : y ∈ l) : SemF (rs.set i (x', h', t', c)) (mdel wm y) (S.set i (l.erase y, c)) := by
  have hil := (List.getElem?_eq_some_iff.1 hi).1
  have hin : ∀ j g, InS (S.set i (l.erase y, c)) j g ↔ g ≠ y ∧ InS S j g := by
    intro j g
    rw [in_set hil]
    split
    · subst_vars
      rw [hn.mem_erase_iff]
      constructor
      · rintro ⟨h1, h2⟩; exact ⟨h1, l, c, hi, h2⟩
      · rintro ⟨h1, l2, c2, h3, h2⟩
        rw [hi] at h3; cases h3; exact ⟨h1, h2⟩
    · rename_i hj
      refine ⟨fun h => ⟨fun e => ?_, h⟩, fun h => h.2⟩
      subst e
      exact hj (hf.uniq _ _ _ h ⟨l, c, hi, hy⟩)
  have hu : ∀ a b g, InS (S.set i (l.erase y, c)) a g → InS (S.set i (l.erase y, c)) b g → a = b := fun a b g h1 h2 => hf.uniq _ _ _ ((hin _ _).1 h1).2 ((hin _ _).1 h2).2
  refine hf.set hi hl (hf.cnt i l c hi) (fun g => ?_) (by rw [mkeys_mdel]; exact hf.wnd.erase _) hu
  rw [mget_mdel hf.wnd, hf.wh]
  split
  · subst_vars
    rw [where_none.2 fun j h => ((hin _ _).1 h).1 rfl]; rfl
  · rename_i hg
    congr 1
    refine (where_of fun k => ?_).symm
    rw [where_iff hu, where_iff hf.uniq, hin]
    exact ⟨fun h => h.2, fun h => ⟨hg, h⟩⟩
theorem sem_shut (hf : SemF rs wm S) : Ent (SemX p rs S.length bw wm) (SemAt p S) :=
  (Ent.fact_in hf).trans (Ent.ex_in (G := fun x : List RowC × Nat × Assoc => fact (SemF x.1 x.2.2 S) (SemX p x.1 S.length x.2.1 x.2.2)) (rs, bw, wm))
theorem Does.sem (k : ∀ rs bw wm, SemF rs wm S → Does Try.prog B f args (SemX p rs S.length bw wm + F) R) : Does Try.prog B f args (SemAt p S + F) R := by
  unfold SemAt
  refine Does.ex fun y => Does.fact fun hy => k _ _ _ hy
/-- It is looked at alone. -/
theorem Does.semRead [i : HasAt SemAt H p S F] {v : Value} (k : ∀ rs bw wm, SemF rs wm S → Does Try.prog B f args (SemX p rs S.length bw wm + F) fun r H' => H' = SemX p rs S.length bw wm + F ∧ r = v) : Does Try.prog B f args H fun r H' => H' = H ∧ r = v := by
  rw [i.eq]
  refine Does.sem fun rs bw wm hf => (k rs bw wm hf).weak fun r H1 ⟨e, hr⟩ => ⟨_, ?_, rfl, hr⟩
  rw [e]
  exact (sem_shut hf).frame_right F
theorem semX_set {r : RowC} (hr : rs[i]? = some r) {x' : MapO} {h' t' c' : Int} {wm' : Assoc} :
    SemX p (rs.set i (x', h', t', c')) n bw wm' = blk p (cellsOf (rs.take i) ++ mapV x' :: .int .i64 h' :: .int .i64 t' :: (.int .i64 c' :: (cellsOf (rs.drop (i + 1)) ++ [.int .i64 (n : Int), .map (some bw)]))) 85 + (mapH x' + (mapsH (rs.take i) + (mapsH (rs.drop (i + 1)) + MapAt bw wm'))) := by
  have hil := (List.getElem?_eq_some_iff.1 hr).1
  rw [semX_row (i := i) (x := x') (h := h') (t := t') (c := c') (by rw [List.getElem?_set, if_pos rfl, if_pos hil])]
  rw [List.take_set_of_le (Nat.le_refl _), List.drop_set_of_lt (by omega)]
end
end Go.Proofs.Ytlhnmbajbhaaoaa
