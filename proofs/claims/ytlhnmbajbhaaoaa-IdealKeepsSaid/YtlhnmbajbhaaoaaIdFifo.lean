/- A line of numbers: what is read. No condition. -/
import Derived.Test.YtlhnmbajbhaaoaaIdCollect
import Derived.Test.YtlhnmbajbhaaoaaSL4
import Derived.Test.YtlhnmbajbhaaoaaSL3
namespace Go.Proofs.Ytlhnmbajbhaaoaa
open Go Go.SL
set_option linter.unusedSimpArgs false
set_option linter.unusedVariables false
set_option maxRecDepth 10000
set_option maxHeartbeats 1000000
attribute [local irreducible] WP WPL QSeq QBlk QRet Does Cell Cells Rd Mine Ent Aside RV Yield
/-- A line's map, where it is laid. -/
abbrev MapO := Option (Nat × Assoc)
def mapV : MapO → Value
  | none => .map none
  | some x => .map (some x.1)
def mapH : MapO → HProp
  | none => emp
  | some x => MapAt x.1 x.2
def LnF (x : MapO) (h t : Int) (L : List Int) : Prop := match x with
  | none => L = []
  | some x => LinkF L x.2 h t
/-- A line is there to read. -/
def LnIn (B : World) (H : HProp) (p o : Nat) (L : List Int) : Prop := ∃ x h t, Cell B H p o (mapV x) ∧ Cell B H p (o + 1) (.int .i64 h) ∧ Cell B H p (o + 2) (.int .i64 t) ∧ LnF x h t L ∧ ∃ F, H = mapH x + F
section
variable {B : World} {F H G : HProp} {p o : Nat} {L : List Int} {y : Int}
theorem look {m : Assoc} {h t : Int} (k : LinkF L m h t) (x : Int) : ∃ a b p q, (mget m x).getD (lk 0 0 false false) = lk a b p q := by
  cases hm : mget m x with
  | none => exact ⟨_, _, _, _, rfl⟩
  | some v =>
    obtain ⟨i, a, b, _, rfl⟩ := k.vals hm
    exact ⟨_, _, _, _, rfl⟩
theorem lnLen (hl : LnIn B H p o L) : Does Try.prog B 92 [.pointer (some ⟨p, o, none⟩)] H fun r H' => H' = H ∧ r = .int .i64 L.length := by
  obtain ⟨x, h, t, c0, c1, c2, hf, F, rfl⟩ := hl
  refine fn_intro 10 Try.func92 rfl rfl rfl ?_
  cases x with
  | none =>
    have c0 : Cell B (mapH none + F) p o (.map none) := c0
    have : L = [] := hf
    subst this
    refine walk ?_
    refine s_mlenN rfl rfl ?_
    refine walk ?_
    (first | refine ret1 (v := .int _ _) (.inr rfl) rfl rfl ?_ | refine ret1  (.inr rfl) rfl rfl ?_ | refine ret1 (v := .int _ _) (.inl rfl) rfl rfl ?_ | refine ret1  (.inl rfl) rfl rfl ?_)
    exact ⟨rfl, rfl⟩
  | some x =>
    obtain ⟨b, m⟩ := x
    have c0 : Cell B (mapH (some (b, m)) + F) p o (.map (some b)) := c0
    have hf : LinkF L m h t := hf
    simp only [mapH] at *
    refine walk ?_
    refine s_mlen rfl rfl ?_
    rw [hf.len]
    refine walk ?_
    (first | refine ret1 (v := .int _ _) (.inr rfl) rfl rfl ?_ | refine ret1  (.inr rfl) rfl rfl ?_ | refine ret1 (v := .int _ _) (.inl rfl) rfl rfl ?_ | refine ret1  (.inl rfl) rfl rfl ?_)
    exact ⟨rfl, rfl⟩
theorem lnHas (hl : LnIn B H p o L) : Does Try.prog B 97 [.pointer (some ⟨p, o, none⟩), .int .i64 y] H fun r H' => H' = H ∧ r = .bool (decide (y ∈ L)) := by
  obtain ⟨x, h, t, c0, c1, c2, hf, F, rfl⟩ := hl
  refine fn_intro 19 Try.func97 rfl rfl rfl ?_
  cases x with
  | none =>
    have c0 : Cell B (mapH none + F) p o (.map none) := c0
    have : L = [] := hf
    subst this
    refine walk ?_
    refine s_mgetN2 rfl rfl rfl ?_
    refine walk ?_
    refine walkG ?_
    repeat ((first | (show WPL _ _ _ _ _ (⟨_, .alloc _, _, _, _, none⟩ :: _) _ _ _; refine s_alloc rfl ?_; intro _)); refine walkG ?_)
    (first | (apply retRD1 (G := (mapH none + F)) (.inr rfl) rfl; (· first | (refine rv_tmp (v := .bool _) rfl) | exact rv_tmp rfl); (· exact Ent.auto)) | (apply retRD1 (G := (mapH none + F)) (.inl rfl) rfl; (· first | (refine rv_tmp (v := .bool _) rfl) | exact rv_tmp rfl); (· exact Ent.auto)))
    exact ⟨rfl, rfl⟩
  | some x =>
    obtain ⟨b, m⟩ := x
    have c0 : Cell B (mapH (some (b, m)) + F) p o (.map (some b)) := c0
    have hf : LinkF L m h t := hf
    simp only [mapH] at *
    obtain ⟨a, b2, p2, q2, hv⟩ := look hf y
    refine walk ?_
    refine s_mget2 rfl rfl hv hf.there rfl ?_
    refine walk ?_
    refine walkG ?_
    repeat ((first | (show WPL _ _ _ _ _ (⟨_, .alloc _, _, _, _, none⟩ :: _) _ _ _; refine s_alloc rfl ?_; intro _)); refine walkG ?_)
    (first | (apply retRD1 (G := (MapAt b m + F)) (.inr rfl) rfl; (· first | (refine rv_tmp (v := .bool _) rfl) | exact rv_tmp rfl); (· exact Ent.auto)) | (apply retRD1 (G := (MapAt b m + F)) (.inl rfl) rfl; (· first | (refine rv_tmp (v := .bool _) rfl) | exact rv_tmp rfl); (· exact Ent.auto)))
    exact ⟨rfl, rfl⟩
theorem lnHead (hl : LnIn B H p o L) : Does Try.prog B 83 [.pointer (some ⟨p, o, none⟩)] H fun r H' => H' = H ∧ ∃ y, (0 < L.length → L[0]? = some y) ∧ r = .tuple #[.int .i64 y, .bool (decide (0 < L.length))] := by
  have hl' := hl
  obtain ⟨x, h, t, c0, c1, c2, hf, F, rfl⟩ := hl
  refine fn_intro 11 Try.func83 rfl rfl rfl ?_
  refine walk ?_
  refine s_call rfl (lnLen hl') rfl ?_
  rintro _ _ ⟨e_, rfl⟩
  obtain rfl := e_.symm
  refine walk ?_
  by_cases h0 : L.length = 0
  · refine walk ?_
    (first | refine ret2 (v := .int _ _) (x := .bool _) (.inr rfl) rfl rfl rfl ?_ | refine ret2  (.inr rfl) rfl rfl rfl ?_ | refine ret2 (v := .int _ _) (x := .bool _) (.inl rfl) rfl rfl rfl ?_ | refine ret2  (.inl rfl) rfl rfl rfl ?_)
    exact ⟨rfl, 0, by omega, by simp [h0]⟩
  · refine walk ?_
    (first | refine ret2 (v := .int _ _) (x := .bool _) (.inr rfl) rfl rfl rfl ?_ | refine ret2  (.inr rfl) rfl rfl rfl ?_ | refine ret2 (v := .int _ _) (x := .bool _) (.inl rfl) rfl rfl rfl ?_ | refine ret2  (.inl rfl) rfl rfl rfl ?_)
    exact ⟨rfl, h, fun _ => by
      cases x with
      | none => exact absurd (congrArg List.length (show L = [] from hf)) h0
      | some x =>
        obtain ⟨y, hy⟩ : ∃ y, L[0]? = some y := ⟨L[0], List.getElem?_eq_getElem (by omega)⟩
        have hf : LinkF L x.2 h t := hf
        rw [hf.hd y hy]; exact hy, by simp; omega⟩
end
end Go.Proofs.Ytlhnmbajbhaaoaa
