/- A deque in memory; its length, its room; one more at its end. No condition. -/
import Derived.Test.YtcnpcmdcbafaeaaDWord
namespace Go.Proofs.Ytcnpcmdcbafaeaa
open Go Go.SL
set_option linter.unusedSimpArgs false
set_option linter.unusedVariables false
set_option maxRecDepth 10000
set_option maxHeartbeats 1000000
attribute [local irreducible] WP WPL QSeq QBlk QRet Does Cell Cells Rd Mine Ent Aside RV

abbrev ptr (p : Nat) : Value := .pointer (some ⟨p, 0, none⟩)
/-- Where the slots lie. -/
structure Bk where
  b : Nat
  cap : Nat
  sp : List Value
def DqX (p q : Nat) (h t : Int) (b : Bk) (S : List Int) : HProp := blk p [wd h t, .slice (some ⟨b.b, 0, none⟩) q b.cap] 58 + blk b.b (zs S ++ b.sp) 3
/-- What is known of it: L: its row. -/
structure DqF (q : Nat) (L : List Int) (h t : Int) (S : List Int) : Prop where
  room : isRoom q = true
  hh : U32 h
  len : S.length = q
  fits : L.length ≤ q
  tail : t = (h + L.length) % 4294967296
  at_ : ∀ i (hi : i < L.length), S[(h.toNat + i) % q]? = some L[i]
structure DqS where
  q : Nat
  l : List Int
def DqAt (p : Nat) (x : DqS) : HProp := ex fun y : Int × Int × Bk × List Int => fact (DqF x.q x.l y.1 y.2.1 y.2.2.2) (DqX p x.q y.1 y.2.1 y.2.2.1 y.2.2.2)

section
variable {ro : Option Nat} {B : World} {F H G : HProp} {p q : Nat} {b : Bk} {L S : List Int} {h t : Int} {f : FuncId} {args : List Value} {R : Value → HProp → Prop} {n : Nat} {ops : Array Oper} {l : List Oper} {c : Code} {fr : Fr} {Q : Post} {x : DqS}
theorem DqF.ht (k : DqF q L h t S) : U32 t := by have := k.tail; unfold U32; omega
theorem DqF.q2 (k : DqF q L h t S) : 2 ≤ q ∧ q ≤ 65536 := room_bound k.room
theorem DqF.count (k : DqF q L h t S) : (t - h) % 4294967296 = L.length := by
  have h1 := k.tail
  have h2 := k.fits
  have h3 := k.q2
  have h4 := k.hh
  unfold U32 at h4
  omega
theorem dq_shut (k : DqF x.q x.l h t S) : Ent (DqX p x.q h t b S) (DqAt p x) :=
  (Ent.fact_in k).trans (Ent.ex_in (G := fun y : Int × Int × Bk × List Int => fact (DqF x.q x.l y.1 y.2.1 y.2.2.2) (DqX p x.q y.1 y.2.1 y.2.2.1 y.2.2.2)) (h, t, b, S))
theorem Does.dq (k : ∀ h t b S, DqF x.q x.l h t S → Does Try.prog B f args (DqX p x.q h t b S + F) R) : Does Try.prog B f args (DqAt p x + F) R := by
  unfold DqAt
  refine Does.ex fun y => Does.fact fun hy => k _ _ _ _ hy
theorem WPL.dq (k : ∀ h t b S, DqF x.q x.l h t S → WPL ro Try.prog B n ops l fr (DqX p x.q h t b S + F) Q) : WPL ro Try.prog B n ops l fr (DqAt p x + F) Q := by
  unfold DqAt
  refine WPL.ex fun y => WPL.fact fun hy => k _ _ _ _ hy
/-- It is looked at alone. -/
theorem Does.dqRead [i : HasAt DqAt H p x F] {v : Value} (k : ∀ h t b S, DqF x.q x.l h t S → Does Try.prog B f args (DqX p x.q h t b S + F) fun r H' => H' = DqX p x.q h t b S + F ∧ r = v) : Does Try.prog B f args H fun r H' => H' = H ∧ r = v := by
  rw [i.eq]
  refine Does.dq fun h t b S hf => (k h t b S hf).weak fun r H1 ⟨e, hr⟩ => ⟨_, ?_, rfl, hr⟩
  rw [e]
  exact (dq_shut hf).frame_right F

theorem lenX (k : DqF q L h t S) : Does Try.prog B 26 [ptr p] (DqX p q h t b S + F) fun r H' => H' = DqX p q h t b S + F ∧ r = .int .i64 L.length := by
  have hq := k.q2
  have hl := k.fits
  have hc := k.count
  have e46 : Does Try.prog B 46 [ptr p] (DqX p q h t b S + F) fun r H' => H' = DqX p q h t b S + F ∧ r = .int .i64 L.length := by
    unfold DqX
    refine fn_intro 9 Try.func46 rfl rfl rfl ?_
    refine walk ?_
    refine s_call rfl (len_spec k.hh k.ht) rfl ?_
    rintro _ _ ⟨e_, rfl⟩
    obtain rfl := e_.symm
    refine walk ?_
    rw [hc]
    refine walk ?_
    exact ret1 (v := .int _ _) (.inr rfl) rfl rfl ⟨rfl, rfl⟩
  refine fn_intro 9 Try.func26 rfl rfl rfl ?_
  refine walk ?_
  refine s_call rfl (e46) rfl ?_
  rintro _ _ ⟨e_, rfl⟩
  obtain rfl := e_.symm
  refine walk ?_
  exact ret1 (v := .int _ _) (.inr rfl) rfl rfl ⟨rfl, rfl⟩
theorem dLen [HasAt DqAt H p x F] : Does Try.prog B 26 [ptr p] H fun r H' => H' = H ∧ r = .int .i64 x.l.length := Does.dqRead fun _ _ _ _ hf => lenX hf
theorem dLen_nil : Does Try.prog B 26 [.pointer none] H fun r H' => H' = H ∧ r = .int .i64 0 := by
  refine fn_intro 9 Try.func26 rfl rfl rfl ?_
  refine walk ?_
  exact ret1 (v := .int _ _) (.inr rfl) rfl rfl ⟨rfl, rfl⟩
theorem roomX : Does Try.prog B 25 [ptr p] (DqX p q h t b S + F) fun r H' => H' = DqX p q h t b S + F ∧ r = .int .i64 q := by
  unfold DqX
  refine fn_intro 10 Try.func25 rfl rfl rfl ?_
  refine walk ?_
  exact ret1 (v := .int _ _) (.inr rfl) rfl rfl ⟨rfl, rfl⟩
theorem dRoom [HasAt DqAt H p x F] : Does Try.prog B 25 [ptr p] H fun r H' => H' = H ∧ r = .int .i64 x.q := Does.dqRead fun _ _ _ _ hf => roomX
theorem dRoom_nil : Does Try.prog B 25 [.pointer none] H fun r H' => H' = H ∧ r = .int .i64 0 := by
  refine fn_intro 10 Try.func25 rfl rfl rfl ?_
  refine walk ?_
  exact ret1 (v := .int _ _) (.inr rfl) rfl rfl ⟨rfl, rfl⟩

/-- Places of a ring. -/
theorem place_ne {q a i n : Nat} (hi : i < n) (hn : n < q) : (a + i) % q ≠ (a + n) % q := by
  intro e
  have h1 : (a + n) = (a + i) + (n - i) := by omega
  have key : (a + n) % q = ((a + i) % q + (n - i)) % q := by rw [Nat.mod_add_mod, ← h1]
  rw [key] at e
  have hm := Nat.mod_lt (a + i) (show q > 0 by omega)
  generalize (a + i) % q = r at e hm
  rcases Nat.lt_or_ge (r + (n - i)) q with h | h
  · rw [Nat.mod_eq_of_lt h] at e; omega
  · rw [Nat.mod_eq_sub_mod h, Nat.mod_eq_of_lt (by omega)] at e; omega
theorem DqF.place (k : DqF q L h t S) (i : Nat) : ((h + i) % 4294967296).toNat % q = (h.toNat + i) % q := by
  obtain ⟨a, rfl⟩ := Int.eq_ofNat_of_zero_le k.hh.1
  have e : (((a : Int) + i) % 4294967296).toNat = (a + i) % 4294967296 := by omega
  rw [e, mod_room k.room]
  rfl
theorem DqF.push (k : DqF q L h t S) (hlt : L.length < q) (g : Int) : DqF q (L ++ [g]) h ((t + 1) % 4294967296) (S.set ((h.toNat + L.length) % q) g) := by
  have hq := k.q2
  refine ⟨k.room, k.hh, by simp [k.len], by simp; omega, ?_, ?_⟩
  · have := k.tail
    simp only [List.length_append, List.length_cons, List.length_nil]
    omega
  · intro i hi
    simp only [List.length_append, List.length_cons, List.length_nil] at hi
    have hm := Nat.mod_lt (h.toNat + L.length) (show q > 0 by omega)
    by_cases e : i = L.length
    · subst e
      rw [List.getElem?_set_self (by rw [k.len]; exact hm)]
      simp
    · have hi' : i < L.length := by omega
      rw [List.getElem?_set_ne (fun e' => place_ne hi' hlt e'.symm), k.at_ i hi', List.getElem_append_left hi']
theorem growX (k : DqF q L h t S) (hlt : L.length < q) {g : Int} : Does Try.prog B 29 [ptr p, .int .i64 g] (DqX p q h t b S + F) fun r H' => H' = DqX p q h ((t + 1) % 4294967296) b (S.set ((h.toNat + L.length) % q) g) + F := by
  have hq := k.q2
  have hm := Nat.mod_lt (h.toNat + L.length) (show q > 0 by omega)
  have e : t.toNat % q = (h.toNat + L.length) % q := by rw [k.tail]; exact k.place _
  have hsl := k.len
  unfold DqX
  refine fn_intro 32 Try.func29 rfl rfl rfl ?_
  refine walk ?_
  (refine wp_draw [9, 15, 18] (.look 0 (.look 1 (.look 2 (.look 3 (.look 4 (.look 5 (.look 6 (.look 7 (.look 8 (.look 10 (.look 11 (.look 12 (.look 13 (.look 14 (.look 16 (.act 9 (.act 15 (.look 17 (.act 18 .nil .stop)) .stop) .stop)))))))))))))))) (by kernel_rfl) ?_; (apply dw_pure; (· exact rfl); (· exact rfl); (· (intro G; exact looked))); (apply dw_pure; (· exact rfl); (· exact rfl); (· (intro G; exact looked))); (apply dw_pure; (· exact rfl); (· exact rfl); (· (intro G; exact looked))); (apply dw_look; (· exact rfl); (· exact rfl); (· exact looked)); (apply dw_pure; (· exact rfl); (· exact rfl); (· (intro G; exact looked))); (apply dw_pure; (· exact rfl); (· exact rfl); (· (intro G; exact looked))); (apply dw_pure; (· exact rfl); (· exact rfl); (· (intro G; exact looked))); (apply dw_pure; (· exact rfl); (· exact rfl); (· (intro G; exact looked))); (apply dw_look; (· exact rfl); (· exact rfl); (· exact looked)); (apply dw_pure; (· exact rfl); (· exact rfl); (· (intro G; exact looked))); (apply dw_pure; (· exact rfl); (· exact rfl); (· (intro G; exact looked))); (apply dw_pure; (· exact rfl); (· exact rfl); (· (intro G; exact looked))); (apply dw_look; (· exact rfl); (· exact rfl); (· exact looked)); (apply dw_pure; (· exact rfl); (· exact rfl); (· (intro G; exact looked))); (apply dw_pure; (· exact rfl); (· exact rfl); (· (intro G; exact looked))); skip)
  refine dw_do rfl rfl ?_ dw_stop
  refine s_call rfl (tail_spec k.hh k.ht) rfl ?_
  rintro _ _ ⟨e_, rfl⟩
  obtain rfl := e_.symm
  refine wpl_nil (qone ⟨(by (refine st_again ?_ ?_; (· exact looked)); refine st_past (by kernel_rfl) ?_; (refine st_again ?_ ?_; (· exact looked)); exact st_nil), ?_⟩)
  (skip)
  refine dw_do rfl rfl ?_ dw_stop
  refine s_call rfl (slot_spec k.ht k.room) rfl ?_
  rintro _ _ ⟨e_, rfl⟩
  obtain rfl := e_.symm
  rw [e]
  refine wpl_nil (qone ⟨(by refine st_past (by kernel_rfl) ?_; refine st_past (by kernel_rfl) ?_; (refine st_again ?_ ?_; (· exact looked)); exact st_nil), ?_⟩)
  ((apply dw_pure; (· exact rfl); (· exact rfl); (· (intro G; exact looked))); skip)
  refine dw_do0 rfl rfl ?_ dw_stop
  refine s_store (v := .int _ _) (cs' := zs (S.set ((h.toNat + L.length) % q) g) ++ b.sp) rfl rfl rfl (by rw [List.length_append, zs_length]; omega) (by rw [List.set_append_left _ _ (by rw [zs_length]; omega), zs_set]) ?_
  refine wpl_nil (qone0 ⟨(by refine st_past (by kernel_rfl) ?_; refine st_past (by kernel_rfl) ?_; refine st_past (by kernel_rfl) ?_; exact st_nil), ?_⟩)
  (refine dw_nil ?_; skip)
  refine walk ?_
  refine s_call rfl (grow_spec (n := 1) k.hh k.ht (by unfold U32; omega)) rfl ?_
  rintro _ _ ⟨e_, rfl⟩
  obtain rfl := e_.symm
  refine walk ?_
  refine s_store (v := wd _ _) (cs' := [wd h ((t + 1) % 4294967296), .slice (some ⟨b.b, 0, none⟩) q b.cap]) rfl rfl rfl (by simp) rfl ?_
  refine walk ?_
  refine QRet.ent ?_ (ret0 (H := blk p [wd h ((t + 1) % 4294967296), .slice (some ⟨b.b, 0, none⟩) q b.cap] 58 + blk b.b (zs (S.set ((h.toNat + L.length) % q) g) ++ b.sp) 3 + F) (.inl rfl) rfl rfl)
  exact Ent.auto
end
end Go.Proofs.Ytcnpcmdcbafaeaa
