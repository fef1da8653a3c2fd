/- Taking from a deque; putting; a copy; two alike; moving. No condition. -/
import Derived.Test.YtcnpcmdcbafaeaaDDq4
import Derived.Test.YtcnpcmdcbafaeaaDLib
namespace Go.Proofs.Ytcnpcmdcbafaeaa
open Go Go.SL
set_option linter.unusedSimpArgs false
set_option linter.unusedVariables false
set_option maxRecDepth 10000
set_option maxHeartbeats 1000000
attribute [local irreducible] WP WPL QSeq QBlk QRet Does Cell Cells Rd Mine Ent Aside RV DqX DqAt Yield

section
variable {B : World} {F H G : HProp} {p q : Nat} {b : Bk} {L S : List Int} {h t g : Int} {x y : DqS}
theorem DqF.gain (k : DqF q L h t S) {m : Nat} (hm : m ≤ L.length) : DqF q (L.drop m) ((h + m) % 4294967296) t S := by
  have hq := k.q2
  have hh := k.hh
  have hf := k.fits
  refine ⟨k.room, by unfold U32; omega, k.len, by simp; omega, ?_, ?_⟩
  · have := k.tail
    simp only [List.length_drop]
    omega
  · intro i hi
    simp only [List.length_drop] at hi
    have e : (((h + m) % 4294967296).toNat + i) % q = (h.toNat + (m + i)) % q := by
      rw [← Nat.mod_add_mod, k.place m, Nat.mod_add_mod, Nat.add_assoc]
    rw [e, k.at_ (m + i) (by omega)]
    simp
theorem DqF.drop (k : DqF q L h t S) {m : Nat} (hm : m ≤ L.length) : DqF q (L.take (L.length - m)) h ((t - m) % 4294967296) S := by
  have hq := k.q2
  have hh := k.hh
  have hf := k.fits
  unfold U32 at hh
  refine ⟨k.room, by unfold U32; omega, k.len, by simp; omega, ?_, ?_⟩
  · have := k.tail
    simp only [List.length_take]
    omega
  · intro i hi
    simp only [List.length_take] at hi
    rw [k.at_ i (by omega), List.getElem_take]

theorem takeX (hf : DqF q L h t S) {m : Nat} (hm : m ≤ L.length) : Does Try.prog B 33 [ptr p, .int .i64 m] (DqX p q h t b S + F)
    fun r H' => H' = Mine 3 1 r m (zs (L.take m)) + (DqX p q ((h + m) % 4294967296) t b S + F) := by
  have hq := hf.q2
  have hfit := hf.fits
  refine fn_intro 23 Try.func33 rfl rfl rfl ?_
  refine walk ?_
  refine s_call rfl (allX hf) rfl ?_
  rintro _ _ rfl
  refine walk ?_
  refine WPL.shape ?_
  rintro ao cap rfl _ hc _
  refine walk ?_
  (apply s_sliceH (h := m); (· exact rfl); (· exact rfl); (· omega); (· omega); (· exact rfl))
  unfold DqX
  refine walk ?_
  refine s_call rfl (gain_spec (n := (m : Int)) hf.hh hf.ht (by unfold U32; omega)) rfl ?_
  rintro _ _ ⟨e_, rfl⟩
  obtain rfl := e_.symm
  refine walk ?_
  refine s_store (v := wd _ _) (cs' := [wd ((h + m) % 4294967296) t, .slice (some ⟨b.b, 0, none⟩) q b.cap]) rfl rfl rfl (by simp) rfl ?_
  refine walk ?_
  refine QRet.ent ?_ (ret1 (v := .slice _ _ _) (.inr rfl) rfl rfl rfl)
  simp only [HProp.add_assoc]
  refine Ent.trans (Ent.ac (show _ = Mine 3 1 (.slice ao L.length cap) L.length (zs L) + (blk p [wd ((h + m) % 4294967296) t, .slice (some ⟨b.b, 0, none⟩) q b.cap] 58 + (blk b.b (zs S ++ b.sp) 3 + F)) by ac_rfl)) ?_
  refine Ent.step (A := Mine 3 1 (.slice ao L.length cap) L.length (zs L)) ?_ Ent.auto
  have e := Mine.cut (e := 3) (sz := 1) (ao := ao) (cap := cap) (cs := zs L) hm
  rwa [Nat.mul_one, zs_take] at e

theorem dGet [i : HasAt DqAt H p x F] : Does Try.prog B 12 [ptr p] H fun r H' =>
    (x.l = [] ∧ H' = H ∧ r = .tuple #[.int .i64 0, .bool false]) ∨ ∃ y l, x.l = y :: l ∧ H' = DqAt p ⟨x.q, l⟩ + F ∧ r = .tuple #[.int .i64 y, .bool true] := by
  obtain ⟨q, L⟩ := x
  rw [i.eq]
  refine Does.dq fun h t b S (hf : DqF q L h t S) => ?_
  show Does Try.prog B 12 _ (DqX p q h t b S + F) _
  refine fn_intro 11 Try.func12 rfl rfl rfl ?_
  refine walk ?_
  refine s_call rfl (lenX hf) rfl ?_
  rintro _ _ ⟨e_, rfl⟩
  obtain rfl := e_.symm
  refine walk ?_
  cases L with
  | nil =>
    have e0 : ([] : List Int).length = 0 := rfl
    rw [e0]
    refine walk ?_
    exact QRet.ent ((dq_shut (x := ⟨q, []⟩) hf).frame_right F) (ret2 (v := .int _ _) (x := .bool _) (.inr rfl) rfl rfl rfl (.inl ⟨rfl, rfl, rfl⟩))
  | cons y l =>
    have e0 : (y :: l).length = l.length + 1 := rfl
    rw [e0]
    refine walk ?_
    have ht := takeX (p := p) (b := b) (B := B) (F := F) hf (m := 1) (by simp)
    refine s_call rfl ht rfl ?_
    rintro r _ rfl
    refine WPL.shape ?_
    rintro ao cap rfl _ hc hm
    refine WPL.open (by omega) ?_
    rintro bo sp rfl hsp
    have e1 : zs ((y :: l).take 1) = [.int .i64 y] := rfl
    rw [e1]
    refine walk ?_
    (apply s_indexAddr (j := 0) (o' := 0); (· exact rfl); (· exact rfl); (· omega); (· omega); (· omega); (· exact rfl))
    refine s_load (v := .int .i64 y) rfl (Cell.blk rfl) rfl ?_
    refine walk ?_
    refine QRet.ent ?_ (ret2 (v := .int _ _) (x := .bool _) (.inr rfl) rfl rfl rfl (.inr ⟨y, l, rfl, rfl, rfl⟩))
    exact (Ent.drop_left _ _).trans ((dq_shut (x := ⟨q, l⟩) (hf.gain (m := 1) (by simp))).frame_right F)
/-- The older part. -/
def older (l : List Int) : Nat := l.length - l.length / 2
theorem dSteal [i : HasAt DqAt H p x F] : Does Try.prog B 13 [ptr p] H fun r H' => H' = Mine 3 1 r (older x.l) (zs (x.l.take (older x.l))) + (DqAt p ⟨x.q, x.l.drop (older x.l)⟩ + F) := by
  obtain ⟨q, L⟩ := x
  rw [i.eq]
  refine Does.dq fun h t b S (hf : DqF q L h t S) => ?_
  show Does Try.prog B 13 _ (DqX p q h t b S + F) fun r H' => H' = Mine 3 1 r (older L) (zs (L.take (older L))) + (DqAt p ⟨q, L.drop (older L)⟩ + F)
  have hq := hf.q2
  have hfit := hf.fits
  have hcount := hf.count
  have ho : older L ≤ L.length := by unfold older; omega
  refine fn_intro 16 Try.func13 rfl rfl rfl ?_
  refine walk ?_
  refine s_call rfl (lenX hf) rfl ?_
  rintro _ _ ⟨e_, rfl⟩
  obtain rfl := e_.symm
  refine walk ?_
  by_cases h0 : L.length = 0
  · have : L = [] := by simpa using h0
    subst this
    refine walk ?_
    refine QRet.ent ?_ (ret1 (v := .slice none 0 0) (.inr rfl) rfl rfl rfl)
    show Ent _ (Mine 3 1 (.slice none 0 0) 0 [] + _)
    rw [Mine.nil, HProp.emp_add]
    exact (dq_shut (x := ⟨q, []⟩) hf).frame_right F
  · have hc1 : Cell B (DqX p q h t b S) p 0 (wd h t) := by unfold DqX; exact Cell.blk rfl
    refine walk ?_
    refine s_call rfl (len_spec hf.hh hf.ht) rfl ?_
    rintro _ _ ⟨e_, rfl⟩
    obtain rfl := e_.symm
    refine walk ?_
    rw [hcount]
    refine s_call rfl (older_spec (n := (L.length : Int)) (by unfold U32; omega)) rfl ?_
    rintro _ _ ⟨e_, rfl⟩
    obtain rfl := e_.symm
    refine walk ?_
    have eo : (L.length : Int) - (L.length : Int) / 2 = (older L : Nat) := by unfold older; omega
    rw [eo]
    refine walk ?_
    refine s_call rfl (takeX hf ho) rfl ?_
    rintro r _ rfl
    refine walk ?_
    refine QRet.ent ?_ (ret1 (.inr rfl) rfl rfl rfl)
    exact ((dq_shut (x := ⟨q, L.drop (older L)⟩) (hf.gain ho)).frame_right F).frame_left _
/-- One more: what is taken away, what is left. -/
def putD (q : Nat) (l : List Int) (g : Int) : List Int × List Int := if l.length < q then ([], l ++ [g]) else (l.drop (q / 2) ++ [g], l.take (q / 2))
theorem dPut [i : HasAt DqAt H p x F] : Does Try.prog B 10 [ptr p, .int .i64 g] H fun r H' => H' = Mine 3 1 r (putD x.q x.l g).1.length (zs (putD x.q x.l g).1) + (DqAt p ⟨x.q, (putD x.q x.l g).2⟩ + F) := by
  obtain ⟨q, L⟩ := x
  rw [i.eq]
  refine Does.dq fun h t b S (hf : DqF q L h t S) => ?_
  show Does Try.prog B 10 _ (DqX p q h t b S + F) fun r H' => H' = Mine 3 1 r (putD q L g).1.length (zs (putD q L g).1) + (DqAt p ⟨q, (putD q L g).2⟩ + F)
  have hq := hf.q2
  have hfit := hf.fits
  have hev := room_even hf.room
  have hc1 : Cell B (DqX p q h t b S) p 0 (wd h t) := by unfold DqX; exact Cell.blk rfl
  have hc2 : Cell B (DqX p q h t b S) p 1 (.slice (some ⟨b.b, 0, none⟩) q b.cap) := by unfold DqX; exact Cell.blk rfl
  refine fn_intro 48 Try.func10 rfl rfl rfl ?_
  refine walk ?_
  by_cases hlt : L.length < q
  · skip
    (refine wp_draw [1] (.look 0 (.look 2 (.look 3 (.look 4 (.look 5 (.look 6 (.act 1 (.look 7 (.look 8 .nil)) .stop))))))) (by kernel_rfl) ?_; (apply dw_pure; (· exact rfl); (· exact rfl); (· (intro G; exact looked))); (apply dw_pure; (· exact rfl); (· exact rfl); (· (intro G; exact looked))); (apply dw_pure; (· exact rfl); (· exact rfl); (· (intro G; exact looked))); (apply dw_pure; (· exact rfl); (· exact rfl); (· (intro G; exact looked))); (apply dw_look; (· exact rfl); (· exact rfl); (· exact looked)); (apply dw_pure; (· exact rfl); (· exact rfl); (· (intro G; exact looked))); skip)
    refine dw_do rfl rfl ?_ dw_stop
    refine s_call rfl (lenX hf) rfl ?_
    rintro _ _ ⟨e_, rfl⟩
    obtain rfl := e_.symm
    refine wpl_nil (qone ⟨(by (refine st_again ?_ ?_; (· exact looked)); exact st_nil), ?_⟩)
    ((apply dw_pure; (· exact rfl); (· exact rfl); (· (intro G; exact looked))); (apply dw_pure; (· exact rfl); (· exact rfl); (· (intro G; exact looked))); refine dw_nil ?_; skip)
    refine walk ?_
    refine s_call rfl (growX hf hlt) rfl ?_
    rintro _ _ rfl
    refine walk ?_
    refine QRet.ent ?_ (ret1 (v := .slice none 0 0) (.inr rfl) rfl rfl rfl)
    have e : putD q L g = ([], L ++ [g]) := by unfold putD; rw [if_pos hlt]
    rw [e]
    show Ent _ (Mine 3 1 (.slice none 0 0) 0 [] + _)
    rw [Mine.nil, HProp.emp_add]
    exact (dq_shut (x := ⟨q, L ++ [g]⟩) (hf.push hlt g)).frame_right F
  · have hle : L.length = q := by omega
    have hh2 : q / 2 ≤ L.length := by omega
    have hdl : (L.drop (q / 2)).length = q / 2 := by simp; omega
    (refine wp_draw [1] (.look 0 (.look 2 (.look 3 (.look 4 (.look 5 (.look 6 (.act 1 (.look 7 (.look 8 .nil)) .stop))))))) (by kernel_rfl) ?_; (apply dw_pure; (· exact rfl); (· exact rfl); (· (intro G; exact looked))); (apply dw_pure; (· exact rfl); (· exact rfl); (· (intro G; exact looked))); (apply dw_pure; (· exact rfl); (· exact rfl); (· (intro G; exact looked))); (apply dw_pure; (· exact rfl); (· exact rfl); (· (intro G; exact looked))); (apply dw_look; (· exact rfl); (· exact rfl); (· exact looked)); (apply dw_pure; (· exact rfl); (· exact rfl); (· (intro G; exact looked))); skip)
    refine dw_do rfl rfl ?_ dw_stop
    refine s_call rfl (lenX hf) rfl ?_
    rintro _ _ ⟨e_, rfl⟩
    obtain rfl := e_.symm
    refine wpl_nil (qone ⟨(by (refine st_again ?_ ?_; (· exact looked)); exact st_nil), ?_⟩)
    ((apply dw_pure; (· exact rfl); (· exact rfl); (· (intro G; exact looked))); (apply dw_pure; (· exact rfl); (· exact rfl); (· (intro G; exact looked))); refine dw_nil ?_; skip)
    refine walk ?_
    rw [show (q : Int) / 2 = ((q / 2 : Nat) : Int) by omega]
    refine s_call rfl (from_spec) rfl ?_
    rintro _ _ ⟨bn, bd, rfl, rfl⟩
    refine walk ?_
    refine s_call rfl (rowFrom (n := q / 2) hf hh2) rfl ?_
    rintro _ _ rfl
    refine walk ?_
    refine s_buildInts (cs := [.int .i64 g]) rfl rfl rfl rfl rfl ?_
    intro bb
    rename_i r_
    refine s_append (v := r_) rfl rfl (Rd.blk0 (m := 1) (e := 3) rfl (by simp [maxLen])) rfl rfl ?_ rfl ?_
    · simp only [maxLen]; omega
    intro v'
    unfold DqX
    refine walk ?_
    refine s_call rfl (drop_spec (n := ((q / 2 : Nat) : Int)) hf.hh hf.ht (by unfold U32; omega)) rfl ?_
    rintro _ _ ⟨e_, rfl⟩
    obtain rfl := e_.symm
    refine walk ?_
    refine s_store (v := wd _ _) (cs' := [wd h ((t - ((q / 2 : Nat) : Int)) % 4294967296), .slice (some ⟨b.b, 0, none⟩) q b.cap]) rfl rfl rfl (by simp) rfl ?_
    refine walk ?_
    refine QRet.ent ?_ (ret1 (v := v') (.inr rfl) rfl rfl rfl)
    have e : putD q L g = (L.drop (q / 2) ++ [g], L.take (q / 2)) := by unfold putD; rw [if_neg hlt]
    rw [e]
    simp only [zs_push, len_push]
    have hnew := hf.drop hh2
    have e2 : L.length - q / 2 = q / 2 := by omega
    rw [e2] at hnew
    have esh := dq_shut (p := p) (b := b) (x := ⟨q, L.take (q / 2)⟩) hnew
    unfold DqX at esh
    simp only [HProp.add_assoc] at esh ⊢
    refine Ent.trans (Ent.ac (show _ = Mine 3 1 v' ((L.drop (q / 2)).length + 1) (zs (L.drop (q / 2)) ++ [.int .i64 g]) + ((blk p [wd h ((t - ((q / 2 : Nat) : Int)) % 4294967296), .slice (some ⟨b.b, 0, none⟩) q b.cap] 58 + blk b.b (zs S ++ b.sp) 3) + (blk bb [.int .i64 g] 3 + F)) by ac_rfl)) ?_
    refine Ent.step (Ent.refl _) (esh.add (Ent.drop_left _ _))
theorem dCopy [i : HasAt DqAt H p x F] : Does Try.prog B 15 [ptr p] H fun r H' => ∃ p', r = ptr p' ∧ H' = DqAt p' x + H := by
  obtain ⟨q, L⟩ := x
  rw [i.eq]
  refine Does.dq fun h t b S (hf : DqF q L h t S) => ?_
  show Does Try.prog B 15 _ (DqX p q h t b S + F) fun r H' => ∃ p', r = ptr p' ∧ H' = DqAt p' ⟨q, L⟩ + (DqAt p ⟨q, L⟩ + F)
  have hq := hf.q2
  have hfit := hf.fits
  have hsl := hf.len
  have hrd : Rd B (DqX p q h t b S) 1 (.slice (some ⟨b.b, 0, none⟩) q b.cap) q (zs S) := by
    unfold DqX
    exact Rd.blkPre (by rw [zs_length, hsl, Nat.mul_one]) (by simp only [maxLen]; omega)
  have hc1 : Cells B (DqX p q h t b S) p 0 [wd h t] := by
    unfold DqX
    refine Cells.blk fun j v hj => ?_
    match j, hj with
    | 0, hj => exact hj
  have hc2 : Cell B (DqX p q h t b S) p 1 (.slice (some ⟨b.b, 0, none⟩) q b.cap) := by unfold DqX; exact Cell.blk rfl
  refine fn_intro 16 Try.func15 rfl rfl rfl ?_
  refine walk ?_
  (refine wp_draw [8, 10] (.look 0 (.look 1 (.look 2 (.look 3 (.look 4 (.look 5 (.look 6 (.look 7 (.act 8 (.look 9 (.act 10 (.look 11 .nil) .stop)) .stop))))))))) (by kernel_rfl) ?_; (apply dw_pure; (· exact rfl); (· exact rfl); (· (intro G; exact looked))); (apply dw_pure; (· exact rfl); (· exact rfl); (· (intro G; exact looked))); (apply dw_pure; (· exact rfl); (· exact rfl); (· (intro G; exact looked))); (apply dw_look; (· exact rfl); (· exact rfl); (· exact looked)); (apply dw_pure; (· exact rfl); (· exact rfl); (· (intro G; exact looked))); (apply dw_pure; (· exact rfl); (· exact rfl); (· (intro G; exact looked))); (apply dw_pure; (· exact rfl); (· exact rfl); (· (intro G; exact looked))); (apply dw_look; (· exact rfl); (· exact rfl); (· exact looked)); skip)
  refine dw_do rfl rfl ?_ dw_stop
  refine s_call rfl (cloneInts_spec (hrd.ent InH.ent) (zs_one _) (by omega)) rfl ?_
  rintro r _ rfl
  refine WPL.shape ?_
  rintro ao cap rfl _ hc hm
  refine WPL.open (by omega) ?_
  rintro b' sp rfl hsp
  refine wpl_nil (qone ⟨(by refine st_past (by kernel_rfl) ?_; (refine st_again ?_ ?_; (· exact looked)); exact st_nil), ?_⟩)
  apply dw_pure
  · exact rfl
  · exact rfl
  · intro G
    refine s_build (cs := [wd h t, .slice (some ⟨b', 0, none⟩) q cap]) rfl rfl ?_
    refine wpl_nil ?_
    exact qone_q
  refine dw_do rfl rfl ?_ dw_stop
  refine s_box (cs := [wd h t, .slice (some ⟨b', 0, none⟩) q cap]) rfl rfl rfl ?_
  intro p'
  refine wpl_nil (qone ⟨(by refine st_past (by kernel_rfl) ?_; refine st_past (by kernel_rfl) ?_; exact st_nil), ?_⟩)
  ((apply dw_pure; (· exact rfl); (· exact rfl); (· (intro G; exact looked))); refine dw_nil ?_; skip)
  refine walk ?_
  refine QRet.ent ?_ (ret1 (v := .pointer _) (.inr rfl) rfl rfl ⟨p', rfl, rfl⟩)
  have e1 := dq_shut (p := p') (b := ⟨b', cap, sp⟩) (x := ⟨q, L⟩) hf
  unfold DqX at e1
  refine Ent.trans (Ent.ac (show _ = (blk p' [wd h t, .slice (some ⟨b', 0, none⟩) q cap] 58 + blk b' (zs S ++ sp) 3) + (DqX p q h t b S + F) by ac_rfl)) ?_
  exact e1.add ((dq_shut (x := ⟨q, L⟩) hf).frame_right F)
end
end Go.Proofs.Ytcnpcmdcbafaeaa
