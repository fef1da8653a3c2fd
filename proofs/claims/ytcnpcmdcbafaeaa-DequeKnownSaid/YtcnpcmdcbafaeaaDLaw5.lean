/- The law: whatever is called. No condition. -/
import Derived.Test.YtcnpcmdcbafaeaaDPlays0
import Derived.Test.YtcnpcmdcbafaeaaSLAuto
namespace Go.Proofs.Ytcnpcmdcbafaeaa
open Go Go.SL
set_option linter.unusedSimpArgs false
set_option linter.unusedVariables false
set_option maxRecDepth 10000
set_option maxHeartbeats 4000000
theorem cells_act {B : World} {H : HProp} {b o : Nat} {l : List QAct} (h : Cells B H b o (qCells l)) {k : Nat} (hk : k < l.length) : Cells B H b (o + k * 3) [.int .i64 l[k].d, .int .i64 l[k].g, .slice l[k].lo l[k].l.length l[k].cap] := fun w hw j v hj => by
  obtain ⟨c0, c1, c2⟩ := qCells_at l k hk
  have h2 : (qCells l)[k * 3 + j]? = some v := by
    match j, hj with
    | 0, hj => simp at hj; subst hj; exact c0
    | 1, hj => simp at hj; subst hj; exact c1
    | 2, hj => simp at hj; subst hj; exact c2
    | j + 3, hj => simp at hj
  rw [Nat.add_assoc]
  exact h w hw (k * 3 + j) v h2
attribute [local irreducible] WP WPL QSeq QBlk QRet Does Cell Cells Rd Mine Ent Aside RV DqX DqAt Yield
section
variable {B : World} {F H G : HProp} {p : Nat}
theorem RefQ.rd {q : Nat} {L : List Int} {a : Option Addr} {c : Nat} (h : RefQ B G (.agg [.int .i64 q, .slice a L.length c].toArray) q L) : Rd B G 1 (.slice a L.length c) L.length (zs L) := by
  obtain ⟨a', c', e, h1, h2, h3⟩ := h
  simp at e
  obtain ⟨rfl, rfl⟩ := e
  exact h3
theorem dSameL {q m p' : Nat} {L M : List Int} {K : HProp} [HasAt DqAt H p ⟨q, L⟩ F] [HasAt DqAt F p' ⟨m, M⟩ K] : Does Try.prog B 23 [ptr p, ptr p'] H fun r H' => H' = H ∧ r = .bool (decide (q = m ∧ L = M)) := dSame (p := p) (p' := p') (x := ⟨q, L⟩) (y := ⟨m, M⟩)
theorem does_specH {K : HProp} {p' q m : Nat} {L M : List Int} {r s : Value} {d gg : Int} {lo : Option Addr} {lcap : Nat} {l : List Int} (hr : RefQ B G r q L) (hs : RefQ B G s m M) (hl : Rd B G 1 (.slice lo l.length lcap) l.length (zs l)) (hlc : l.length ≤ lcap) (hl80 : l.length ≤ 80)
    (hq : q ≤ 64 ∧ q = q / 2 + q / 2) (hm : m ≤ 64 ∧ m = m / 2 + m / 2) (hLq : L.length ≤ q) (hMm : M.length ≤ m) [i : HasAt DqAt H p ⟨q, L⟩ K] [j : HasAt DqAt K p' ⟨m, M⟩ F] [InH G F] :
    Does Try.prog B 21 [ptr p, ptr p', r, s, .agg [.int .i64 d, .int .i64 gg, .slice lo l.length lcap].toArray] H (Done B F G emp p p' q m) := by
  rw [i.eq, j.eq]
  exact does_spec hr hs hl hlc hl80 hq hm hLq hMm
theorem plays_spec {q n g : Int} {s : Value} {acts : List QAct} {lo : Option Addr} {lcap : Nat} {l : List Int} (hn : 0 ≤ n ∧ n ≤ 255) (hs : Rd B F 3 s acts.length (qCells acts))
    (hacts : ∀ a ∈ acts, a.l.length ≤ a.cap ∧ Rd B F 1 (.slice a.lo a.l.length a.cap) a.l.length (zs a.l)) (hl : Rd B F 1 (.slice lo l.length lcap) l.length (zs l)) (hlc : l.length ≤ lcap) :
    Does Try.prog B 5 [.int .i64 q, .int .u8 n, .slice lo l.length lcap, s, .int .i64 g] F fun r H' => Ent H' F ∧ r = .bool true := by
  have hs' := hs
  unfold Rd at hs'
  obtain ⟨ao, cap, rfl, hsl, hx, ha⟩ := hs'
  refine fn_intro 177 Try.func5 rfl rfl rfl ?_
  refine walk ?_
  refine s_call rfl (few_spec hs (by omega)) rfl ?_
  rintro _ _ ⟨e_, b, rfl, hb⟩
  obtain rfl := e_.symm
  cases b with
  | false =>
    refine walk ?_
    refine s_call rfl (works_spec) rfl ?_
    rintro _ _ ⟨e_, rfl⟩
    obtain rfl := e_.symm
    refine walk ?_
    exact ret1 (v := .bool _) (.inr rfl) rfl rfl ⟨Ent.refl _, rfl⟩
  | true =>
    obtain ⟨hlen, h80⟩ := hb rfl
    by_cases hl80 : l.length ≤ 80
    · refine walk ?_
      refine s_call rfl (rRoom (q := q)) rfl ?_
      rintro _ _ ⟨e_, rfl⟩
      obtain rfl := e_.symm
      cases hrb : (decide (0 ≤ q) && isRoom q.toNat) with
      | false =>
        refine walk ?_
        refine s_call rfl (dNew_not hrb) rfl ?_
        rintro _ _ ⟨e_, rfl⟩
        obtain rfl := e_.symm
        refine walk ?_
        refine s_call rfl (rRoom (q := q)) rfl ?_
        rintro _ _ ⟨e_, rfl⟩
        obtain rfl := e_.symm
        rw [hrb]
        refine walk ?_
        refine s_call rfl (works_spec) rfl ?_
        rintro _ _ ⟨e_, rfl⟩
        obtain rfl := e_.symm
        refine walk ?_
        exact ret1 (v := .bool _) (.inr rfl) rfl rfl ⟨Ent.refl _, rfl⟩
      | true =>
        rw [Bool.and_eq_true, decide_eq_true_eq] at hrb
        obtain ⟨h0, hroom⟩ := hrb
        obtain ⟨qn, rfl⟩ := Int.eq_ofNat_of_zero_le h0
        rw [Int.toNat_natCast] at hroom
        have heven := room_even hroom
        have hbound := room_bound hroom
        by_cases h64 : qn ≤ 64
        · obtain ⟨k, hk⟩ := Int.eq_ofNat_of_zero_le (show 0 ≤ n % 6 by omega)
          have hk6 : k < 6 := by omega
          have hroom2 : isRoom (2 ^ (k + 1)) = true := isRoom_pow (by omega) (by omega)
          have hsh : IntKind.i64.wrap (2 * 2 ^ (min (n % 6).toNat IntKind.i64.bits)) = ((2 ^ (k + 1) : Nat) : Int) := by
            rw [hk]
            have : k = 0 ∨ k = 1 ∨ k = 2 ∨ k = 3 ∨ k = 4 ∨ k = 5 := by omega
            rcases this with rfl | rfl | rfl | rfl | rfl | rfl <;> decide
          have hm64 : 2 ^ (k + 1) ≤ 64 := Nat.pow_le_pow_right (n := 2) (by omega) (show k + 1 ≤ 6 by omega)
          generalize 2 ^ (k + 1) = mq at hroom2 hsh hm64
          have heven2 := room_even hroom2
          have hbound2 := room_bound hroom2
          refine walk ?_
          refine s_shl rfl rfl (by omega) hsh rfl ?_
          refine walk ?_
          refine s_call rfl (dNew (q := qn) hroom hl hlc) rfl ?_
          rintro _ _ ⟨p1, rfl, rfl⟩
          refine walk ?_
          refine s_call rfl (dNew (q := mq) (l := []) hroom2 Rd.nil (by simp)) rfl ?_
          rintro _ _ ⟨p2, rfl, rfl⟩
          rw [List.take_nil]
          refine walk ?_
          refine s_call rfl (rNew (G := F) hl (by omega) hlc) rfl ?_
          rintro _ _ ⟨X0, rfl, hr0⟩
          refine walk ?_
          refine s_call rfl (rNew (G := F) (lo := none) (lcap := 0) (l := []) Rd.nil (by omega) (by simp)) rfl ?_
          rintro _ _ ⟨Y0, rfl, hr1⟩
          rw [List.take_nil] at hr1
          have hr0' := hr0
          have hr1' := hr1
          obtain ⟨a1, c1, rfl, hc1, hm1, hd1⟩ := hr0
          obtain ⟨a2, c2, rfl, hc2, hm2, hd2⟩ := hr1
          refine walk ?_
          refine s_alloc rfl ?_
          intro b18
          refine s_alloc rfl ?_
          intro b19
          refine s_storeV (vs := [.int .i64 qn, .slice a1 (l.take qn).length c1]) rfl rfl rfl rfl rfl ?_
          refine s_storeV (vs := [.int .i64 mq, .slice a2 ([] : List Int).length c2]) rfl rfl rfl rfl rfl ?_
          refine walk ?_
          have hx0 := hr0'.ent (show Ent (X0 + Y0 + F) (X0 + F) from Ent.auto)
          have hx1 := hr1'.ent (show Ent (X0 + Y0 + F) (Y0 + F) from Ent.auto)
          have hAt : ∀ k (h : k < acts.length), acts[k].l.length ≤ acts[k].cap ∧ Rd B F 1 (.slice acts[k].lo acts[k].l.length acts[k].cap) acts[k].l.length (zs acts[k].l) := fun k h => hacts _ (List.getElem_mem h)
          refine wp_loopF (α := Nat × List Int × List Int × HProp × (Option Addr × Nat) × (Option Addr × Nat)) [10, 20, 21, 22, 23, 24, 25, 96, 97, 98, 99, 100, 101, 102, 103, 104, 105, 106, 107, 108, 109, 110, 111, 112, 113, 114, 115, 116, 117, 118, 119, 120, 121, 122, 123, 124, 125, 126, 127, 128, 129, 130, 131, 132, 133, 134, 135, 136, 137, 138, 139, 140, 141, 142, 143, 144, 145, 146, 147, 148, 149, 150, 151, 152, 153] (fun x => [(20, .int .i64 x.1)])
            (fun x => DqAt p1 ⟨qn, x.2.1⟩ + (DqAt p2 ⟨mq, x.2.2.1⟩ + (blk b18 [.int .i64 qn, .slice x.2.2.2.2.1.1 x.2.1.length x.2.2.2.2.1.2] 43 + (blk b19 [.int .i64 mq, .slice x.2.2.2.2.2.1 x.2.2.1.length x.2.2.2.2.2.2] 43 + (x.2.2.2.1 + F)))))
            (fun x => x.1 ≤ acts.length ∧ x.2.1.length ≤ qn ∧ x.2.2.1.length ≤ mq ∧ RefQ B (x.2.2.2.1 + F) (.agg [.int .i64 qn, .slice x.2.2.2.2.1.1 x.2.1.length x.2.2.2.2.1.2].toArray) qn x.2.1 ∧
              RefQ B (x.2.2.2.1 + F) (.agg [.int .i64 mq, .slice x.2.2.2.2.2.1 x.2.2.1.length x.2.2.2.2.2.2].toArray) mq x.2.2.1)
            (fun x => acts.length - x.1) (0, l.take qn, [], X0 + Y0, (a1, c1), (a2, c2)) agreed ?_
            ⟨Nat.zero_le _, by rw [List.length_take]; exact Nat.min_le_left _ _, Nat.zero_le _, hx0, hx1⟩ ?_
          · show Ent (blk b19 [.int .i64 mq, .slice a2 ([] : List Int).length c2] 43 + (blk b18 [.int .i64 qn, .slice a1 (l.take qn).length c1] 43 + (Y0 + (X0 + (DqAt p2 ⟨mq, []⟩ + (DqAt p1 ⟨qn, l.take qn⟩ + F))))))
              (DqAt p1 ⟨qn, l.take qn⟩ + (DqAt p2 ⟨mq, []⟩ + (blk b18 [.int .i64 qn, .slice a1 (l.take qn).length c1] 43 + (blk b19 [.int .i64 mq, .slice a2 ([] : List Int).length c2] 43 + ((X0 + Y0) + F)))))
            exact Ent.auto
          rintro ⟨i, L, M, X, ⟨a3, c3⟩, ⟨a4, c4⟩⟩ g0 ⟨hi, hLq, hMq, hrL, hrM⟩
          simp only at hi hLq hMq hrL hrM
          simp only [putAll]
          by_cases hlt : i < acts.length
          · obtain ⟨bl, ol, rfl, hcl⟩ : ∃ b o, ao = some ⟨b, o, none⟩ ∧ Cells B F b o (qCells acts) := by
              rcases ha with h | h
              · rw [h] at hsl; simp at hsl; omega
              · exact h
            have hcells := cells_act hcl hlt
            obtain ⟨hac, har⟩ := hAt i hlt
            refine walk ?_
            refine wp_cut_here (α := Nat × Nat) [21, 22, 102, 103, 104] (fun z => [(21, ptr z.1), (22, ptr z.2)])
              (fun z => DqAt p1 ⟨qn, L⟩ + (DqAt p2 ⟨mq, M⟩ + (DqAt z.1 ⟨qn, L⟩ + (blk z.2 [.int .i64 qn, .slice a3 L.length c3] 43 + (blk b18 [.int .i64 qn, .slice a3 L.length c3] 43 + (blk b19 [.int .i64 mq, .slice a4 M.length c4] 43 + (X + F))))))) (fun _ => True) ?_ ?_
            · skip
              (refine wp_draw [1, 3, 5] (.look 0 (.look 2 (.act 1 (.act 3 (.look 4 (.act 5 .nil .stop)) .stop) (.act 3 (.act 1 (.look 4 (.act 5 .nil .stop)) .stop) .stop)))) (by kernel_rfl) ?_; (apply dw_pure; (· exact rfl); (· exact rfl); (· (intro G; exact looked))); (apply dw_look; (· exact rfl); (· exact rfl); (· exact looked)); skip)
              refine dw_do rfl rfl ?_ (dw_do rfl rfl ?_ dw_stop)
              · skip
                refine s_call rfl (dCopy (p := p1) (x := ⟨qn, L⟩)) rfl ?_
                rintro _ _ ⟨p3, rfl, rfl⟩
                refine wpl_nil (qone ⟨(by (refine st_again ?_ ?_; (· exact looked)); exact st_nil), ?_⟩)
                (skip)
                refine dw_do rfl rfl ?_ dw_stop
                refine s_alloc rfl ?_
                intro b22
                refine wpl_nil (qone ⟨(by (refine st_again ?_ ?_; (· exact looked)); exact st_nil), ?_⟩)
                ((apply dw_pure; (· exact rfl); (· exact rfl); (· (intro G; exact looked))); skip)
                refine dw_do0 rfl rfl ?_ dw_stop
                refine s_storeV (vs := [.int .i64 qn, .slice a3 L.length c3]) rfl rfl rfl rfl rfl ?_
                refine wpl_nil (qone0 ⟨(by refine st_past (by kernel_rfl) ?_; exact st_nil), ?_⟩)
                (refine dw_nil ?_; skip)
                refine walk ?_
                exact ⟨(p3, b22), asided, agreed, Ent.auto, trivial⟩
              · skip
                refine s_alloc rfl ?_
                intro b22
                refine wpl_nil (qone ⟨(by (refine st_again ?_ ?_; (· exact looked)); exact st_nil), ?_⟩)
                (skip)
                refine dw_do rfl rfl ?_ dw_stop
                refine s_call rfl (dCopy (p := p1) (x := ⟨qn, L⟩)) rfl ?_
                rintro _ _ ⟨p3, rfl, rfl⟩
                refine wpl_nil (qone ⟨(by (refine st_again ?_ ?_; (· exact looked)); exact st_nil), ?_⟩)
                ((apply dw_pure; (· exact rfl); (· exact rfl); (· (intro G; exact looked))); skip)
                refine dw_do0 rfl rfl ?_ dw_stop
                refine s_storeV (vs := [.int .i64 qn, .slice a3 L.length c3]) rfl rfl rfl rfl rfl ?_
                refine wpl_nil (qone0 ⟨(by refine st_past (by kernel_rfl) ?_; exact st_nil), ?_⟩)
                (refine dw_nil ?_; skip)
                refine walk ?_
                exact ⟨(p3, b22), asided, agreed, Ent.auto, trivial⟩
            · rintro ⟨p3, b22⟩ g2 _
              simp only [putAll]
              refine walk ?_
              refine wp_cut_here (α := Nat × Nat × HProp × List Int × List Int × (Option Addr × Nat) × (Option Addr × Nat)) [23, 24, 25, 105, 106, 107, 108, 109, 110, 111, 112, 113, 114, 115, 116, 117] (fun z => [(23, ptr z.1), (24, ptr z.2.1), (25, .bool true)])
                (fun z => DqAt p1 ⟨qn, z.2.2.2.1⟩ + (DqAt p2 ⟨mq, z.2.2.2.2.1⟩ + (DqAt p3 ⟨qn, L⟩ + (blk b22 [.int .i64 qn, .slice a3 L.length c3] 43 + (blk b18 [.int .i64 qn, .slice a3 L.length c3] 43 + (blk b19 [.int .i64 mq, .slice a4 M.length c4] 43 +
                  (blk z.1 [.int .i64 qn, .slice z.2.2.2.2.2.1.1 z.2.2.2.1.length z.2.2.2.2.2.1.2] 43 + (blk z.2.1 [.int .i64 mq, .slice z.2.2.2.2.2.2.1 z.2.2.2.2.1.length z.2.2.2.2.2.2.2] 43 + ((z.2.2.1 + X) + F)))))))))
                (fun z => z.2.2.2.1.length ≤ qn ∧ z.2.2.2.2.1.length ≤ mq ∧ RefQ B ((z.2.2.1 + X) + F) (.agg [.int .i64 qn, .slice z.2.2.2.2.2.1.1 z.2.2.2.1.length z.2.2.2.2.2.1.2].toArray) qn z.2.2.2.1 ∧
                  RefQ B ((z.2.2.1 + X) + F) (.agg [.int .i64 mq, .slice z.2.2.2.2.2.2.1 z.2.2.2.2.1.length z.2.2.2.2.2.2.2].toArray) mq z.2.2.2.2.1) ?_ ?_
              · skip
                (refine wp_draw [8, 13, 14, 15, 16] (.look 0 (.look 1 (.look 2 (.look 3 (.look 4 (.look 5 (.look 6 (.look 7 (.act 8 (.look 9 (.look 10 (.look 11 (.look 12 (.act 13 (.act 14 (.act 15 (.act 16 (.look 17 .nil) .stop) .stop) .stop) (.act 14 (.act 13 (.act 15 (.act 16 (.look 17 .nil) .stop) .stop) .stop) .stop)))))) (.act 13 (.act 8 (.look 9 (.look 10 (.look 11 (.look 12 (.act 14 (.act 15 (.act 16 (.look 17 .nil) .stop) .stop) .stop))))) (.act 14 (.act 8 (.look 9 (.look 10 (.look 11 (.look 12 (.act 15 (.act 16 (.look 17 .nil) .stop) .stop))))) .stop) .stop)) (.act 14 (.act 8 (.look 9 (.look 10 (.look 11 (.look 12 (.act 13 (.act 15 (.act 16 (.look 17 .nil) .stop) .stop) .stop))))) (.act 13 (.act 8 (.look 9 (.look 10 (.look 11 (.look 12 (.act 15 (.act 16 (.look 17 .nil) .stop) .stop))))) .stop) .stop)) .stop))))))))))) (by kernel_rfl) ?_; (apply dw_pure; (· exact rfl); (· exact rfl); (· (intro G; exact looked))); (apply dw_pure; (· exact rfl); (· exact rfl); (· (intro G; exact looked))); (apply dw_look; (· exact rfl); (· exact rfl); (· exact looked)); (apply dw_look; (· exact rfl); (· exact rfl); (· exact looked)); (apply dw_pure; (· exact rfl); (· exact rfl); (· (intro G; exact looked))); (apply dw_pure; (· exact rfl); (· exact rfl); (· (intro G; exact looked))); (apply dw_pure; (· exact rfl); (· exact rfl); (· (intro G; exact looked))); (apply dw_look; (· exact rfl); (· exact rfl); (· exact looked)); skip)
                refine dw_do rfl rfl ?_ (dw_do rfl rfl ?_ (dw_do rfl rfl ?_ dw_stop))
                · skip
                  refine s_call rfl (does_specH (G := X + F) (p := p1) (p' := p2) hrL hrM (har.ent InH.ent) hac (h80 i hlt) ⟨h64, heven⟩ ⟨hm64, heven2⟩ hLq hMq) rfl ?_
                  rintro _ _ ⟨Y, ra, rb, L2, M2, he2, rfl, hra, hrb, hl2, hm2'⟩
                  refine WPL.ent he2 ?_
                  have hra' := hra
                  have hrb' := hrb
                  obtain ⟨a5, c5, rfl, _, _, _⟩ := hra
                  obtain ⟨a6, c6, rfl, _, _, _⟩ := hrb
                  refine wpl_nil (qone ⟨(by refine st_past (by kernel_rfl) ?_; refine st_past (by kernel_rfl) ?_; refine st_past (by kernel_rfl) ?_; exact st_nil), ?_⟩)
                  ((apply dw_pure; (· exact rfl); (· exact rfl); (· (intro G; exact looked))); (apply dw_pure; (· exact rfl); (· exact rfl); (· (intro G; exact looked))); (apply dw_pure; (· exact rfl); (· exact rfl); (· (intro G; exact looked))); (apply dw_pure; (· exact rfl); (· exact rfl); (· (intro G; exact looked))); skip)
                  refine dw_do rfl rfl ?_ (dw_do rfl rfl ?_ dw_stop)
                  · skip
                    refine s_alloc rfl ?_
                    intro b23
                    refine wpl_nil (qone ⟨(by (refine st_again ?_ ?_; (· exact looked)); (refine st_again ?_ ?_; (· exact looked)); (refine st_again ?_ ?_; (· exact looked)); exact st_nil), ?_⟩)
                    (skip)
                    refine dw_do rfl rfl ?_ dw_stop
                    refine s_alloc rfl ?_
                    intro b24
                    refine wpl_nil (qone ⟨(by (refine st_again ?_ ?_; (· exact looked)); (refine st_again ?_ ?_; (· exact looked)); (refine st_again ?_ ?_; (· exact looked)); exact st_nil), ?_⟩)
                    (skip)
                    refine dw_do0 rfl rfl ?_ dw_stop
                    refine s_storeV (vs := [.int .i64 qn, .slice a5 L2.length c5]) rfl rfl rfl rfl rfl ?_
                    refine wpl_nil (qone0 ⟨(by refine st_past (by kernel_rfl) ?_; refine st_past (by kernel_rfl) ?_; refine st_past (by kernel_rfl) ?_; exact st_nil), ?_⟩)
                    (skip)
                    refine dw_do0 rfl rfl ?_ dw_stop
                    refine s_storeV (vs := [.int .i64 mq, .slice a6 M2.length c6]) rfl rfl rfl rfl rfl ?_
                    refine wpl_nil (qone0 ⟨(by refine st_past (by kernel_rfl) ?_; refine st_past (by kernel_rfl) ?_; refine st_past (by kernel_rfl) ?_; exact st_nil), ?_⟩)
                    ((apply dw_pure; (· exact rfl); (· exact rfl); (· (intro G; exact looked))); refine dw_nil ?_; skip)
                    refine walk ?_
                    exact ⟨(b23, b24, Y, L2, M2, (a5, c5), (a6, c6)), asided, agreed, Ent.auto, hl2, hm2', hra'.ent (by rw [HProp.add_assoc]; exact Ent.refl _), hrb'.ent (by rw [HProp.add_assoc]; exact Ent.refl _)⟩
                  · skip
                    refine s_alloc rfl ?_
                    intro b24
                    refine wpl_nil (qone ⟨(by (refine st_again ?_ ?_; (· exact looked)); (refine st_again ?_ ?_; (· exact looked)); (refine st_again ?_ ?_; (· exact looked)); exact st_nil), ?_⟩)
                    (skip)
                    refine dw_do rfl rfl ?_ dw_stop
                    refine s_alloc rfl ?_
                    intro b23
                    refine wpl_nil (qone ⟨(by (refine st_again ?_ ?_; (· exact looked)); (refine st_again ?_ ?_; (· exact looked)); (refine st_again ?_ ?_; (· exact looked)); exact st_nil), ?_⟩)
                    (skip)
                    refine dw_do0 rfl rfl ?_ dw_stop
                    refine s_storeV (vs := [.int .i64 qn, .slice a5 L2.length c5]) rfl rfl rfl rfl rfl ?_
                    refine wpl_nil (qone0 ⟨(by refine st_past (by kernel_rfl) ?_; refine st_past (by kernel_rfl) ?_; refine st_past (by kernel_rfl) ?_; exact st_nil), ?_⟩)
                    (skip)
                    refine dw_do0 rfl rfl ?_ dw_stop
                    refine s_storeV (vs := [.int .i64 mq, .slice a6 M2.length c6]) rfl rfl rfl rfl rfl ?_
                    refine wpl_nil (qone0 ⟨(by refine st_past (by kernel_rfl) ?_; refine st_past (by kernel_rfl) ?_; refine st_past (by kernel_rfl) ?_; exact st_nil), ?_⟩)
                    ((apply dw_pure; (· exact rfl); (· exact rfl); (· (intro G; exact looked))); refine dw_nil ?_; skip)
                    refine walk ?_
                    exact ⟨(b23, b24, Y, L2, M2, (a5, c5), (a6, c6)), asided, agreed, Ent.auto, hl2, hm2', hra'.ent (by rw [HProp.add_assoc]; exact Ent.refl _), hrb'.ent (by rw [HProp.add_assoc]; exact Ent.refl _)⟩
                · skip
                  refine s_alloc rfl ?_
                  intro b23
                  refine wpl_nil (qone ⟨(by (refine st_again ?_ ?_; (· exact looked)); (refine st_again ?_ ?_; (· exact looked)); (refine st_again ?_ ?_; (· exact looked)); exact st_nil), ?_⟩)
                  (skip)
                  refine dw_do rfl rfl ?_ (dw_do rfl rfl ?_ dw_stop)
                  · skip
                    refine s_call rfl (does_specH (G := X + F) (p := p1) (p' := p2) hrL hrM (har.ent InH.ent) hac (h80 i hlt) ⟨h64, heven⟩ ⟨hm64, heven2⟩ hLq hMq) rfl ?_
                    rintro _ _ ⟨Y, ra, rb, L2, M2, he2, rfl, hra, hrb, hl2, hm2'⟩
                    refine WPL.ent he2 ?_
                    have hra' := hra
                    have hrb' := hrb
                    obtain ⟨a5, c5, rfl, _, _, _⟩ := hra
                    obtain ⟨a6, c6, rfl, _, _, _⟩ := hrb
                    refine wpl_nil (qone ⟨(by refine st_past (by kernel_rfl) ?_; refine st_past (by kernel_rfl) ?_; refine st_past (by kernel_rfl) ?_; exact st_nil), ?_⟩)
                    ((apply dw_pure; (· exact rfl); (· exact rfl); (· (intro G; exact looked))); (apply dw_pure; (· exact rfl); (· exact rfl); (· (intro G; exact looked))); (apply dw_pure; (· exact rfl); (· exact rfl); (· (intro G; exact looked))); (apply dw_pure; (· exact rfl); (· exact rfl); (· (intro G; exact looked))); skip)
                    refine dw_do rfl rfl ?_ dw_stop
                    refine s_alloc rfl ?_
                    intro b24
                    refine wpl_nil (qone ⟨(by (refine st_again ?_ ?_; (· exact looked)); (refine st_again ?_ ?_; (· exact looked)); (refine st_again ?_ ?_; (· exact looked)); exact st_nil), ?_⟩)
                    (skip)
                    refine dw_do0 rfl rfl ?_ dw_stop
                    refine s_storeV (vs := [.int .i64 qn, .slice a5 L2.length c5]) rfl rfl rfl rfl rfl ?_
                    refine wpl_nil (qone0 ⟨(by refine st_past (by kernel_rfl) ?_; refine st_past (by kernel_rfl) ?_; refine st_past (by kernel_rfl) ?_; exact st_nil), ?_⟩)
                    (skip)
                    refine dw_do0 rfl rfl ?_ dw_stop
                    refine s_storeV (vs := [.int .i64 mq, .slice a6 M2.length c6]) rfl rfl rfl rfl rfl ?_
                    refine wpl_nil (qone0 ⟨(by refine st_past (by kernel_rfl) ?_; refine st_past (by kernel_rfl) ?_; refine st_past (by kernel_rfl) ?_; exact st_nil), ?_⟩)
                    ((apply dw_pure; (· exact rfl); (· exact rfl); (· (intro G; exact looked))); refine dw_nil ?_; skip)
                    refine walk ?_
                    exact ⟨(b23, b24, Y, L2, M2, (a5, c5), (a6, c6)), asided, agreed, Ent.auto, hl2, hm2', hra'.ent (by rw [HProp.add_assoc]; exact Ent.refl _), hrb'.ent (by rw [HProp.add_assoc]; exact Ent.refl _)⟩
                  · skip
                    refine s_alloc rfl ?_
                    intro b24
                    refine wpl_nil (qone ⟨(by (refine st_again ?_ ?_; (· exact looked)); (refine st_again ?_ ?_; (· exact looked)); (refine st_again ?_ ?_; (· exact looked)); exact st_nil), ?_⟩)
                    (skip)
                    refine dw_do rfl rfl ?_ dw_stop
                    refine s_call rfl (does_specH (G := X + F) (p := p1) (p' := p2) hrL hrM (har.ent InH.ent) hac (h80 i hlt) ⟨h64, heven⟩ ⟨hm64, heven2⟩ hLq hMq) rfl ?_
                    rintro _ _ ⟨Y, ra, rb, L2, M2, he2, rfl, hra, hrb, hl2, hm2'⟩
                    refine WPL.ent he2 ?_
                    have hra' := hra
                    have hrb' := hrb
                    obtain ⟨a5, c5, rfl, _, _, _⟩ := hra
                    obtain ⟨a6, c6, rfl, _, _, _⟩ := hrb
                    refine wpl_nil (qone ⟨(by refine st_past (by kernel_rfl) ?_; refine st_past (by kernel_rfl) ?_; refine st_past (by kernel_rfl) ?_; exact st_nil), ?_⟩)
                    ((apply dw_pure; (· exact rfl); (· exact rfl); (· (intro G; exact looked))); (apply dw_pure; (· exact rfl); (· exact rfl); (· (intro G; exact looked))); (apply dw_pure; (· exact rfl); (· exact rfl); (· (intro G; exact looked))); (apply dw_pure; (· exact rfl); (· exact rfl); (· (intro G; exact looked))); skip)
                    refine dw_do0 rfl rfl ?_ dw_stop
                    refine s_storeV (vs := [.int .i64 qn, .slice a5 L2.length c5]) rfl rfl rfl rfl rfl ?_
                    refine wpl_nil (qone0 ⟨(by refine st_past (by kernel_rfl) ?_; refine st_past (by kernel_rfl) ?_; refine st_past (by kernel_rfl) ?_; exact st_nil), ?_⟩)
                    (skip)
                    refine dw_do0 rfl rfl ?_ dw_stop
                    refine s_storeV (vs := [.int .i64 mq, .slice a6 M2.length c6]) rfl rfl rfl rfl rfl ?_
                    refine wpl_nil (qone0 ⟨(by refine st_past (by kernel_rfl) ?_; refine st_past (by kernel_rfl) ?_; refine st_past (by kernel_rfl) ?_; exact st_nil), ?_⟩)
                    ((apply dw_pure; (· exact rfl); (· exact rfl); (· (intro G; exact looked))); refine dw_nil ?_; skip)
                    refine walk ?_
                    exact ⟨(b23, b24, Y, L2, M2, (a5, c5), (a6, c6)), asided, agreed, Ent.auto, hl2, hm2', hra'.ent (by rw [HProp.add_assoc]; exact Ent.refl _), hrb'.ent (by rw [HProp.add_assoc]; exact Ent.refl _)⟩
                · skip
                  refine s_alloc rfl ?_
                  intro b24
                  refine wpl_nil (qone ⟨(by (refine st_again ?_ ?_; (· exact looked)); (refine st_again ?_ ?_; (· exact looked)); (refine st_again ?_ ?_; (· exact looked)); exact st_nil), ?_⟩)
                  (skip)
                  refine dw_do rfl rfl ?_ (dw_do rfl rfl ?_ dw_stop)
                  · skip
                    refine s_call rfl (does_specH (G := X + F) (p := p1) (p' := p2) hrL hrM (har.ent InH.ent) hac (h80 i hlt) ⟨h64, heven⟩ ⟨hm64, heven2⟩ hLq hMq) rfl ?_
                    rintro _ _ ⟨Y, ra, rb, L2, M2, he2, rfl, hra, hrb, hl2, hm2'⟩
                    refine WPL.ent he2 ?_
                    have hra' := hra
                    have hrb' := hrb
                    obtain ⟨a5, c5, rfl, _, _, _⟩ := hra
                    obtain ⟨a6, c6, rfl, _, _, _⟩ := hrb
                    refine wpl_nil (qone ⟨(by refine st_past (by kernel_rfl) ?_; refine st_past (by kernel_rfl) ?_; refine st_past (by kernel_rfl) ?_; exact st_nil), ?_⟩)
                    ((apply dw_pure; (· exact rfl); (· exact rfl); (· (intro G; exact looked))); (apply dw_pure; (· exact rfl); (· exact rfl); (· (intro G; exact looked))); (apply dw_pure; (· exact rfl); (· exact rfl); (· (intro G; exact looked))); (apply dw_pure; (· exact rfl); (· exact rfl); (· (intro G; exact looked))); skip)
                    refine dw_do rfl rfl ?_ dw_stop
                    refine s_alloc rfl ?_
                    intro b23
                    refine wpl_nil (qone ⟨(by (refine st_again ?_ ?_; (· exact looked)); (refine st_again ?_ ?_; (· exact looked)); (refine st_again ?_ ?_; (· exact looked)); exact st_nil), ?_⟩)
                    (skip)
                    refine dw_do0 rfl rfl ?_ dw_stop
                    refine s_storeV (vs := [.int .i64 qn, .slice a5 L2.length c5]) rfl rfl rfl rfl rfl ?_
                    refine wpl_nil (qone0 ⟨(by refine st_past (by kernel_rfl) ?_; refine st_past (by kernel_rfl) ?_; refine st_past (by kernel_rfl) ?_; exact st_nil), ?_⟩)
                    (skip)
                    refine dw_do0 rfl rfl ?_ dw_stop
                    refine s_storeV (vs := [.int .i64 mq, .slice a6 M2.length c6]) rfl rfl rfl rfl rfl ?_
                    refine wpl_nil (qone0 ⟨(by refine st_past (by kernel_rfl) ?_; refine st_past (by kernel_rfl) ?_; refine st_past (by kernel_rfl) ?_; exact st_nil), ?_⟩)
                    ((apply dw_pure; (· exact rfl); (· exact rfl); (· (intro G; exact looked))); refine dw_nil ?_; skip)
                    refine walk ?_
                    exact ⟨(b23, b24, Y, L2, M2, (a5, c5), (a6, c6)), asided, agreed, Ent.auto, hl2, hm2', hra'.ent (by rw [HProp.add_assoc]; exact Ent.refl _), hrb'.ent (by rw [HProp.add_assoc]; exact Ent.refl _)⟩
                  · skip
                    refine s_alloc rfl ?_
                    intro b23
                    refine wpl_nil (qone ⟨(by (refine st_again ?_ ?_; (· exact looked)); (refine st_again ?_ ?_; (· exact looked)); (refine st_again ?_ ?_; (· exact looked)); exact st_nil), ?_⟩)
                    (skip)
                    refine dw_do rfl rfl ?_ dw_stop
                    refine s_call rfl (does_specH (G := X + F) (p := p1) (p' := p2) hrL hrM (har.ent InH.ent) hac (h80 i hlt) ⟨h64, heven⟩ ⟨hm64, heven2⟩ hLq hMq) rfl ?_
                    rintro _ _ ⟨Y, ra, rb, L2, M2, he2, rfl, hra, hrb, hl2, hm2'⟩
                    refine WPL.ent he2 ?_
                    have hra' := hra
                    have hrb' := hrb
                    obtain ⟨a5, c5, rfl, _, _, _⟩ := hra
                    obtain ⟨a6, c6, rfl, _, _, _⟩ := hrb
                    refine wpl_nil (qone ⟨(by refine st_past (by kernel_rfl) ?_; refine st_past (by kernel_rfl) ?_; refine st_past (by kernel_rfl) ?_; exact st_nil), ?_⟩)
                    ((apply dw_pure; (· exact rfl); (· exact rfl); (· (intro G; exact looked))); (apply dw_pure; (· exact rfl); (· exact rfl); (· (intro G; exact looked))); (apply dw_pure; (· exact rfl); (· exact rfl); (· (intro G; exact looked))); (apply dw_pure; (· exact rfl); (· exact rfl); (· (intro G; exact looked))); skip)
                    refine dw_do0 rfl rfl ?_ dw_stop
                    refine s_storeV (vs := [.int .i64 qn, .slice a5 L2.length c5]) rfl rfl rfl rfl rfl ?_
                    refine wpl_nil (qone0 ⟨(by refine st_past (by kernel_rfl) ?_; refine st_past (by kernel_rfl) ?_; refine st_past (by kernel_rfl) ?_; exact st_nil), ?_⟩)
                    (skip)
                    refine dw_do0 rfl rfl ?_ dw_stop
                    refine s_storeV (vs := [.int .i64 mq, .slice a6 M2.length c6]) rfl rfl rfl rfl rfl ?_
                    refine wpl_nil (qone0 ⟨(by refine st_past (by kernel_rfl) ?_; refine st_past (by kernel_rfl) ?_; refine st_past (by kernel_rfl) ?_; exact st_nil), ?_⟩)
                    ((apply dw_pure; (· exact rfl); (· exact rfl); (· (intro G; exact looked))); refine dw_nil ?_; skip)
                    refine walk ?_
                    exact ⟨(b23, b24, Y, L2, M2, (a5, c5), (a6, c6)), asided, agreed, Ent.auto, hl2, hm2', hra'.ent (by rw [HProp.add_assoc]; exact Ent.refl _), hrb'.ent (by rw [HProp.add_assoc]; exact Ent.refl _)⟩
              · rintro ⟨b23, b24, Y, L2, M2, ⟨a5, c5⟩, ⟨a6, c6⟩⟩ g3 ⟨hl2, hm2, hra, hrb⟩
                simp only at hl2 hm2 hra hrb
                simp only [putAll]
                have hwas := hrL.ent (show Ent ((Y + X) + F) (X + F) by rw [HProp.add_assoc]; exact Ent.drop_left _ _)
                refine walk ?_
                refine s_storeV (vs := [.int .i64 qn, .slice a5 L2.length c5]) rfl rfl rfl rfl rfl ?_
                refine walk ?_
                refine s_storeV (vs := [.int .i64 mq, .slice a6 M2.length c6]) rfl rfl rfl rfl rfl ?_
                refine walk ?_
                have hrda := hra.rd
                have hrdw := hwas.rd
                by_cases hLL : L2 = L
                · have hdec1 : decide (qn = qn ∧ L2 = L) = true := decide_eq_true ⟨rfl, hLL⟩
                  have hdec2 : decide (L2 = L) = true := decide_eq_true hLL
                  (refine wp_draw [6, 13, 20, 26, 31] (.look 0 (.look 1 (.look 2 (.look 3 (.look 4 (.look 5 (.act 6 (.look 7 (.look 8 (.look 9 (.look 10 (.look 11 (.look 12 (.act 13 (.look 14 (.look 15 (.look 16 (.look 17 (.look 18 (.look 19 (.act 20 (.look 21 (.look 22 (.look 23 (.look 24 (.look 25 (.look 27 (.look 28 (.look 29 (.look 30 (.act 26 (.act 31 (.look 32 (.look 33 .nil)) .stop) .stop)))))))))) .stop))))))) .stop))))))) .stop))))))) (by kernel_rfl) ?_; (apply dw_pure; (· exact rfl); (· exact rfl); (· (intro G; exact looked))); (apply dw_pure; (· exact rfl); (· exact rfl); (· (intro G; exact looked))); (apply dw_pure; (· exact rfl); (· exact rfl); (· (intro G; exact looked))); (apply dw_pure; (· exact rfl); (· exact rfl); (· (intro G; exact looked))); (apply dw_look; (· exact rfl); (· exact rfl); (· exact looked)); (apply dw_pure; (· exact rfl); (· exact rfl); (· (intro G; exact looked))); skip)
                  refine dw_do rfl rfl ?_ dw_stop
                  refine step_wanted rfl rfl ?_
                  refine s_call rfl (is_spec (G := (Y + X) + F) (p := p1) (q := qn) (L := L2) hra) rfl ?_
                  rintro _ _ ⟨e_, rfl⟩
                  obtain rfl := e_.symm
                  refine wpl_nil (qone ⟨(by refine st_past (by kernel_rfl) ?_; exact st_nil), ?_⟩)
                  ((apply dw_pure; (· exact rfl); (· exact rfl); (· (intro G; exact looked))); (apply dw_pure; (· exact rfl); (· exact rfl); (· (intro G; exact looked))); (apply dw_pure; (· exact rfl); (· exact rfl); (· (intro G; exact looked))); (apply dw_pure; (· exact rfl); (· exact rfl); (· (intro G; exact looked))); (apply dw_look; (· exact rfl); (· exact rfl); (· exact looked)); (apply dw_pure; (· exact rfl); (· exact rfl); (· (intro G; exact looked))); skip)
                  refine dw_do rfl rfl ?_ dw_stop
                  refine step_wanted rfl rfl ?_
                  refine s_call rfl (is_spec (G := (Y + X) + F) (p := p2) (q := mq) (L := M2) hrb) rfl ?_
                  rintro _ _ ⟨e_, rfl⟩
                  obtain rfl := e_.symm
                  refine wpl_nil (qone ⟨(by refine st_past (by kernel_rfl) ?_; refine st_past (by kernel_rfl) ?_; exact st_nil), ?_⟩)
                  ((apply dw_pure; (· exact rfl); (· exact rfl); (· (intro G; exact looked))); (apply dw_pure; (· exact rfl); (· exact rfl); (· (intro G; exact looked))); (apply dw_pure; (· exact rfl); (· exact rfl); (· (intro G; exact looked))); (apply dw_pure; (· exact rfl); (· exact rfl); (· (intro G; exact looked))); (apply dw_look; (· exact rfl); (· exact rfl); (· exact looked)); (apply dw_pure; (· exact rfl); (· exact rfl); (· (intro G; exact looked))); skip)
                  refine dw_do rfl rfl ?_ dw_stop
                  refine step_wanted rfl rfl ?_
                  refine s_call rfl (is_spec (G := (Y + X) + F) (p := p3) (q := qn) (L := L) hwas) rfl ?_
                  rintro _ _ ⟨e_, rfl⟩
                  obtain rfl := e_.symm
                  refine wpl_nil (qone ⟨(by refine st_past (by kernel_rfl) ?_; refine st_past (by kernel_rfl) ?_; refine st_past (by kernel_rfl) ?_; exact st_nil), ?_⟩)
                  ((apply dw_pure; (· exact rfl); (· exact rfl); (· (intro G; exact looked))); (apply dw_pure; (· exact rfl); (· exact rfl); (· (intro G; exact looked))); (apply dw_pure; (· exact rfl); (· exact rfl); (· (intro G; exact looked))); (apply dw_pure; (· exact rfl); (· exact rfl); (· (intro G; exact looked))); (apply dw_pure; (· exact rfl); (· exact rfl); (· (intro G; exact looked))); (apply dw_pure; (· exact rfl); (· exact rfl); (· (intro G; exact looked))); (apply dw_look; (· exact rfl); (· exact rfl); (· exact looked)); (apply dw_pure; (· exact rfl); (· exact rfl); (· (intro G; exact looked))); (apply dw_look; (· exact rfl); (· exact rfl); (· exact looked)); skip)
                  refine dw_do rfl rfl ?_ dw_stop
                  refine step_wanted rfl rfl ?_
                  refine s_call rfl (dSameL (p := p1) (p' := p3) (q := qn) (m := qn) (L := L2) (M := L)) rfl ?_
                  rintro _ _ ⟨e_, rfl⟩
                  obtain rfl := e_.symm
                  rw [hdec1]
                  refine wpl_nil (qone ⟨(by (refine st_again ?_ ?_; (· exact looked)); (refine st_again ?_ ?_; (· exact looked)); refine st_past (by kernel_rfl) ?_; refine st_past (by kernel_rfl) ?_; refine st_past (by kernel_rfl) ?_; exact st_nil), ?_⟩)
                  (skip)
                  refine dw_do rfl rfl ?_ dw_stop
                  refine step_wanted rfl rfl ?_
                  refine s_call rfl (sameInts_spec (xs := L2) (ys := L) (hrda.ent InH.ent) (hrdw.ent InH.ent)) rfl ?_
                  rintro _ _ ⟨e_, rfl⟩
                  obtain rfl := e_.symm
                  rw [hdec2]
                  refine wpl_nil (qone ⟨(by refine st_past (by kernel_rfl) ?_; refine st_past (by kernel_rfl) ?_; refine st_past (by kernel_rfl) ?_; refine st_past (by kernel_rfl) ?_; refine st_past (by kernel_rfl) ?_; exact st_nil), ?_⟩)
                  ((apply dw_pure; (· exact rfl); (· exact rfl); (· (intro G; exact looked))); (apply dw_pure; (· exact rfl); (· exact rfl); (· (intro G; exact looked))); refine dw_nil ?_; skip)
                  refine walk ?_
                  exact ⟨(i + 1, L2, M2, Y + X, (a5, c5), (a6, c6)), asided, agreed, Ent.auto, ⟨hlt, hl2, hm2, hra, hrb⟩, by simp only; omega⟩
                · have hdec1 : decide (qn = qn ∧ L2 = L) = false := decide_eq_false fun h => hLL h.2
                  have hdec2 : decide (L2 = L) = false := decide_eq_false hLL
                  (refine wp_draw [6, 13, 20, 26, 31] (.look 0 (.look 1 (.look 2 (.look 3 (.look 4 (.look 5 (.act 6 (.look 7 (.look 8 (.look 9 (.look 10 (.look 11 (.look 12 (.act 13 (.look 14 (.look 15 (.look 16 (.look 17 (.look 18 (.look 19 (.act 20 (.look 21 (.look 22 (.look 23 (.look 24 (.look 25 (.look 27 (.look 28 (.look 29 (.look 30 (.act 26 (.act 31 (.look 32 (.look 33 .nil)) .stop) .stop)))))))))) .stop))))))) .stop))))))) .stop))))))) (by kernel_rfl) ?_; (apply dw_pure; (· exact rfl); (· exact rfl); (· (intro G; exact looked))); (apply dw_pure; (· exact rfl); (· exact rfl); (· (intro G; exact looked))); (apply dw_pure; (· exact rfl); (· exact rfl); (· (intro G; exact looked))); (apply dw_pure; (· exact rfl); (· exact rfl); (· (intro G; exact looked))); (apply dw_look; (· exact rfl); (· exact rfl); (· exact looked)); (apply dw_pure; (· exact rfl); (· exact rfl); (· (intro G; exact looked))); skip)
                  refine dw_do rfl rfl ?_ dw_stop
                  refine step_wanted rfl rfl ?_
                  refine s_call rfl (is_spec (G := (Y + X) + F) (p := p1) (q := qn) (L := L2) hra) rfl ?_
                  rintro _ _ ⟨e_, rfl⟩
                  obtain rfl := e_.symm
                  refine wpl_nil (qone ⟨(by refine st_past (by kernel_rfl) ?_; exact st_nil), ?_⟩)
                  ((apply dw_pure; (· exact rfl); (· exact rfl); (· (intro G; exact looked))); (apply dw_pure; (· exact rfl); (· exact rfl); (· (intro G; exact looked))); (apply dw_pure; (· exact rfl); (· exact rfl); (· (intro G; exact looked))); (apply dw_pure; (· exact rfl); (· exact rfl); (· (intro G; exact looked))); (apply dw_look; (· exact rfl); (· exact rfl); (· exact looked)); (apply dw_pure; (· exact rfl); (· exact rfl); (· (intro G; exact looked))); skip)
                  refine dw_do rfl rfl ?_ dw_stop
                  refine step_wanted rfl rfl ?_
                  refine s_call rfl (is_spec (G := (Y + X) + F) (p := p2) (q := mq) (L := M2) hrb) rfl ?_
                  rintro _ _ ⟨e_, rfl⟩
                  obtain rfl := e_.symm
                  refine wpl_nil (qone ⟨(by refine st_past (by kernel_rfl) ?_; refine st_past (by kernel_rfl) ?_; exact st_nil), ?_⟩)
                  ((apply dw_pure; (· exact rfl); (· exact rfl); (· (intro G; exact looked))); (apply dw_pure; (· exact rfl); (· exact rfl); (· (intro G; exact looked))); (apply dw_pure; (· exact rfl); (· exact rfl); (· (intro G; exact looked))); (apply dw_pure; (· exact rfl); (· exact rfl); (· (intro G; exact looked))); (apply dw_look; (· exact rfl); (· exact rfl); (· exact looked)); (apply dw_pure; (· exact rfl); (· exact rfl); (· (intro G; exact looked))); skip)
                  refine dw_do rfl rfl ?_ dw_stop
                  refine step_wanted rfl rfl ?_
                  refine s_call rfl (is_spec (G := (Y + X) + F) (p := p3) (q := qn) (L := L) hwas) rfl ?_
                  rintro _ _ ⟨e_, rfl⟩
                  obtain rfl := e_.symm
                  refine wpl_nil (qone ⟨(by refine st_past (by kernel_rfl) ?_; refine st_past (by kernel_rfl) ?_; refine st_past (by kernel_rfl) ?_; exact st_nil), ?_⟩)
                  ((apply dw_pure; (· exact rfl); (· exact rfl); (· (intro G; exact looked))); (apply dw_pure; (· exact rfl); (· exact rfl); (· (intro G; exact looked))); (apply dw_pure; (· exact rfl); (· exact rfl); (· (intro G; exact looked))); (apply dw_pure; (· exact rfl); (· exact rfl); (· (intro G; exact looked))); (apply dw_pure; (· exact rfl); (· exact rfl); (· (intro G; exact looked))); (apply dw_pure; (· exact rfl); (· exact rfl); (· (intro G; exact looked))); (apply dw_look; (· exact rfl); (· exact rfl); (· exact looked)); (apply dw_pure; (· exact rfl); (· exact rfl); (· (intro G; exact looked))); (apply dw_look; (· exact rfl); (· exact rfl); (· exact looked)); skip)
                  refine dw_do rfl rfl ?_ dw_stop
                  refine step_wanted rfl rfl ?_
                  refine s_call rfl (dSameL (p := p1) (p' := p3) (q := qn) (m := qn) (L := L2) (M := L)) rfl ?_
                  rintro _ _ ⟨e_, rfl⟩
                  obtain rfl := e_.symm
                  rw [hdec1]
                  refine wpl_nil (qone ⟨(by (refine st_again ?_ ?_; (· exact looked)); (refine st_again ?_ ?_; (· exact looked)); refine st_past (by kernel_rfl) ?_; refine st_past (by kernel_rfl) ?_; refine st_past (by kernel_rfl) ?_; exact st_nil), ?_⟩)
                  (skip)
                  refine dw_do rfl rfl ?_ dw_stop
                  refine step_wanted rfl rfl ?_
                  refine s_call rfl (sameInts_spec (xs := L2) (ys := L) (hrda.ent InH.ent) (hrdw.ent InH.ent)) rfl ?_
                  rintro _ _ ⟨e_, rfl⟩
                  obtain rfl := e_.symm
                  rw [hdec2]
                  refine wpl_nil (qone ⟨(by refine st_past (by kernel_rfl) ?_; refine st_past (by kernel_rfl) ?_; refine st_past (by kernel_rfl) ?_; refine st_past (by kernel_rfl) ?_; refine st_past (by kernel_rfl) ?_; exact st_nil), ?_⟩)
                  ((apply dw_pure; (· exact rfl); (· exact rfl); (· (intro G; exact looked))); (apply dw_pure; (· exact rfl); (· exact rfl); (· (intro G; exact looked))); refine dw_nil ?_; skip)
                  refine walk ?_
                  exact ⟨(i + 1, L2, M2, Y + X, (a5, c5), (a6, c6)), asided, agreed, Ent.auto, ⟨hlt, hl2, hm2, hra, hrb⟩, by simp only; omega⟩
          · have hrdL := hrL.rd
            have hrdM := hrM.rd
            refine walk ?_
            refine s_call rfl (dSameL (p := p1) (p' := p2) (q := qn) (m := mq) (L := L) (M := M)) rfl ?_
            rintro _ _ ⟨e2_, rfl⟩
            obtain rfl := e2_.symm
            by_cases hqm : qn = mq
            · by_cases hLM : L = M
              · rw [decide_eq_true (show qn = mq ∧ L = M from ⟨hqm, hLM⟩)]
                refine walk ?_
                refine s_call rfl (sameInts_spec (xs := L) (ys := M) (hrdL.ent InH.ent) (hrdM.ent InH.ent)) rfl ?_
                rintro _ _ ⟨e3_, rfl⟩
                obtain rfl := e3_.symm
                rw [decide_eq_true hLM]
                refine walk ?_
                refine s_call rfl (is_spec (G := X + F) (p := p1) (q := qn) (L := L) hrL) rfl ?_
                rintro _ _ ⟨e4_, rfl⟩
                obtain rfl := e4_.symm
                refine walk ?_
                refine s_call rfl (works_spec) rfl ?_
                rintro _ _ ⟨e_, rfl⟩
                obtain rfl := e_.symm
                refine walk ?_
                exact ret1 (v := .bool _) (.inr rfl) rfl rfl ⟨Ent.auto, rfl⟩
              · rw [decide_eq_false (show ¬ (qn = mq ∧ L = M) from fun h => hLM h.2)]
                refine walk ?_
                refine s_call rfl (sameInts_spec (xs := L) (ys := M) (hrdL.ent InH.ent) (hrdM.ent InH.ent)) rfl ?_
                rintro _ _ ⟨e3_, rfl⟩
                obtain rfl := e3_.symm
                rw [decide_eq_false hLM]
                refine walk ?_
                refine s_call rfl (is_spec (G := X + F) (p := p1) (q := qn) (L := L) hrL) rfl ?_
                rintro _ _ ⟨e4_, rfl⟩
                obtain rfl := e4_.symm
                refine walk ?_
                refine s_call rfl (works_spec) rfl ?_
                rintro _ _ ⟨e_, rfl⟩
                obtain rfl := e_.symm
                refine walk ?_
                exact ret1 (v := .bool _) (.inr rfl) rfl rfl ⟨Ent.auto, rfl⟩
            · rw [decide_eq_false (show ¬ (qn = mq ∧ L = M) from fun h => hqm h.1)]
              refine walk ?_
              refine s_call rfl (is_spec (G := X + F) (p := p1) (q := qn) (L := L) hrL) rfl ?_
              rintro _ _ ⟨e4_, rfl⟩
              obtain rfl := e4_.symm
              refine walk ?_
              refine s_call rfl (works_spec) rfl ?_
              rintro _ _ ⟨e_, rfl⟩
              obtain rfl := e_.symm
              refine walk ?_
              exact ret1 (v := .bool _) (.inr rfl) rfl rfl ⟨Ent.auto, rfl⟩
        · refine walk ?_
          refine s_call rfl (dNew (q := qn) hroom hl hlc) rfl ?_
          rintro _ _ ⟨p1, rfl, rfl⟩
          refine walk ?_
          refine s_call rfl (rRoom (q := (qn : Int))) rfl ?_
          rintro _ _ ⟨e_, rfl⟩
          obtain rfl := e_.symm
          rw [show (decide (0 ≤ (qn : Int)) && isRoom (qn : Int).toNat) = true by simp [hroom]]
          refine walk ?_
          refine s_call rfl (works_spec) rfl ?_
          rintro _ _ ⟨e_, rfl⟩
          obtain rfl := e_.symm
          refine walk ?_
          exact ret1 (v := .bool _) (.inr rfl) rfl rfl ⟨Ent.drop_left _ _, rfl⟩
    · refine walk ?_
      refine s_call rfl (works_spec) rfl ?_
      rintro _ _ ⟨e_, rfl⟩
      obtain rfl := e_.symm
      refine walk ?_
      exact ret1 (v := .bool _) (.inr rfl) rfl rfl ⟨Ent.refl _, rfl⟩
end
end Go.Proofs.Ytcnpcmdcbafaeaa
