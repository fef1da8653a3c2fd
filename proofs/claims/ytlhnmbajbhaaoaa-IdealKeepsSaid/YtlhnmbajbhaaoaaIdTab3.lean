/- The table: what statuses may become. No condition. -/
import Derived.Test.YtlhnmbajbhaaoaaIdTab2
namespace Go.Proofs.Ytlhnmbajbhaaoaa
open Go Go.SL
set_option linter.unusedSimpArgs false
set_option linter.unusedVariables false
set_option maxRecDepth 10000
set_option maxHeartbeats 1000000
attribute [local irreducible] WP WPL QSeq QBlk QRet Does Cell Cells Rd Mine Ent Aside RV
section
variable {B : World} {F : HProp} {p : Nat} {T : Tab}
/-- What a status may become, as a table of rows. -/
theorem become_spec : Does Try.prog B 91 [] F fun r H' => ∃ b1 b2 b3 b4 : Nat, r = .agg [.slice none 0 0, .slice (some ⟨b1, 0, none⟩) 1 1, .slice (some ⟨b2, 0, none⟩) 4 4, .slice (some ⟨b3, 0, none⟩) 1 1, .slice (some ⟨b4, 0, none⟩) 2 2].toArray ∧
    Ent H' (blk b1 (zs [2]) 3 + (blk b2 (zs [1, 3, 4, 0]) 3 + (blk b3 (zs [1]) 3 + (blk b4 (zs [2, 1]) 3 + F)))) := by
  refine fn_intro 6 Try.func91 rfl rfl rfl ?_
  refine walk ?_
  refine s_alloc rfl ?_
  intro b0
  refine walk ?_
  refine s_buildInts (cs := [.int _ _]) rfl rfl rfl rfl rfl ?_
  intro b1
  refine s_buildInts (cs := [.int _ _, .int _ _, .int _ _, .int _ _]) rfl rfl rfl rfl rfl ?_
  intro b2
  refine s_buildInts (cs := [.int _ _]) rfl rfl rfl rfl rfl ?_
  intro b3
  refine s_buildInts (cs := [.int _ _, .int _ _]) rfl rfl rfl rfl rfl ?_
  intro b4
  refine s_buildA (cs := [.slice none 0 0, .slice (some ⟨b1, 0, none⟩) 1 1, .slice (some ⟨b2, 0, none⟩) 4 4, .slice (some ⟨b3, 0, none⟩) 1 1, .slice (some ⟨b4, 0, none⟩) 2 2]) rfl rfl ?_
  refine s_storeA rfl (vs := [.slice none 0 0, .slice (some ⟨b1, 0, none⟩) 1 1, .slice (some ⟨b2, 0, none⟩) 4 4, .slice (some ⟨b3, 0, none⟩) 1 1, .slice (some ⟨b4, 0, none⟩) 2 2]) rfl rfl rfl (Nat.le_refl _) rfl ?_
  refine walk ?_
  refine retR1 (.inr rfl) rfl (rv_cellA rfl Cells.blk0 rfl) ⟨b1, b2, b3, b4, rfl, ?_⟩
  refine Ent.trans (Ent.drop_left _ _) (Ent.ac (by simp only [zs, List.map_cons, List.map_nil]; ac_rfl))
end
end Go.Proofs.Ytlhnmbajbhaaoaa
