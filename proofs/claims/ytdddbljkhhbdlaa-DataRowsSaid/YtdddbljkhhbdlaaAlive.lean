/-
The contract of pupillaw19.alive: true, whatever the world; nothing that was there turns.
-/
import Derived.Test.YtdddbljkhhbdlaaShards
import Derived.Deep.AppendLies
import Derived.Test.YtdddbljkhhbdlaaPairEq
namespace Go.Proofs.Ytdddbljkhhbdlaa
open Go.RowKit

set_option maxRecDepth 100000 in
set_option maxHeartbeats 1000000 in
theorem alive_any (w : World) : Calls Try.prog 12 #[] w fun e w' => e = .returned (.bool true) ∧ Below w.heap.size w w' := by
  go_enter Try.func12, Try.ntmps12
  go_wp2_with (go_at_call 13; refine (shards_ok 7 3 _ (by omega) (by omega) (by omega)).mono ?_; rintro e w1 ⟨v, rfl, hown, hb⟩; obtain ⟨g, cap, rfl, hg, hlt⟩ := hown.form (by omega); have c0 := hown.cellAt 0 (by omega); have c1 := hown.cellAt 1 (by omega); have c2 := hown.cellAt 2 (by omega); have c3 := hown.cellAt 3 (by omega); have c4 := hown.cellAt 4 (by omega); have c5 := hown.cellAt 5 (by omega); simp [prs, shCut] at c0 c1 c2 c3 c4 c5)
  go_ret
  exact ⟨rfl, hb⟩
end Go.Proofs.Ytdddbljkhhbdlaa
