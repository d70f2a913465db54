/-
optim.finite of three small whole numbers.
-/
import Derived.Test.YtdddbljkhhbdlaaWholeFit
import Derived.Laws.FloatArith
namespace Go.Proofs.Ytdddbljkhhbdlaa
open Go.RowKit

set_option maxRecDepth 100000 in
set_option maxHeartbeats 2000000 in
theorem fin32 (g c : Nat) (l : List Int) (hl : ∀ j, j < 3 → SmallN (l.getD j 0)) (w : World) (hc : ∀ j, j < 3 → w.cell? ⟨g, j, none⟩ = some (.float .f32 (floatOfInt .f32 (l.getD j 0)))) :
    Calls Try.prog 145 #[.slice (some ⟨g, 0, none⟩) 3 c] w fun e w' => e = .returned (.int .i64 0) ∧ w' = w := by
  have HL := Lib.hid hl
  have HC := Lib.hid hc
  clear hl hc
  go_enter Try.func145, Try.ntmps145
  go_wp2_with fail
  go_loop [7] (fun i => ∃ k : Nat, k ≤ 3 ∧ i = .int .i64 k) (fun i => 3 - (intOf i).toNat)
  case atStart => exact ⟨0, by omega, rfl⟩
  case round =>
    obtain ⟨k, hk, rfl⟩ := hrel
    by_cases hlt : k < 3
    · have e0 := HC.out k hlt
      have hs := order_self .f32 _ (HL.out k hlt)
      have hi := fun w => infinite32 _ (HL.out k hlt) w
      generalize floatOfInt .f32 (l.getD k 0) = x at e0 hs hi
      go_wp2_with (go_at_call 95; refine (hi _).mono ?_; rintro e w' ⟨rfl, rfl⟩)
      go_round
      case rel => exact ⟨k + 1, by omega, by go_num⟩
      case measure => simp [intOf]; omega
    · obtain rfl : k = 3 := by omega
      go_wp2_with fail
      go_ret
      exact ⟨rfl, rfl⟩

set_option maxRecDepth 100000 in
set_option maxHeartbeats 2000000 in
theorem fin64 (g c : Nat) (l : List Int) (hl : ∀ j, j < 3 → SmallN (l.getD j 0)) (w : World) (hc : ∀ j, j < 3 → w.cell? ⟨g, j, none⟩ = some (.float .f64 (floatOfInt .f64 (l.getD j 0)))) :
    Calls Try.prog 150 #[.slice (some ⟨g, 0, none⟩) 3 c] w fun e w' => e = .returned (.int .i64 0) ∧ w' = w := by
  have HL := Lib.hid hl
  have HC := Lib.hid hc
  clear hl hc
  go_enter Try.func150, Try.ntmps150
  go_wp2_with fail
  go_loop [7] (fun i => ∃ k : Nat, k ≤ 3 ∧ i = .int .i64 k) (fun i => 3 - (intOf i).toNat)
  case atStart => exact ⟨0, by omega, rfl⟩
  case round =>
    obtain ⟨k, hk, rfl⟩ := hrel
    by_cases hlt : k < 3
    · have e0 := HC.out k hlt
      have hs := order_self .f64 _ (HL.out k hlt)
      have hi := fun w => infinite64 _ (HL.out k hlt) w
      generalize floatOfInt .f64 (l.getD k 0) = x at e0 hs hi
      go_wp2_with (go_at_call 163; refine (hi _).mono ?_; rintro e w' ⟨rfl, rfl⟩)
      go_round
      case rel => exact ⟨k + 1, by omega, by go_num⟩
      case measure => simp [intOf]; omega
    · obtain rfl : k = 3 := by omega
      go_wp2_with fail
      go_ret
      exact ⟨rfl, rfl⟩
end Go.Proofs.Ytdddbljkhhbdlaa
