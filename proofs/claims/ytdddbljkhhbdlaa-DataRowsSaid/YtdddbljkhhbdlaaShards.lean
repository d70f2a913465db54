/-
The contract of data.Shards: it answers shards of like sizes, one behind the other, in a list of its own.
-/
import Derived.Test.YtdddbljkhhbdlaaProg
import Derived.Test.YtdddbljkhhbdlaaMath
namespace Go.Proofs.Ytdddbljkhhbdlaa
open Go.RowKit

theorem info29 : (Try.prog.info? 29).map (fun i => (i.zero, i.size, i.bytes)) = some (some (.agg #[.int .i64 0, .int .i64 0]), 2, 16) := by kernel_rfl

set_option maxHeartbeats 1000000 in
theorem shards_bad (n p : Int) (w : World) (h : n < 0 ∨ p < 1) :
    Calls Try.prog 13 #[.int .i64 n, .int .i64 p] w fun e w' => e = .returned (.tuple #[.slice none 0 0, .int .i64 1]) ∧ w = w' := by
  by_cases hn : n < 0
  · go_enter Try.func13, Try.ntmps13
    go_wp2
    go_ret2
    exact ⟨rfl, rfl⟩
  · have hp : p < 1 := by omega
    have hn' : 0 ≤ n := by omega
    clear h hn
    go_enter Try.func13, Try.ntmps13
    go_wp2
    go_ret2
    exact ⟨rfl, rfl⟩

set_option maxHeartbeats 1000000 in
theorem shards_long (n p : Int) (w : World) (h0 : 0 ≤ n) (h1 : 1 ≤ p) (h : 4096 < n ∨ 16 < p) :
    Calls Try.prog 13 #[.int .i64 n, .int .i64 p] w fun e w' => e = .returned (.tuple #[.slice none 0 0, .int .i64 2]) ∧ w = w' := by
  by_cases hn : 4096 < n
  · go_enter Try.func13, Try.ntmps13
    go_wp2
    go_ret2
    exact ⟨rfl, rfl⟩
  · have hp : 16 < p := by omega
    have hn' : n ≤ 4096 := by omega
    clear h hn
    go_enter Try.func13, Try.ntmps13
    go_wp2
    go_ret2
    exact ⟨rfl, rfl⟩

set_option maxRecDepth 100000 in
set_option maxHeartbeats 1000000 in
theorem shards_ok (n p : Nat) (w : World) (h0 : n ≤ 4096) (h1 : 1 ≤ p) (h2 : p ≤ 16) :
    Calls Try.prog 13 #[.int .i64 n, .int .i64 p] w (RetPairs w.heap.size p (shCut n p) w) := by
  obtain ⟨i0, hi, hz0, hz1, hz2⟩ := info_parts info29
  go_enter Try.func13, Try.ntmps13
  go_wp2
  go_loopw [6, 7, 25] (fun v f i wr => ∃ k : Nat, k ≤ p ∧ i = .int .i64 k ∧ f = .int .i64 (shCut n p k) ∧ wr.ownsRow w.heap.size 29 2 v k (prs (shCut n p) k) ∧ Below w.heap.size w wr) (fun _ _ i _ => p - (intOf i).toNat)
  case atStart => exact ⟨0, Nat.zero_le _, rfl, by simp [shCut_zero], World.ownsRow_nil _ _ _ _, Below.refl _ _⟩
  case round =>
    obtain ⟨k, hk, rfl, rfl, hown, hb⟩ := hrel
    have hc := shCut_le n p h1 hk
    have hq0 : (0 : Int) ≤ (n : Int) / (p : Int) := Int.ediv_nonneg (by omega) (by omega)
    have hq1 : (n : Int) / (p : Int) ≤ 4096 := by
      have : n / p ≤ n := Nat.div_le_self _ _
      have e : (n : Int) / (p : Int) = ((n / p : Nat) : Int) := by simp
      omega
    by_cases hlt : k < p
    · have hs := shCut_succ n p k
      have hc1 := shCut_le n p h1 (i := k + 1) hlt
      have hBr := hb.size
      by_cases hr : (k : Int) < (n : Int) % (p : Int)
      · have HS : Hid ((shCut n p k : Int) + (n : Int) / (p : Int) + 1 = (shCut n p (k + 1) : Int)) := by
          have hr' : k < n % p := by
            have : (n : Int) % (p : Int) = ((n % p : Nat) : Int) := by simp
            omega
          rw [if_pos hr'] at hs
          show _ = _
          rw [hs]
          simp
        clear hs
        go_wp2_with (at_builtin; refine wpList_append_own _ rfl _ _ 23 rfl w.heap.size 29 i0 (.agg #[.int .i64 0, .int .i64 0]) 2 16 Try.underlying23 hi hz0 hz1 hz2 rfl (by decide) _ _ _ rfl (hown.alloc _) ⟨wr.heap.size, 0, none⟩ 1 1 [.int .i64 (shCut n p k : Int), .int .i64 ((shCut n p k : Int) + (n : Int) / (p : Int) + 1)] rfl rfl (cell_two_new _ _ _ _) (fun x hx => by simp at hx; rcases hx with rfl | rfl <;> rfl) (by unfold maxLen; omega) (by omega) (by simp; omega) ?_; intro v' w1 hown' hgrow _)
        rw [HS.out] at hown' ⊢
        have hb1 : Below w.heap.size w w1 := (hb.alloc hBr _).grown hgrow (by simp; omega) (fun j e => (hown.lt j e).1)
        clear hgrow hown hb
        go_wp2
        go_roundw
        case rel => exact ⟨k + 1, hlt, by go_num, rfl, hown', hb1⟩
        case measure => simp [intOf]; omega
      · have HS : Hid ((shCut n p k : Int) + (n : Int) / (p : Int) = (shCut n p (k + 1) : Int)) := by
          have hr' : ¬ k < n % p := by
            have : (n : Int) % (p : Int) = ((n % p : Nat) : Int) := by simp
            omega
          rw [if_neg hr'] at hs
          show _ = _
          rw [hs]
          simp
        clear hs
        go_wp2_with (at_builtin; refine wpList_append_own _ rfl _ _ 23 rfl w.heap.size 29 i0 (.agg #[.int .i64 0, .int .i64 0]) 2 16 Try.underlying23 hi hz0 hz1 hz2 rfl (by decide) _ _ _ rfl (hown.alloc _) ⟨wr.heap.size, 0, none⟩ 1 1 [.int .i64 (shCut n p k : Int), .int .i64 ((shCut n p k : Int) + (n : Int) / (p : Int))] rfl rfl (cell_two_new _ _ _ _) (fun x hx => by simp at hx; rcases hx with rfl | rfl <;> rfl) (by unfold maxLen; omega) (by omega) (by simp; omega) ?_; intro v' w1 hown' hgrow _)
        rw [HS.out] at hown' ⊢
        have hb1 : Below w.heap.size w w1 := (hb.alloc hBr _).grown hgrow (by simp; omega) (fun j e => (hown.lt j e).1)
        clear hgrow hown hb
        go_wp2
        go_roundw
        case rel => exact ⟨k + 1, hlt, by go_num, rfl, hown', hb1⟩
        case measure => simp [intOf]; omega
    · obtain rfl : k = p := by omega
      go_wp2
      go_ret2
      exact ⟨_, rfl, hown, hb⟩
end Go.Proofs.Ytdddbljkhhbdlaa
