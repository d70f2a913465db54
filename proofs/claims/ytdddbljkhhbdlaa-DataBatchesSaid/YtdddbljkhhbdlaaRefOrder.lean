/-
The contracts of the document's own Order and Batches.
-/
import Derived.Test.YtdddbljkhhbdlaaRefShuffle
namespace Go.Proofs.Ytdddbljkhhbdlaa
open Go.RowKit

set_option maxHeartbeats 1000000 in
theorem reforder_bad (n s ep : Int) (w : World) (h : n < 1 ∨ ep < 0) :
    Calls Try.prog 43 #[.int .i64 n, .int .i64 s, .int .i64 ep] w fun e w' => e = .returned (.tuple #[.slice none 0 0, .int .i64 1]) ∧ w = w' := by
  by_cases hn : n < 1
  · go_enter Try.func43, Try.ntmps43
    go_wp2
    go_ret2
    exact ⟨rfl, rfl⟩
  · have hp : ep < 0 := by omega
    have hn' : 1 ≤ n := by omega
    clear h hn
    go_enter Try.func43, Try.ntmps43
    go_wp2
    go_ret2
    exact ⟨rfl, rfl⟩
set_option maxHeartbeats 1000000 in
theorem reforder_long (n s ep : Int) (w : World) (h : 4096 < n) (h0 : 0 ≤ ep) :
    Calls Try.prog 43 #[.int .i64 n, .int .i64 s, .int .i64 ep] w fun e w' => e = .returned (.tuple #[.slice none 0 0, .int .i64 2]) ∧ w = w' := by
  go_enter Try.func43, Try.ntmps43
  go_wp2
  go_ret2
  exact ⟨rfl, rfl⟩
set_option maxRecDepth 100000 in
set_option maxHeartbeats 2000000 in
theorem reforder_ok (n : Nat) (s ep : Int) (w : World) (h0 : 0 < n) (h1 : n ≤ 4096) (he0 : 0 ≤ ep) (he1 : ep ≤ 9223372036854775807) :
    Calls Try.prog 43 #[.int .i64 n, .int .i64 s, .int .i64 ep] w fun e w' => ∃ v b l, e = .returned (.tuple #[v, .int .i64 0]) ∧ Mixed s (-1 - ep) n 0 (n - 1) b l ∧
      w'.ownsRow w.heap.size 3 1 v n (cellsI l) ∧ Below w.heap.size w w' := by
  go_enter Try.func43, Try.ntmps43
  go_wp2_with fail
  refine (refshuffle_any _ s (-1 - ep) 0 n h0 (by omega)).mono ?_
  rintro e w2 ⟨v, b, l, rfl, hM, hr, hb⟩
  obtain ⟨aa, ca, rfl, na, fa⟩ := own_form hr
  unfold drawV
  go_wp2
  go_ret2
  exact ⟨_, b, l, rfl, hM, own_below hr ((Below.refl _ _).alloc (Nat.le_refl _) _) (Nat.le_refl _), hb.alloc hb.size _⟩
set_option maxHeartbeats 1000000 in
theorem refbatches_bad (n k : Int) (w : World) (h : n < 1 ∨ k < 1) :
    Calls Try.prog 45 #[.int .i64 n, .int .i64 k] w fun e w' => e = .returned (.tuple #[.int .i64 0, .int .i64 1]) ∧ w = w' := by
  by_cases hn : n < 1
  · go_enter Try.func45, Try.ntmps45
    go_wp2
    go_ret2
    exact ⟨rfl, rfl⟩
  · have hp : k < 1 := by omega
    have hn' : 1 ≤ n := by omega
    clear h hn
    go_enter Try.func45, Try.ntmps45
    go_wp2
    go_ret2
    exact ⟨rfl, rfl⟩
set_option maxHeartbeats 1000000 in
theorem refbatches_long (n k : Int) (w : World) (h0 : 1 ≤ n) (h1 : 1 ≤ k) (h : 4096 < n ∨ 256 < k) :
    Calls Try.prog 45 #[.int .i64 n, .int .i64 k] w fun e w' => e = .returned (.tuple #[.int .i64 0, .int .i64 2]) ∧ w = w' := by
  by_cases hn : 4096 < n
  · go_enter Try.func45, Try.ntmps45
    go_wp2
    go_ret2
    exact ⟨rfl, rfl⟩
  · have hp : 256 < k := by omega
    have hn' : n ≤ 4096 := by omega
    clear h hn
    go_enter Try.func45, Try.ntmps45
    go_wp2
    go_ret2
    exact ⟨rfl, rfl⟩
theorem ceil_eq (n k : Nat) (hk : 0 < k) : (n + k - 1) / k = n / k + if n % k = 0 then 0 else 1 := by
  have h1 := Nat.div_add_mod n k
  have h2 := Nat.mod_lt n hk
  by_cases h : n % k = 0
  · rw [if_pos h]
    refine Nat.div_eq_of_lt_le ?_ ?_
    · rw [Nat.add_zero, Nat.mul_comm]; omega
    · rw [Nat.add_zero, Nat.add_mul, Nat.mul_comm]; omega
  · rw [if_neg h]
    refine Nat.div_eq_of_lt_le ?_ ?_
    · rw [Nat.add_mul, Nat.mul_comm]; omega
    · rw [Nat.add_mul, Nat.add_mul, Nat.mul_comm]; omega
set_option maxHeartbeats 1000000 in
theorem refbatches_ok (n k : Nat) (w : World) (h0 : 0 < n) (h1 : 0 < k) (h2 : n ≤ 4096) (h3 : k ≤ 256) :
    Calls Try.prog 45 #[.int .i64 n, .int .i64 k] w fun e w' => e = .returned (.tuple #[.int .i64 ((n + k - 1) / k : Nat), .int .i64 0]) ∧ w = w' := by
  rw [ceil_eq n k h1]
  have hq : n / k ≤ n := Nat.div_le_self _ _
  have hq0 : (0 : Int) ≤ (n : Int) / (k : Int) := Int.ediv_nonneg (by omega) (by omega)
  have hq1 : (n : Int) / (k : Int) ≤ 4096 := by
    have e : (n : Int) / (k : Int) = ((n / k : Nat) : Int) := by simp
    omega
  by_cases hm : n % k = 0
  · have hm' : ¬ (0 : Int) < (n : Int) % (k : Int) := by
      have e : (n : Int) % (k : Int) = ((n % k : Nat) : Int) := by simp
      rw [e, hm]; simp
    rw [if_pos hm]
    clear hm
    go_enter Try.func45, Try.ntmps45
    go_wp2
    go_ret2
    exact ⟨by simp, rfl⟩
  · have hm' : (0 : Int) < (n : Int) % (k : Int) := by
      have e : (n : Int) % (k : Int) = ((n % k : Nat) : Int) := by simp
      omega
    rw [if_neg hm]
    clear hm
    go_enter Try.func45, Try.ntmps45
    go_wp2
    go_ret2
    exact ⟨by simp, rfl⟩
end Go.Proofs.Ytdddbljkhhbdlaa
