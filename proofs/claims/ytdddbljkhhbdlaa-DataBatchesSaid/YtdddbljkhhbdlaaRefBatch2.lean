/-
The document's own Batch, where it refuses.
-/
import Derived.Test.YtdddbljkhhbdlaaRefBatch
namespace Go.Proofs.Ytdddbljkhhbdlaa
open Go.RowKit

set_option maxRecDepth 100000 in
set_option maxHeartbeats 2000000 in
theorem refbatch_index (n k : Nat) (bi : Int) (s ep : Int) (w : World) (h0 : 0 < n) (h1 : n ≤ 4096) (he0 : 0 ≤ ep) (he1 : ep ≤ 9223372036854775807) (hk0 : 0 < k) (hk1 : k ≤ 256) (hbi : bi < 0 ∨ (((n + k - 1) / k : Nat) : Int) ≤ bi) :
    Calls Try.prog 47 #[.int .i64 n, .int .i64 k, .int .i64 s, .int .i64 ep, .int .i64 bi] w fun e w' => e = .returned (.tuple #[.slice none 0 0, .int .i64 5]) ∧ Below w.heap.size w w' := by
  obtain ⟨all, hall⟩ : ∃ all, all = (n + k - 1) / k := ⟨_, rfl⟩
  rw [← hall] at hbi
  have HA := Lib.hid hall
  clear hall
  go_enter Try.func47, Try.ntmps47
  go_wp2_with fail
  refine (refbatches_ok n k _ h0 hk0 h1 hk1).mono ?_
  rintro e w1 ⟨rfl, rfl⟩
  rw [← HA.out]
  go_wp2_with fail
  refine (reforder_ok n s ep _ h0 h1 he0 he1).mono ?_
  rintro e w2 ⟨v, b, l, rfl, hM, hr, hb⟩
  obtain ⟨aa, ca, rfl, na, fa⟩ := own_form hr
  clear na fa hM hr
  by_cases h : bi < 0
  · clear hbi
    go_wp2
    go_ret2
    exact ⟨rfl, hb⟩
  · have h' : (all : Int) ≤ bi := by omega
    have h'' : 0 ≤ bi := by omega
    clear hbi h
    go_wp2
    go_ret2
    exact ⟨rfl, hb⟩

set_option maxRecDepth 100000 in
set_option maxHeartbeats 2000000 in
theorem refbatch_epoch (n k : Nat) (bi : Int) (s ep : Int) (w : World) (h0 : 0 < n) (h1 : n ≤ 4096) (he0 : ep < 0) (hk0 : 0 < k) (hk1 : k ≤ 256) :
    Calls Try.prog 47 #[.int .i64 n, .int .i64 k, .int .i64 s, .int .i64 ep, .int .i64 bi] w fun e w' => e = .returned (.tuple #[.slice none 0 0, .int .i64 1]) ∧ w = w' := by
  obtain ⟨all, hall⟩ : ∃ all, all = (n + k - 1) / k := ⟨_, rfl⟩
  have HA := Lib.hid hall
  clear hall
  go_enter Try.func47, Try.ntmps47
  go_wp2_with fail
  refine (refbatches_ok n k _ h0 hk0 h1 hk1).mono ?_
  rintro e w1 ⟨rfl, rfl⟩
  rw [← HA.out]
  go_wp2_with fail
  refine (reforder_bad n s ep _ (.inr he0)).mono ?_
  rintro e w2 ⟨rfl, rfl⟩
  go_wp2
  go_ret2
  exact ⟨rfl, rfl⟩
set_option maxRecDepth 100000 in
set_option maxHeartbeats 2000000 in
theorem refbatch_bad (n k bi s ep : Int) (w : World) (h : n < 1 ∨ k < 1) :
    Calls Try.prog 47 #[.int .i64 n, .int .i64 k, .int .i64 s, .int .i64 ep, .int .i64 bi] w fun e w' => e = .returned (.tuple #[.slice none 0 0, .int .i64 1]) ∧ w = w' := by
  go_enter Try.func47, Try.ntmps47
  go_wp2_with fail
  refine (refbatches_bad n k _ h).mono ?_
  rintro e w1 ⟨rfl, rfl⟩
  go_wp2
  go_ret2
  exact ⟨rfl, rfl⟩
set_option maxRecDepth 100000 in
set_option maxHeartbeats 2000000 in
theorem refbatch_long (n k bi s ep : Int) (w : World) (h0 : 1 ≤ n) (h1 : 1 ≤ k) (h : 4096 < n ∨ 256 < k) :
    Calls Try.prog 47 #[.int .i64 n, .int .i64 k, .int .i64 s, .int .i64 ep, .int .i64 bi] w fun e w' => e = .returned (.tuple #[.slice none 0 0, .int .i64 2]) ∧ w = w' := by
  go_enter Try.func47, Try.ntmps47
  go_wp2_with fail
  refine (refbatches_long n k _ h0 h1 h).mono ?_
  rintro e w1 ⟨rfl, rfl⟩
  go_wp2
  go_ret2
  exact ⟨rfl, rfl⟩
end Go.Proofs.Ytdddbljkhhbdlaa
