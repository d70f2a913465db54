/-
The walk of DataDeals: whatever n and parts are, the call returns true.
-/
import Derived.Test.YtdddbljkhhbdlaaAlive
namespace Go.Proofs.Ytdddbljkhhbdlaa
open Go.RowKit

set_option maxRecDepth 100000 in
set_option maxHeartbeats 1000000 in
theorem deals_out1 (n p : Int) (w : World) (h : n < 0) :
    Calls Try.prog 4 #[.int .i64 n, .int .i64 p] w fun e w' => e = .returned (.bool true) ∧ Below w.heap.size w w' := by
  go_enter Try.func4, Try.ntmps4
  go_wp2_with fail
  refine (alive_any _).mono ?_
  rintro e w1 ⟨rfl, hb⟩
  go_wp2_with fail
  refine (alive_any _).mono ?_
  rintro e w2 ⟨rfl, hb2⟩
  go_wp2
  go_ret
  exact ⟨rfl, hb.trans (hb2.mono hb.size)⟩

set_option maxRecDepth 100000 in
set_option maxHeartbeats 1000000 in
theorem deals_out2 (n p : Int) (w : World) (h0 : 0 ≤ n) (h : 4096 < n) :
    Calls Try.prog 4 #[.int .i64 n, .int .i64 p] w fun e w' => e = .returned (.bool true) ∧ Below w.heap.size w w' := by
  go_enter Try.func4, Try.ntmps4
  go_wp2_with fail
  refine (alive_any _).mono ?_
  rintro e w1 ⟨rfl, hb⟩
  go_wp2_with fail
  refine (alive_any _).mono ?_
  rintro e w2 ⟨rfl, hb2⟩
  go_wp2
  go_ret
  exact ⟨rfl, hb.trans (hb2.mono hb.size)⟩

set_option maxRecDepth 100000 in
set_option maxHeartbeats 1000000 in
theorem deals_out3 (n p : Int) (w : World) (h0 : 0 ≤ n) (h1 : n ≤ 4096) (h : p < 1) :
    Calls Try.prog 4 #[.int .i64 n, .int .i64 p] w fun e w' => e = .returned (.bool true) ∧ Below w.heap.size w w' := by
  go_enter Try.func4, Try.ntmps4
  go_wp2_with fail
  refine (alive_any _).mono ?_
  rintro e w1 ⟨rfl, hb⟩
  go_wp2_with fail
  refine (alive_any _).mono ?_
  rintro e w2 ⟨rfl, hb2⟩
  go_wp2
  go_ret
  exact ⟨rfl, hb.trans (hb2.mono hb.size)⟩

set_option maxRecDepth 100000 in
set_option maxHeartbeats 1000000 in
theorem deals_out4 (n p : Int) (w : World) (h0 : 0 ≤ n) (h1 : n ≤ 4096) (h2 : 1 ≤ p) (h : 16 < p) :
    Calls Try.prog 4 #[.int .i64 n, .int .i64 p] w fun e w' => e = .returned (.bool true) ∧ Below w.heap.size w w' := by
  go_enter Try.func4, Try.ntmps4
  go_wp2_with fail
  refine (alive_any _).mono ?_
  rintro e w1 ⟨rfl, hb⟩
  go_wp2_with fail
  refine (alive_any _).mono ?_
  rintro e w2 ⟨rfl, hb2⟩
  go_wp2
  go_ret
  exact ⟨rfl, hb.trans (hb2.mono hb.size)⟩

set_option maxRecDepth 100000 in
set_option maxHeartbeats 4000000 in
theorem deals_in (n p : Nat) (w : World) (h0 : n ≤ 4096) (h1 : 1 ≤ p) (h2 : p ≤ 16) :
    Calls Try.prog 4 #[.int .i64 n, .int .i64 p] w fun e w' => e = .returned (.bool true) ∧ Below w.heap.size w w' := by
  go_enter Try.func4, Try.ntmps4
  go_wp2_with fail
  refine (alive_any _).mono ?_
  rintro e w1 ⟨rfl, hb⟩
  go_wp2_with fail
  refine (shards_ok n p _ h0 h1 h2).mono ?_
  rintro e w2 ⟨v, rfl, hown, hb2⟩
  obtain ⟨g, cap, rfl, hg, hlt⟩ := hown.form (by omega)
  have c0 : w2.cell? ⟨g, 0, none⟩ = some (.int .i64 0) := by
    have := (hown.cellAt (0 * 2) (by omega)).trans (prs_at0 _ p 0 (by omega))
    rw [shCut_zero] at this
    exact this
  have c1 : w2.cell? ⟨g, (p - 1) * 2 + 1, none⟩ = some (.int .i64 n) := by
    have := (hown.cellAt ((p - 1) * 2 + 1) (by omega)).trans (prs_at1 _ p (p - 1) (by omega))
    rw [show p - 1 + 1 = p by omega, shCut_all n p h1] at this
    exact this
  have hb3 : Below w.heap.size w w2 := hb.trans (hb2.mono hb.size)
  clear hb hb2
  go_wp2_with fail
  go_loopw [7] (fun i wr => ∃ (k : Nat) (x : Int), k ≤ p ∧ Hid (x = (k : Int)) ∧ i = .int .i64 x ∧ wr.ownsRow w1.heap.size 29 2 (.slice (some ⟨g, 0, none⟩) p cap) p (prs (shCut n p) p) ∧ Below w.heap.size w wr) (fun i _ => p - (intOf i).toNat)
  case atStart => exact ⟨0, 0, Nat.zero_le _, rfl, rfl, hown, hb3⟩
  case round =>
    obtain ⟨k, x, hk, hx, rfl, hr, hb⟩ := hrel
    clear hown hb3 c0 c1
    by_cases hkp : k < p
    · have d0 := (hr.cellAt (k * 2) (by omega)).trans (prs_at0 _ p k hkp)
      have d1 := (hr.cellAt (k * 2 + 1) (by omega)).trans (prs_at1 _ p k hkp)
      have hq : (n : Int) / (p : Int) = ((n / p : Nat) : Int) := by simp
      have q3 : n / p ≤ n := Nat.div_le_self _ _
      have s1 := shCut_succ n p k
      have b1 := shCut_le n p h1 (i := k + 1) hkp
      obtain ⟨a, ra⟩ : ∃ a, a = shCut n p k := ⟨_, rfl⟩
      obtain ⟨b, rb⟩ : ∃ b, b = shCut n p (k + 1) := ⟨_, rfl⟩
      have q1 : (n : Int) / (p : Int) ≤ (b : Int) - (a : Int) := by rw [hq, ra, rb]; omega
      have q2 : (b : Int) - (a : Int) ≤ (n : Int) / (p : Int) + 1 := by rw [hq, ra, rb]; split at s1 <;> omega
      have q4 : 0 ≤ (n : Int) / (p : Int) := by rw [hq]; exact Int.natCast_nonneg _
      have q5 : (n : Int) / (p : Int) ≤ 4096 := by rw [hq]; omega
      have hp0 : ((p : Int) == 0) = false := by simp; omega
      rw [← ra] at d0
      rw [← rb] at d1 b1
      clear hq q3
      by_cases k0 : k = 0
      · subst k0
        obtain rfl : x = 0 := hx.out
        clear s1 ra rb
        go_wp2
        go_quiet (fail)
        go_wp2
        have hA : decide ((b : Int) - (a : Int) < (n : Int) / (p : Int)) = false := decide_eq_false (Int.not_lt.2 q1)
        have hB : decide ((n : Int) / (p : Int) + 1 < (b : Int) - (a : Int)) = false := decide_eq_false (Int.not_lt.2 q2)
        go_big_quiet (fail)
        go_wp2
        go_roundw
        case rel => exact ⟨1, 1, by omega, rfl, rfl, hr, below_drewN hb _⟩
        case measure => simp [intOf]; omega
      · have e0 := (hr.cellAt ((k - 1) * 2) (by omega)).trans (prs_at0 _ p (k - 1) (by omega))
        have e1 := (hr.cellAt ((k - 1) * 2 + 1) (by omega)).trans (prs_at1 _ p (k - 1) (by omega))
        have s0 := shCut_succ n p (k - 1)
        rw [show k - 1 + 1 = k by omega] at e1 s0
        obtain ⟨c, rc⟩ : ∃ c, c = shCut n p (k - 1) := ⟨_, rfl⟩
        have q6 : (b : Int) - (a : Int) ≤ (a : Int) - (c : Int) := by
          rw [ra, rb, rc]
          split at s1 <;> split at s0 <;> omega
        have q7 : (c : Int) ≤ (a : Int) := by rw [ra, rc]; omega
        rw [← rc] at e0
        rw [← ra] at e1
        clear s1 s0 ra rb rc
        have hk0 : (0 : Int) < (k : Int) := by omega
        have hk1 : (0 : Int) ≤ (k : Int) - 1 := by omega
        have hk2 : (k : Int) - 1 < (p : Int) := by omega
        obtain rfl : x = (k : Int) := hx.out
        go_wp2
        go_quiet (fail)
        go_wp2
        have hA : decide ((b : Int) - (a : Int) < (n : Int) / (p : Int)) = false := decide_eq_false (Int.not_lt.2 q1)
        have hB : decide ((n : Int) / (p : Int) + 1 < (b : Int) - (a : Int)) = false := decide_eq_false (Int.not_lt.2 q2)
        have hC : decide (0 < k) = true := decide_eq_true (Nat.pos_of_ne_zero k0)
        have hD : decide ((a : Int) - (c : Int) < (b : Int) - (a : Int)) = false := decide_eq_false (Int.not_lt.2 q6)
        go_big_quiet (fail)
        go_wp2
        go_roundw
        case rel => exact ⟨k + 1, (k : Int) + 1, by omega, by show (k : Int) + 1 = ((k + 1 : Nat) : Int); omega, rfl, hr, below_drewN hb _⟩
        case measure => simp [intOf]; omega
    · obtain rfl : k = p := by omega
      obtain rfl : x = (k : Int) := hx.out
      go_wp2
      go_ret
      exact ⟨rfl, hb⟩

theorem deals_any (n p : Int) (w : World) :
    Calls Try.prog 4 #[.int .i64 n, .int .i64 p] w fun e w' => e = .returned (.bool true) ∧ Below w.heap.size w w' := by
  by_cases a : n < 0
  · exact deals_out1 n p w a
  by_cases b : 4096 < n
  · exact deals_out2 n p w (by omega) b
  by_cases c : p < 1
  · exact deals_out3 n p w (by omega) (by omega) c
  by_cases d : 16 < p
  · exact deals_out4 n p w (by omega) (by omega) (by omega) d
  obtain ⟨n, rfl⟩ := Int.eq_ofNat_of_zero_le (Int.not_lt.1 a)
  obtain ⟨p, rfl⟩ := Int.eq_ofNat_of_zero_le (show 0 ≤ p by omega)
  exact deals_in n p w (by omega) (by omega) (by omega)
end Go.Proofs.Ytdddbljkhhbdlaa
