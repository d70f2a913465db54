/-
The contracts of tensor.Sized and of the document's own.
-/
import Derived.Test.YtdddbljkhhbdlaaMath
import Derived.Test.YtdddbljkhhbdlaaProg
namespace Go.Proofs.Ytdddbljkhhbdlaa
open Go.RowKit

/-- The error of rows, columns and a width. -/
def szE (r c w : Int) : Int :=
  if w ≠ 32 ∧ w ≠ 64 then 3 else if r < 1 ∨ c < 1 then 4 else if 4096 < r ∨ 4096 < c ∨ 4096 < r * c then 2 else 0

theorem szE_ok {r c w : Int} (h : szE r c w = 0) : (w = 32 ∨ w = 64) ∧ 1 ≤ r ∧ 1 ≤ c ∧ r ≤ 4096 ∧ c ≤ 4096 ∧ r * c ≤ 4096 := by
  unfold szE at h
  split at h
  · omega
  · split at h
    · omega
    · split at h
      · omega
      · omega
theorem mul_small (r c : Int) (h0 : 1 ≤ r) (h1 : 1 ≤ c) (h2 : r ≤ 4096) (h3 : c ≤ 4096) : 0 ≤ r * c ∧ r * c ≤ 16777216 := by
  refine ⟨Int.mul_nonneg (by omega) (by omega), ?_⟩
  have := Int.mul_le_mul h2 h3 (by omega) (by omega)
  omega

set_option maxHeartbeats 2000000 in
theorem sized_any (r c w : Int) (W : World) :
    Calls Try.prog 130 #[.int .i64 r, .int .i64 c, .int .i64 w] W fun e W' => e = .returned (.int .i64 (szE r c w)) ∧ W = W' := by
  by_cases hw : w ≠ 32 ∧ w ≠ 64
  · have e : szE r c w = 3 := by unfold szE; rw [if_pos hw]
    rw [e]
    clear e
    have h1 : (w != 32) = true := by simp [hw.1]
    have h2 : (w != 64) = true := by simp [hw.2]
    clear hw
    go_enter Try.func130, Try.ntmps130
    go_wp2
    all_goals (first | (exfalso; omega) | (go_ret; exact ⟨rfl, rfl⟩))
  · by_cases hs : r < 1 ∨ c < 1
    · have e : szE r c w = 4 := by unfold szE; rw [if_neg hw, if_pos hs]
      rw [e]
      clear e
      have hw' : w = 32 ∨ w = 64 := by omega
      clear hw
      rcases hw' with rfl | rfl <;> by_cases hr : r < 1
      all_goals (try have hr' : 1 ≤ r := by omega)
      all_goals (try have hc' : c < 1 := by omega)
      all_goals
        clear hs
        go_enter Try.func130, Try.ntmps130
        go_wp2
        all_goals (first | (exfalso; omega) | (go_ret; exact ⟨rfl, rfl⟩))
    · by_cases hl : 4096 < r ∨ 4096 < c ∨ 4096 < r * c
      · have e : szE r c w = 2 := by unfold szE; rw [if_neg hw, if_neg hs, if_pos hl]
        rw [e]
        clear e
        have hr' : 1 ≤ r := by omega
        have hc' : 1 ≤ c := by omega
        have hw' : w = 32 ∨ w = 64 := by omega
        clear hw hs
        by_cases hm : 4096 < max r c
        · clear hl
          rcases hw' with rfl | rfl
          all_goals
            go_enter Try.func130, Try.ntmps130
            go_wp2
            all_goals (first | (exfalso; omega) | (go_ret; exact ⟨rfl, rfl⟩))
        · have h2 : r ≤ 4096 := by omega
          have h3 : c ≤ 4096 := by omega
          have h4 : 4096 < r * c := by omega
          obtain ⟨m0, m1⟩ := mul_small r c hr' hc' h2 h3
          have hm' : max r c ≤ 4096 := by omega
          clear hl hm
          rcases hw' with rfl | rfl
          all_goals
            go_enter Try.func130, Try.ntmps130
            go_wp2
            all_goals (first | (exfalso; omega) | (go_ret; exact ⟨rfl, rfl⟩))
      · have e : szE r c w = 0 := by unfold szE; rw [if_neg hw, if_neg hs, if_neg hl]
        rw [e]
        clear e
        have hr' : 1 ≤ r := by omega
        have hc' : 1 ≤ c := by omega
        have hw' : w = 32 ∨ w = 64 := by omega
        have h2 : r ≤ 4096 := by omega
        have h3 : c ≤ 4096 := by omega
        have h4 : r * c ≤ 4096 := by omega
        have hm' : max r c ≤ 4096 := by omega
        obtain ⟨m0, m1⟩ := mul_small r c hr' hc' h2 h3
        clear hw hs hl
        rcases hw' with rfl | rfl
        all_goals
          go_enter Try.func130, Try.ntmps130
          go_wp2
          all_goals (first | (exfalso; omega) | (go_ret; exact ⟨rfl, rfl⟩))
set_option maxHeartbeats 1000000 in
theorem refwidth_any (w : Int) (W : World) : Calls Try.prog 161 #[.int .i64 w] W fun e W' => e = .returned (.bool (decide (w = 32 ∨ w = 64))) ∧ W = W' := by
  by_cases h : w = 32
  · subst h
    go_enter Try.func161, Try.ntmps161
    go_wp2
    go_ret
    exact ⟨rfl, rfl⟩
  · by_cases h2 : w = 64
    · subst h2
      go_enter Try.func161, Try.ntmps161
      go_wp2
      go_ret
      exact ⟨rfl, rfl⟩
    · have e : decide (w = 32 ∨ w = 64) = false := decide_eq_false (by omega)
      rw [e]
      have h3 : (w == 32) = false := by simp [h]
      have h4 : (w == 64) = false := by simp [h2]
      clear h h2 e
      go_enter Try.func161, Try.ntmps161
      go_wp2
      go_ret
      exact ⟨by simp, rfl⟩
set_option maxHeartbeats 2000000 in
theorem refsized_any (r c w : Int) (W : World) :
    Calls Try.prog 133 #[.int .i64 r, .int .i64 c, .int .i64 w] W fun e W' => e = .returned (.int .i64 (szE r c w)) ∧ W = W' := by
  by_cases hw : w ≠ 32 ∧ w ≠ 64
  · have e : szE r c w = 3 := by unfold szE; rw [if_pos hw]
    rw [e]
    clear e
    have e : decide (w = 32 ∨ w = 64) = false := decide_eq_false (by omega)
    clear hw
    go_enter Try.func133, Try.ntmps133
    go_wp2_with fail
    refine (refwidth_any w _).mono ?_
    rintro e w1 ⟨rfl, rfl⟩
    rw [e]
    go_wp2
    go_ret
    exact ⟨rfl, rfl⟩
  · have ed : decide (w = 32 ∨ w = 64) = true := decide_eq_true (by omega)
    have ht : ∀ R : Int, (R = szE r c w) → (R = 4 ∧ (r < 1 ∨ c < 1)) ∨ (1 ≤ r ∧ 1 ≤ c ∧ ((R = 2 ∧ (4096 < r ∨ (r ≤ 4096 ∧ 4096 < c) ∨ (r ≤ 4096 ∧ c ≤ 4096 ∧ 4096 < r * c))) ∨ (R = 0 ∧ r ≤ 4096 ∧ c ≤ 4096 ∧ r * c ≤ 4096))) := by
      intro R hR
      unfold szE at hR
      rw [if_neg hw] at hR
      split at hR
      · exact .inl ⟨hR, by assumption⟩
      · right
        split at hR
        · exact ⟨by omega, by omega, .inl ⟨hR, by omega⟩⟩
        · exact ⟨by omega, by omega, .inr ⟨hR, by omega, by omega, by omega⟩⟩
    obtain ⟨R, hR⟩ : ∃ R, R = szE r c w := ⟨_, rfl⟩
    have h := ht R hR
    rw [← hR]
    clear ht hR hw
    rcases h with ⟨rfl, h | h⟩ | ⟨h1, h2, ⟨rfl, h | ⟨h3, h⟩ | ⟨h3, h4, h⟩⟩ | ⟨rfl, h3, h4, h5⟩⟩
    all_goals (try have m0 := (mul_small r c (by omega) (by omega) (by omega) (by omega)).1)
    all_goals (try have m1 := (mul_small r c (by omega) (by omega) (by omega) (by omega)).2)
    all_goals
      go_enter Try.func133, Try.ntmps133
      go_wp2_with fail
      refine (refwidth_any w _).mono ?_
      rintro e w1 ⟨rfl, rfl⟩
      rw [ed]
      go_wp2
      all_goals (first | (exfalso; omega) | (go_ret; exact ⟨rfl, rfl⟩))
end Go.Proofs.Ytdddbljkhhbdlaa
