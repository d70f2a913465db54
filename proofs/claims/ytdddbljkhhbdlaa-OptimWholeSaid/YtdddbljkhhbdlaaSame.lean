/-
sameInts: two lists that hold the same numbers are the same.
-/
import Derived.Test.YtdddbljkhhbdlaaInts
namespace Go.Proofs.Ytdddbljkhhbdlaa
open Go.RowKit

theorem own_cellI {w : World} {B : Nat} {g n cap : Nat} {xs : List Int} (h : w.ownsRow B 3 1 (.slice (some ⟨g, 0, none⟩) n cap) n (cellsI xs)) (k : Nat) (hk : k < n) : w.cell? ⟨g, k, none⟩ = some (.int .i64 (xs.getD k 0)) := by
  have hl : xs.length = n := by have := h.1; rw [cellsI_length] at this; omega
  have := h.cellAt k (by omega)
  rw [this, cellsI_at _ _ (by omega)]

set_option maxRecDepth 100000 in
set_option maxHeartbeats 1000000 in
theorem sameInts_any (xs : List Int) (hx : xs.length ≤ 1000000) (va vb : Value) (Ba Bb : Nat) (w : World) (ha : w.ownsRow Ba 3 1 va xs.length (cellsI xs)) (hb : w.ownsRow Bb 3 1 vb xs.length (cellsI xs)) :
    Calls Try.prog 89 #[va, vb] w fun e w' => e = .returned (.bool true) ∧ ∃ q, w' = w.drewN q := by
  obtain ⟨aa, ca, rfl, na, fa⟩ := own_form ha
  obtain ⟨ab, cb, rfl, nb, fb⟩ := own_form hb
  obtain ⟨n, hn⟩ : ∃ n, n = xs.length := ⟨_, rfl⟩
  rw [← hn] at ha hb na nb hx ⊢
  by_cases h0 : n = 0
  · subst h0
    clear na nb hn
    go_enter Try.func89, Try.ntmps89
    go_wp2
    refine wp_loop_rounds 1 ?_
    rw [rounds_succ]
    go_wp2
    go_ret
    exact ⟨rfl, 0, rfl⟩
  · cases aa with
    | none => exact absurd (na rfl).1 h0
    | some da =>
    cases ab with
    | none => exact absurd (nb rfl).1 h0
    | some db =>
    obtain ⟨ga, rfl, _, _⟩ := fa da rfl
    obtain ⟨gb, rfl, _, _⟩ := fb db rfl
    clear fa fb na nb hn
    go_enter Try.func89, Try.ntmps89
    go_wp2
    go_loopw [5] (fun i wr => ∃ k q : Nat, k ≤ n ∧ i = .int .i64 k ∧ wr = w.drewN q) (fun i _ => n - (intOf i).toNat)
    case atStart => exact ⟨0, 0, Nat.zero_le _, rfl, rfl⟩
    case round =>
      obtain ⟨k, q, hk, rfl, rfl⟩ := hrel
      by_cases hlt : k < n
      · have c1 := own_cellI ha k hlt
        have c2 := own_cellI hb k hlt
        go_wp2
        go_quiet (fail)
        go_wp2
        go_roundw
        case rel => exact ⟨k + 1, _, hlt, by go_num, rfl⟩
        case measure => simp [intOf]; omega
      · obtain rfl : k = n := by omega
        go_wp2
        go_ret
        exact ⟨rfl, q, rfl⟩
end Go.Proofs.Ytdddbljkhhbdlaa
