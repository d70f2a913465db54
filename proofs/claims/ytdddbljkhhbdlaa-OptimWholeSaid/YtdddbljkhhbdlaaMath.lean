/-
Plain facts on numbers and lists: how so many things are parted into shards, and the cells of a list of pairs.
-/
import Derived.WalkKit
import Derived.WalkLawsBesides
import Derived.WalkSpells
import Derived.WalkSmall
import Derived.Deep.QuietTactic
import Derived.BigQuiet
import Derived.Lib.Hide
namespace Go.Proofs.Ytdddbljkhhbdlaa
open Go.RowKit

/-- Where the shard i begins. -/
def shCut (n p i : Nat) : Nat := i * (n / p) + min i (n % p)
theorem shCut_zero (n p : Nat) : shCut n p 0 = 0 := by simp [shCut]
theorem shCut_succ (n p i : Nat) : shCut n p (i + 1) = shCut n p i + n / p + (if i < n % p then 1 else 0) := by
  unfold shCut
  rw [Nat.add_mul]
  split <;> omega
theorem shCut_all (n p : Nat) (hp : 0 < p) : shCut n p p = n := by
  unfold shCut
  have h1 := Nat.div_add_mod n p
  have h2 := Nat.mod_lt n hp
  omega
theorem shCut_mono (n p : Nat) {i j : Nat} (h : i ≤ j) : shCut n p i ≤ shCut n p j := by
  unfold shCut
  have := Nat.mul_le_mul_right (n / p) h
  omega
theorem shCut_le (n p : Nat) (hp : 0 < p) {i : Nat} (h : i ≤ p) : shCut n p i ≤ n := by
  have := shCut_mono n p h
  rwa [shCut_all n p hp] at this

/-- The cells of the pairs (f 0, f 1), (f 1, f 2), .. -/
def prs (f : Nat → Nat) : Nat → List Value
  | 0 => []
  | k + 1 => prs f k ++ [.int .i64 (f k : Int), .int .i64 (f (k + 1) : Int)]
theorem prs_length (f : Nat → Nat) (k : Nat) : (prs f k).length = k * 2 := by
  induction k with
  | zero => rfl
  | succ k ih => simp [prs, ih]; omega
theorem prs_at0 (f : Nat → Nat) (k i : Nat) (h : i < k) : (prs f k)[i * 2]? = some (.int .i64 (f i : Int)) := by
  induction k with
  | zero => omega
  | succ k ih =>
    unfold prs
    by_cases e : i < k
    · rw [List.getElem?_append_left (by rw [prs_length]; omega)]; exact ih e
    · obtain rfl : i = k := by omega
      rw [List.getElem?_append_right (by rw [prs_length]; omega), prs_length]; simp
theorem prs_at1 (f : Nat → Nat) (k i : Nat) (h : i < k) : (prs f k)[i * 2 + 1]? = some (.int .i64 (f (i + 1) : Int)) := by
  induction k with
  | zero => omega
  | succ k ih =>
    unfold prs
    by_cases e : i < k
    · rw [List.getElem?_append_left (by rw [prs_length]; omega)]; exact ih e
    · obtain rfl : i = k := by omega
      rw [List.getElem?_append_right (by rw [prs_length]; omega), prs_length]
      have : i * 2 + 1 - i * 2 = 1 := by omega
      rw [this]; simp

theorem wrap64_small (x : Int) (h0 : 0 ≤ x) (h1 : x ≤ 1000000000000000000) : wrap64 x = x := IntWalk.wrap64_in x ⟨by omega, by omega⟩
theorem i64_small (x : Int) (h0 : 0 ≤ x) (h1 : x ≤ 1000000000000000000) : IntKind.i64.wrap x = x := by rw [IntKind.wrap_i64]; omega

/-- A post that speaks of the world and of a value that some list owns is kept behind a name. -/
def RetPairs (B : Nat) (p : Nat) (f : Nat → Nat) (w : World) (e : Ending) (w' : World) : Prop :=
  ∃ v, e = .returned (.tuple #[v, .int .i64 0]) ∧ w'.ownsRow B 29 2 v p (prs f p) ∧ Below B w w'
end Go.Proofs.Ytdddbljkhhbdlaa
