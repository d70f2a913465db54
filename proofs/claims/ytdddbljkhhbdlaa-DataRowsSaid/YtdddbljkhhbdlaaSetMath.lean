/-
What Check answers of a set, as plain numbers.
-/
import Derived.Test.YtdddbljkhhbdlaaCut
namespace Go.Proofs.Ytdddbljkhhbdlaa
open Go.RowKit

/-- The error of a row of both matrices. -/
def rowE (wd : Int) (C : Nat) (xs : List Int) (C2 : Nat) (ys : List Int) (k : Nat) : Int :=
  if (stopI wd (rowI C xs k)).2 ≠ 0 then (stopI wd (rowI C xs k)).2 else (stopI wd (rowI C2 ys k)).2
/-- The first row with an error. -/
def rowsFrom (f : Nat → Int) : Nat → Nat → Int × Int
  | _, 0 => (0, 0)
  | k, n + 1 => if f k ≠ 0 then ((k : Int), f k) else rowsFrom f (k + 1) n
theorem rowsFrom_none (f : Nat → Int) : ∀ n k, (∀ j, j < n → f (k + j) = 0) → rowsFrom f k n = (0, 0) := by
  intro n
  induction n with
  | zero => intro k _; rfl
  | succ n ih =>
    intro k h
    unfold rowsFrom
    rw [if_neg (by simpa using h 0 (by omega))]
    refine ih (k + 1) fun j hj => ?_
    have := h (j + 1) (by omega)
    rwa [show k + (j + 1) = k + 1 + j from by omega] at this
theorem rowsFrom_first (f : Nat → Int) : ∀ n k i, i < n → (∀ j, j < i → f (k + j) = 0) → f (k + i) ≠ 0 → rowsFrom f k n = (((k + i : Nat) : Int), f (k + i)) := by
  intro n
  induction n with
  | zero => intro k i h; omega
  | succ n ih =>
    intro k i hi h1 h2
    unfold rowsFrom
    cases i with
    | zero =>
      rw [if_pos (by simpa using h2)]
      rfl
    | succ i =>
      rw [if_neg (by simpa using h1 0 (by omega))]
      have a1 : ∀ j, j < i → f (k + 1 + j) = 0 := fun j hj => by
        have := h1 (j + 1) (by omega)
        rwa [show k + (j + 1) = k + 1 + j from by omega] at this
      have a2 : f (k + 1 + i) ≠ 0 := by rwa [show k + 1 + i = k + (i + 1) from by omega]
      rw [ih (k + 1) i (by omega) a1 a2, show k + 1 + i = k + (i + 1) from by omega]
/-- What Check answers. -/
def dchkI (r c wd : Int) (xs : List Int) (r2 c2 wd2 : Int) (ys : List Int) : Int × Int :=
  if matE r c wd xs ≠ 0 then (0, matE r c wd xs) else if matE r2 c2 wd2 ys ≠ 0 then (0, matE r2 c2 wd2 ys) else if wd ≠ wd2 then (0, 3) else if r ≠ r2 then (0, 4)
  else rowsFrom (rowE wd c.toNat xs c2.toNat ys) 0 r.toNat

theorem stopI_pos (wd : Int) (xs : List Int) : (stopI wd xs).2 = 0 ∨ (stopI wd xs).2 = 30 ∨ (stopI wd xs).2 = 31 := by
  unfold stopI
  generalize 0 = k
  induction xs generalizing k with
  | nil => exact .inl rfl
  | cons x r ih =>
    unfold stopFrom
    split
    · exact ih (k + 1)
    · dsimp only
      split
      · exact .inr (.inl rfl)
      · exact .inr (.inr rfl)
theorem rowI_mem {C : Nat} {xs : List Int} {k : Nat} {x : Int} (h : x ∈ rowI C xs k) : x ∈ xs := List.mem_of_mem_drop (List.mem_of_mem_take h)
theorem rowI_read {w : World} {B C : Nat} {v : Value} {xs : List Int} {k : Nat} (h : w.ownsRow B 3 1 v C (cellsI (rowI C xs k))) (hk : k * C + C ≤ xs.length) : ReadI w v (rowI C xs k) := by
  have hl := rowI_length C xs k hk
  have : ∀ n, n = C → w.ownsRow B 3 1 v n (cellsI (rowI C xs k)) := fun n hn => by rw [hn]; exact h
  exact ReadI.own (this _ hl)
theorem mul_row {R C k : Nat} (h : k < R) : k * C + C ≤ R * C := by
  have : (k + 1) * C ≤ R * C := Nat.mul_le_mul_right C h
  rwa [Nat.add_mul, Nat.one_mul] at this
theorem mat_nat {r c wd : Int} {xs : List Int} (h : matE r c wd xs = 0) : ∃ R C : Nat, r = R ∧ c = C ∧ 0 < R ∧ 0 < C ∧ R ≤ 4096 ∧ C ≤ 4096 ∧ R * C ≤ 4096 ∧ xs.length = R * C ∧ (wd = 32 ∨ wd = 64) ∧ fitI wd xs = true := by
  obtain ⟨hs, hl, hfit⟩ := matE_ok h
  obtain ⟨hw, hr1, hc1, hr2, hc2, hm⟩ := szE_ok hs
  obtain ⟨R, rfl⟩ := Int.eq_ofNat_of_zero_le (show 0 ≤ r by omega)
  obtain ⟨C, rfl⟩ := Int.eq_ofNat_of_zero_le (show 0 ≤ c by omega)
  refine ⟨R, C, rfl, rfl, by omega, by omega, by omega, by omega, ?_, ?_, hw, hfit⟩
  · rw [← Int.natCast_mul] at hm; omega
  · rw [← Int.natCast_mul] at hl; exact Int.ofNat.inj hl
end Go.Proofs.Ytdddbljkhhbdlaa
