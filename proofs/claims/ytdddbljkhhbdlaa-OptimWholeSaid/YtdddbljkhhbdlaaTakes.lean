/-
Plain facts on rng: which word is taken, and that one is always found.
-/
import Derived.Test.YtdddbljkhhbdlaaRng
namespace Go.Proofs.Ytdddbljkhhbdlaa
open Go.RowKit

theorem wrapU_eq (x : Int) : IntKind.u64.wrap x = x % 18446744073709551616 := by
  simp [IntKind.wrap, IntKind.signed, IntKind.bits]
theorem wrapU_range (x : Int) : 0 ≤ IntKind.u64.wrap x ∧ IntKind.u64.wrap x ≤ 18446744073709551615 := by
  rw [wrapU_eq]; omega
theorem bitsU_range (op : BinOp) (x y : Int) : 0 ≤ bits op .u64 x y ∧ bits op .u64 x y ≤ 18446744073709551615 := wrapU_range _
theorem wordU_range (s t a : Int) : 0 ≤ wordU s t a ∧ wordU s t a ≤ 18446744073709551615 := by unfold wordU mx; exact bitsU_range _ _ _
theorem mx_zero : mx 0 = 0 := by decide

/-- How far it is to a word that is nought. -/
def farU (s t a : Int) : Nat := ((-(keyU s t * 17428512612931826493) - 1 - a) % 18446744073709551616).toNat

theorem wrapI_mod (x : Int) : wrap64 x % 18446744073709551616 = x % 18446744073709551616 := by
  unfold wrap64; omega
theorem wordU_zero (s t a : Int) (h : farU s t a = 0) : wordU s t a = 0 := by
  unfold wordU
  have : IntKind.u64.wrap (keyU s t + IntKind.u64.wrap (IntKind.u64.wrap (IntKind.u64.wrap (IntKind.u64.wrap a + 0) + 1) * 11400714819323198485)) = 0 := by
    unfold farU at h
    simp only [wrapU_eq]
    omega
  rw [this, mx_zero]
theorem farU_next (s t a : Int) (h : farU s t a ≠ 0) : farU s t (wrap64 (a + 1)) < farU s t a := by
  have := wrapI_mod (a + 1)
  unfold farU at h ⊢
  omega

/-- So many words at the end are too many. -/
def overU (n : Nat) : Nat := 18446744073709551616 % n
theorem overU_lt (n : Nat) (h : 0 < n) : overU n < n := Nat.mod_lt _ h

/-- From a on the number j is taken, and the place is b then. -/
inductive Takes (s t : Int) (n : Nat) : Int → Nat → Int → Prop
  | done (a : Int) (h : wordU s t a ≤ 18446744073709551615 - overU n) : Takes s t n a (wordU s t a % n).toNat (wrap64 (a + 1))
  | skip (a : Int) (j : Nat) (b : Int) (h : ¬ wordU s t a ≤ 18446744073709551615 - overU n) (r : Takes s t n (wrap64 (a + 1)) j b) : Takes s t n a j b
theorem Takes.one {s t : Int} {n : Nat} {a : Int} {j : Nat} {b : Int} (h : Takes s t n a j b) : ∀ {j' : Nat} {b' : Int}, Takes s t n a j' b' → j' = j ∧ b' = b := by
  induction h with
  | done a h =>
    intro j' b' h'
    cases h' with
    | done _ _ => exact ⟨rfl, rfl⟩
    | skip _ _ _ h2 _ => exact absurd h h2
  | skip a j b h r ih =>
    intro j' b' h'
    cases h' with
    | done _ h2 => exact absurd h2 h
    | skip _ _ _ _ r' => exact ih r'
theorem Takes.lt {s t : Int} {n : Nat} {a : Int} {j : Nat} {b : Int} (h : Takes s t n a j b) (hn : 0 < n) : j < n := by
  induction h with
  | done a h =>
    have h1 := Int.emod_nonneg (wordU s t a) (b := (n : Int)) (by omega)
    have h2 := Int.emod_lt_of_pos (wordU s t a) (b := (n : Int)) (by omega)
    omega
  | skip a j b h r ih => exact ih
end Go.Proofs.Ytdddbljkhhbdlaa
