/-
Plain facts: how often each row stands in an epoch's batches; that an order is always found.
-/
import Derived.Test.YtdddbljkhhbdlaaBatch
namespace Go.Proofs.Ytdddbljkhhbdlaa
open Go.RowKit

theorem Takes.found (s t : Int) (n : Nat) (h1 : n ≤ 100000) (h0 : 0 < n) : ∀ (d : Nat) (a : Int), farU s t a = d → ∃ j b, Takes s t n a j b := by
  intro d
  induction d using Nat.strongRecOn with
  | _ d ih =>
    intro a ha
    by_cases h : wordU s t a ≤ 18446744073709551615 - overU n
    · exact ⟨_, _, .done a h⟩
    · have ho := overU_lt n h0
      have hw0 : wordU s t a ≠ 0 := by omega
      have hfar : farU s t a ≠ 0 := fun e => hw0 (wordU_zero s t a e)
      obtain ⟨j, b, r⟩ := ih _ (by rw [← ha]; exact farU_next s t a hfar) _ rfl
      exact ⟨j, b, .skip a j b h r⟩
theorem Mixed.found (s t : Int) (n : Nat) (a : Int) (h1 : n ≤ 100000) : ∀ k, k < n → ∃ b l, Mixed s t n a k b l := by
  intro k
  induction k with
  | zero => exact fun _ => ⟨a, _, .zero⟩
  | succ k ih =>
    intro hk
    obtain ⟨b, l, h⟩ := ih (by omega)
    obtain ⟨j, c, ht⟩ := Takes.found s t (n - k) (by omega) (by omega) _ b rfl
    exact ⟨c, _, .step k b l j c h hk ht⟩

theorem sortI_perm (l : List Int) : (sortI l).Perm l := List.mergeSort_perm _ _
theorem sortI_rising (l : List Int) (h : l.Nodup) (i : Nat) (h1 : i + 1 < (sortI l).length) : (sortI l).getD i 0 < (sortI l).getD (i + 1) 0 := by
  have hp : (sortI l).Pairwise fun x y => x ≤ y := by
    have := List.pairwise_mergeSort (le := fun (x y : Int) => decide (x ≤ y)) (fun a b c h1 h2 => by simp at *; omega) (fun a b => by simp; omega) l
    exact this.imp fun h => by simpa using h
  have hn : (sortI l).Nodup := (sortI_perm l).nodup_iff.2 h
  have e1 : (sortI l).getD i 0 = (sortI l)[i] := by simp [List.getD, show i < (sortI l).length by omega]
  have e2 : (sortI l).getD (i + 1) 0 = (sortI l)[i + 1] := by simp [List.getD, h1]
  rw [e1, e2]
  have a1 := List.pairwise_iff_getElem.1 hp i (i + 1) (by omega) h1 (by omega)
  have a2 := List.pairwise_iff_getElem.1 (List.nodup_iff_pairwise_ne.1 hn) i (i + 1) (by omega) h1 (by omega)
  omega

/-- How often each of the numbers below n stands in a list. -/
def tally (A : List Int) (n : Nat) : List Int := (List.range n).map fun (x : Nat) => (A.count (x : Int) : Int)
theorem tally_length (A : List Int) (n : Nat) : (tally A n).length = n := by simp [tally]
theorem tally_nil (n : Nat) : tally [] n = List.replicate n 0 := by
  apply List.ext_getElem (by simp [tally])
  intro i h1 h2
  simp [tally]
theorem tally_perm {A B : List Int} (h : A.Perm B) (n : Nat) : tally A n = tally B n := by
  unfold tally
  simp only [h.count_eq]
theorem tally_getD (A : List Int) (n x : Nat) (h : x < n) : (tally A n).getD x 0 = (A.count (x : Int) : Int) := by
  simp [tally, List.getD, h]
theorem tally_le (A : List Int) (n x : Nat) (h : x < n) : (tally A n).getD x 0 ≤ A.length := by
  rw [tally_getD A n x h]
  have := List.count_le_length (a := (x : Int)) (l := A)
  omega
theorem tally_snoc (A : List Int) (n y : Nat) : (tally A n).set y ((tally A n).getD y 0 + 1) = tally (A ++ [(y : Int)]) n := by
  apply List.ext_getElem (by simp [tally])
  intro i h1 h2
  have hi : i < n := by simpa [tally] using h2
  rw [List.getElem_set]
  by_cases e : y = i
  · subst e
    simp [tally, List.getD, hi]
  · rw [if_neg e]
    have : ¬ ((y : Int) = (i : Int)) := by omega
    simp [tally, List.count_append, List.count_cons, this]
theorem tally_id (n : Nat) {l : List Int} (h : l.Perm (idL n)) : tally l n = List.replicate n 1 := by
  rw [tally_perm h]
  apply List.ext_getElem (by simp [tally])
  intro i h1 h2
  have hi : i < n := by simpa [tally] using h1
  have hc : (idL n).count (i : Int) = 1 := by
    rw [List.Nodup.count (idL_nodup n), if_pos (by unfold idL; exact List.mem_map.2 ⟨i, List.mem_range.2 hi, rfl⟩)]
  simp [tally, hc]
/-- The rows of a batch. -/
def rowsOf (l : List Int) (lo m : Nat) : List Int := sortI ((l.drop lo).take m)
theorem rowsOf_length (l : List Int) (lo m : Nat) (h : lo + m ≤ l.length) : (rowsOf l lo m).length = m := by
  unfold rowsOf
  rw [sortI_length]
  simp
  omega
theorem rowsOf_mem {l : List Int} {lo m : Nat} {x : Int} (h : x ∈ rowsOf l lo m) : x ∈ l :=
  List.mem_of_mem_drop (List.mem_of_mem_take ((sortI_perm _).mem_iff.1 h))
theorem rowsOf_rising (l : List Int) (lo m : Nat) (h : l.Nodup) (i : Nat) (h1 : i + 1 < (rowsOf l lo m).length) : (rowsOf l lo m).getD i 0 < (rowsOf l lo m).getD (i + 1) 0 :=
  sortI_rising _ ((h.sublist (List.drop_sublist _ _)).sublist (List.take_sublist _ _)) i h1
theorem tally_batch (l : List Int) (lo m n : Nat) : tally (l.take lo ++ rowsOf l lo m) n = tally (l.take (lo + m)) n := by
  apply tally_perm
  rw [List.take_add]
  exact (List.Perm.refl _).append (sortI_perm _)
end Go.Proofs.Ytdddbljkhhbdlaa
