/-
Plain facts on an order of n things that is taken by exchanges.
-/
import Derived.Test.YtdddbljkhhbdlaaTakes
namespace Go.Proofs.Ytdddbljkhhbdlaa
open Go.RowKit

/-- Two elements exchanged. -/
def swapL (l : List Int) (i j : Nat) : List Int := (l.set i (l.getD j 0)).set j (l.getD i 0)
theorem swapL_length (l : List Int) (i j : Nat) : (swapL l i j).length = l.length := by simp [swapL]
theorem swapL_perm (l : List Int) (i j : Nat) (hi : i < l.length) (hj : j < l.length) : (swapL l i j).Perm l := by
  have e1 : l.getD j 0 = l[j] := by simp [List.getD, hj]
  have e2 : l.getD i 0 = l[i] := by simp [List.getD, hi]
  unfold swapL
  rw [e1, e2]
  exact List.set_set_perm hi hj

/-- The numbers from 0 to below n. -/
def idL (n : Nat) : List Int := (List.range n).map fun (i : Nat) => (i : Int)
theorem idL_length (n : Nat) : (idL n).length = n := by simp [idL]

/-- Behind k exchanges: the draw's place, and the order. -/
inductive Mixed (s t : Int) (n : Nat) (a : Int) : Nat → Int → List Int → Prop
  | zero : Mixed s t n a 0 a (idL n)
  | step (k : Nat) (b : Int) (l : List Int) (j : Nat) (c : Int) (h : Mixed s t n a k b l) (hk : k + 1 < n) (ht : Takes s t (n - k) b j c) : Mixed s t n a (k + 1) c (swapL l (n - 1 - k) j)
theorem Mixed.perm {s t : Int} {n : Nat} {a : Int} {k : Nat} {b : Int} {l : List Int} (h : Mixed s t n a k b l) : l.Perm (idL n) := by
  induction h with
  | zero => exact .refl _
  | step k b l j c h hk ht ih =>
    have hl : l.length = n := by rw [ih.length_eq, idL_length]
    have := ht.lt (by omega)
    exact (swapL_perm l _ _ (by omega) (by omega)).trans ih
theorem Mixed.length {s t : Int} {n : Nat} {a : Int} {k : Nat} {b : Int} {l : List Int} (h : Mixed s t n a k b l) : l.length = n := by
  rw [h.perm.length_eq, idL_length]
theorem Mixed.one {s t : Int} {n : Nat} {a : Int} {k : Nat} {b : Int} {l : List Int} (h : Mixed s t n a k b l) : ∀ {b' : Int} {l' : List Int}, Mixed s t n a k b' l' → b' = b ∧ l' = l := by
  induction h with
  | zero =>
    intro b' l' h'
    cases h'
    exact ⟨rfl, rfl⟩
  | step k b l j c h hk ht ih =>
    intro b' l' h'
    cases h' with
    | step _ b1 l1 j1 c1 h1 _ ht1 =>
      obtain ⟨rfl, rfl⟩ := ih h1
      obtain ⟨rfl, rfl⟩ := ht.one ht1
      exact ⟨rfl, rfl⟩
theorem Mixed.range {s t : Int} {n : Nat} {a : Int} {k : Nat} {b : Int} {l : List Int} (h : Mixed s t n a k b l) {x : Int} (hx : x ∈ l) : 0 ≤ x ∧ x < n := by
  have := h.perm.mem_iff.1 hx
  unfold idL at this
  simp only [List.mem_map, List.mem_range] at this
  obtain ⟨i, hi, rfl⟩ := this
  omega
theorem idL_nodup (n : Nat) : (idL n).Nodup := by
  unfold idL
  rw [List.nodup_iff_pairwise_ne, List.pairwise_map]
  exact (List.nodup_iff_pairwise_ne.1 List.nodup_range).imp fun h e => h (by omega)
theorem Mixed.nodup {s t : Int} {n : Nat} {a : Int} {k : Nat} {b : Int} {l : List Int} (h : Mixed s t n a k b l) : l.Nodup := h.perm.nodup_iff.2 (idL_nodup n)
end Go.Proofs.Ytdddbljkhhbdlaa
