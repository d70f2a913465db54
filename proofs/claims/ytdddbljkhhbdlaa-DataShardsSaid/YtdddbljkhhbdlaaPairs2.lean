/-
Lists of pairs: compared, and the marks that the book puts.
-/
import Derived.Test.YtdddbljkhhbdlaaProg
import Derived.Test.YtdddbljkhhbdlaaOwn
namespace Go.Proofs.Ytdddbljkhhbdlaa
open Go.RowKit

def cellsP (l : List (Int × Int)) : List Value := l.flatMap fun p => [.int .i64 p.1, .int .i64 p.2]
theorem cellsP_length (l : List (Int × Int)) : (cellsP l).length = l.length * 2 := by
  induction l with
  | nil => rfl
  | cons p l ih =>
    simp only [cellsP, List.flatMap_cons, List.length_append, List.length_cons, List.length_nil] at ih ⊢
    omega
theorem cellsP_append (l m : List (Int × Int)) : cellsP (l ++ m) = cellsP l ++ cellsP m := by simp [cellsP]
theorem cellsP_cons (p : Int × Int) (l : List (Int × Int)) : cellsP (p :: l) = .int .i64 p.1 :: .int .i64 p.2 :: cellsP l := rfl
theorem cellsP_one (l : List (Int × Int)) : ∀ u ∈ cellsP l, u.oneCell' = true := by
  intro u hu
  simp only [cellsP, List.mem_flatMap] at hu
  obtain ⟨z, _, hz⟩ := hu
  simp only [List.mem_cons, List.not_mem_nil, or_false] at hz
  rcases hz with rfl | rfl <;> rfl
theorem cellsP_at0 (l : List (Int × Int)) : ∀ (k : Nat), k < l.length → (cellsP l)[k * 2]? = some (.int .i64 (l.getD k (0, 0)).1) := by
  induction l with
  | nil => intro k h; simp at h
  | cons p l ih =>
    intro k h
    cases k with
    | zero => rfl
    | succ k =>
      rw [cellsP_cons, show (k + 1) * 2 = k * 2 + 1 + 1 by omega, List.getElem?_cons_succ, List.getElem?_cons_succ, ih k (by simpa using h)]
      rfl
theorem cellsP_at1 (l : List (Int × Int)) : ∀ (k : Nat), k < l.length → (cellsP l)[k * 2 + 1]? = some (.int .i64 (l.getD k (0, 0)).2) := by
  induction l with
  | nil => intro k h; simp at h
  | cons p l ih =>
    intro k h
    cases k with
    | zero => rfl
    | succ k =>
      rw [cellsP_cons, show (k + 1) * 2 + 1 = k * 2 + 1 + 1 + 1 by omega, List.getElem?_cons_succ, List.getElem?_cons_succ, ih k (by simpa using h)]
      rfl
theorem cellsP_set (l : List (Int × Int)) : ∀ (j : Nat) (z : Int × Int), ((cellsP l).set (j * 2) (.int .i64 z.1)).set (j * 2 + 1) (.int .i64 z.2) = cellsP (l.set j z) := by
  induction l with
  | nil => intro j z; simp [cellsP]
  | cons p l ih =>
    intro j z
    cases j with
    | zero => rfl
    | succ j =>
      rw [cellsP_cons, List.set_cons_succ, cellsP_cons, show (j + 1) * 2 = j * 2 + 1 + 1 by omega]
      simp only [List.set_cons_succ]
      rw [ih j z]

/-- The marks of the list i, from a place on, so many. -/
def markP (i fr k : Nat) : Int × Int := (-1 - (i : Int), ((fr + k : Nat) : Int))
def marksP (i fr n : Nat) : List (Int × Int) := (List.range n).map (markP i fr)
theorem marksP_length (i fr n : Nat) : (marksP i fr n).length = n := by simp [marksP]
theorem marksP_succ (i fr n : Nat) : marksP i fr (n + 1) = marksP i fr n ++ [markP i fr n] := by simp [marksP, List.range_succ]
theorem marksP_append (i fr n m : Nat) : marksP i fr n ++ marksP i (fr + n) m = marksP i fr (n + m) := by
  induction m with
  | zero => simp [marksP]
  | succ m ih => rw [marksP_succ, ← List.append_assoc, ih, ← Nat.add_assoc, marksP_succ]; simp [markP]; omega

theorem elem23 : ElemT Try.prog 23 29 (.agg #[.int .i64 0, .int .i64 0]) 2 16 := ⟨Try.underlying23, by kernel_rfl, rfl, by decide⟩

set_option maxRecDepth 100000 in
set_option maxHeartbeats 1000000 in
/-- markPairs: the marks, in a list of their own. -/
theorem markPairs_any (i fr n : Int) (w : World) (hi0 : 0 ≤ i) (hi : i ≤ 1000) (hf0 : 0 ≤ fr) (hf : fr ≤ 1000000) (hn0 : 0 ≤ n) (hn : n ≤ 1000000) :
    Calls Try.prog 123 #[.int .i64 i, .int .i64 fr, .int .i64 n] w fun e w' => ∃ v, e = .returned v ∧ w'.ownsRow w.heap.size 29 2 v n.toNat (cellsP (marksP i.toNat fr.toNat n.toNat)) ∧ Below w.heap.size w w' := by
  obtain ⟨i, rfl⟩ := Int.eq_ofNat_of_zero_le hi0
  obtain ⟨fr, rfl⟩ := Int.eq_ofNat_of_zero_le hf0
  obtain ⟨n, rfl⟩ := Int.eq_ofNat_of_zero_le hn0
  simp only [Int.toNat_natCast]
  go_enter Try.func123, Try.ntmps123
  go_wp2
  go_loopw [7, 8] (fun v x wr => ∃ k : Nat, k ≤ n ∧ x = .int .i64 ((fr : Int) + (k : Int)) ∧ wr.ownsRow w.heap.size 29 2 v k (cellsP (marksP i fr k)) ∧ Below w.heap.size w wr) (fun _ x _ => fr + n - (intOf x).toNat)
  case atStart => exact ⟨0, Nat.zero_le _, by simp, World.ownsRow_nil _ _ _ _, Below.refl _ _⟩
  case round =>
    obtain ⟨k, hk, rfl, hown, hb⟩ := hrel
    have hBr := hb.size
    by_cases hlt : k < n
    · go_wp2_with (at_builtin; refine wpList_app rfl _ _ _ rfl elem23 rfl (hown.alloc _) ⟨wr.heap.size, 0, none⟩ 1 1 [.int .i64 ((-1 : Int) - (i : Int)), .int .i64 ((fr : Int) + (k : Int))] rfl rfl (cell_two_new _ _ _ _) (fun x hx => by simp at hx; rcases hx with rfl | rfl <;> rfl) (by unfold maxLen; omega) (by omega) (by simp; omega) ?_; intro v' w1 hA)
      have hown' : w1.ownsRow w.heap.size 29 2 v' (k + 1) (cellsP (marksP i fr (k + 1))) := by
        have := hA.own
        rw [marksP_succ, cellsP_append]
        have e : ((fr : Int) + (k : Int)) = ((fr + k : Nat) : Int) := by omega
        rw [e] at this
        exact this
      have hb1 : Below w.heap.size w w1 := (hb.alloc hBr _).grown hA.grown (by simp; omega) (fun j e => (hown.lt j e).1)
      clear hA hown hb
      go_wp2
      go_roundw
      case rel => exact ⟨k + 1, hlt, by go_num, hown', hb1⟩
      case measure => simp [intOf]; omega
    · obtain rfl : k = n := by omega
      go_wp2
      go_ret
      exact ⟨_, rfl, hown, hb⟩
end Go.Proofs.Ytdddbljkhhbdlaa
