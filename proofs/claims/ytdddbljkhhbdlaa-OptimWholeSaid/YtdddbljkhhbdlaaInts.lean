/-
Lists of numbers: compared, and the marks that the book puts.
-/
import Derived.Test.YtdddbljkhhbdlaaProg
import Derived.Test.YtdddbljkhhbdlaaOwn
namespace Go.Proofs.Ytdddbljkhhbdlaa
open Go.RowKit

def cellsI (l : List Int) : List Value := l.map (Value.int .i64)
theorem cellsI_length (l : List Int) : (cellsI l).length = l.length * 1 := by simp [cellsI]
theorem cellsI_append (l m : List Int) : cellsI (l ++ m) = cellsI l ++ cellsI m := by simp [cellsI]
theorem cellsI_one (l : List Int) : ∀ u ∈ cellsI l, u.oneCell' = true := by
  intro u hu
  simp only [cellsI, List.mem_map] at hu
  obtain ⟨z, _, rfl⟩ := hu
  rfl
theorem cellsI_at (l : List Int) (k : Nat) (h : k < l.length) : (cellsI l)[k]? = some (.int .i64 (l.getD k 0)) := by
  simp [cellsI, h]

/-- The marks of the list i, from a place on, so many. -/
def markI (i fr k : Nat) : Int := -1000000 * (i : Int) - ((fr + k : Nat) : Int) - 7
def marksI (i fr n : Nat) : List Int := (List.range n).map (markI i fr)
theorem marksI_length (i fr n : Nat) : (marksI i fr n).length = n := by simp [marksI]
theorem marksI_succ (i fr n : Nat) : marksI i fr (n + 1) = marksI i fr n ++ [markI i fr n] := by simp [marksI, List.range_succ]
theorem marksI_append (i fr n m : Nat) : marksI i fr n ++ marksI i (fr + n) m = marksI i fr (n + m) := by
  induction m with
  | zero => simp [marksI]
  | succ m ih => rw [marksI_succ, ← List.append_assoc, ih, ← Nat.add_assoc, marksI_succ]; simp [markI]; omega

theorem elem43 : ElemT Try.prog 43 3 (.int .i64 0) 1 8 := ⟨Try.underlying43, by kernel_rfl, rfl, by decide⟩

set_option maxRecDepth 100000 in
set_option maxHeartbeats 1000000 in
/-- markInts: the marks, in a list of their own. -/
theorem markInts_any (i fr n : Int) (w : World) (hi0 : 0 ≤ i) (hi : i ≤ 1000) (hf0 : 0 ≤ fr) (hf : fr ≤ 1000000) (hn0 : 0 ≤ n) (hn : n ≤ 1000000) :
    Calls Try.prog 122 #[.int .i64 i, .int .i64 fr, .int .i64 n] w fun e w' => ∃ v, e = .returned v ∧ w'.ownsRow w.heap.size 3 1 v n.toNat (cellsI (marksI i.toNat fr.toNat n.toNat)) ∧ Below w.heap.size w w' := by
  obtain ⟨i, rfl⟩ := Int.eq_ofNat_of_zero_le hi0
  obtain ⟨fr, rfl⟩ := Int.eq_ofNat_of_zero_le hf0
  obtain ⟨n, rfl⟩ := Int.eq_ofNat_of_zero_le hn0
  simp only [Int.toNat_natCast]
  go_enter Try.func122, Try.ntmps122
  go_wp2
  go_loopw [7, 8] (fun v x wr => ∃ k : Nat, k ≤ n ∧ x = .int .i64 ((fr : Int) + (k : Int)) ∧ wr.ownsRow w.heap.size 3 1 v k (cellsI (marksI i fr k)) ∧ Below w.heap.size w wr) (fun _ x _ => fr + n - (intOf x).toNat)
  case atStart => exact ⟨0, Nat.zero_le _, by simp, World.ownsRow_nil _ _ _ _, Below.refl _ _⟩
  case round =>
    obtain ⟨k, hk, rfl, hown, hb⟩ := hrel
    have hBr := hb.size
    by_cases hlt : k < n
    · have H : Hid (((-1000000 : Int) * (i : Int) - ((fr : Int) + (k : Int)) - 7) = markI i fr k) := by
        show _ = _
        simp [markI]
      go_wp2_with (at_builtin; refine wpList_app rfl _ _ _ rfl elem43 rfl (hown.alloc _) ⟨wr.heap.size, 0, none⟩ 1 1 [.int .i64 ((-1000000 : Int) * (i : Int) - ((fr : Int) + (k : Int)) - 7)] rfl rfl (cell_one_new _ _ _) (fun x hx => by simp at hx; subst hx; rfl) (by unfold maxLen; omega) (by omega) (by simp; omega) ?_; intro v' w1 hA)
      have hown' : w1.ownsRow w.heap.size 3 1 v' (k + 1) (cellsI (marksI i fr (k + 1))) := by
        have := hA.own
        rw [H.out] at this
        rw [marksI_succ, cellsI_append]
        exact this
      have hb1 : Below w.heap.size w w1 := (hb.alloc hBr _).grown hA.grown (by simp; omega) (fun j e => (hown.lt j e).1)
      clear hA hown hb
      go_wp2
      go_roundw
      case rel => exact ⟨k + 1, hlt, by go_num, hown', hb1⟩
      case measure => simp [intOf]; omega
    · obtain rfl : k = n := by omega
      go_wp2
      go_ret
      exact ⟨_, rfl, hown, hb⟩
end Go.Proofs.Ytdddbljkhhbdlaa
