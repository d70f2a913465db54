/-
The contracts of Lent: a matrix in a list of its own, marks behind it.
-/
import Derived.Test.YtdddbljkhhbdlaaLent
import Derived.Test.YtdddbljkhhbdlaaRefCut
namespace Go.Proofs.Ytdddbljkhhbdlaa
open Go.RowKit

/-- A lent list: the numbers, and two marks behind them. -/
def LentAt (w : World) (B : Nat) (v : Value) (xs : List Int) : Prop :=
  ∃ g cap, v = .slice (some ⟨g, 0, none⟩) xs.length cap ∧ w.ownsRow B 3 1 (.slice (some ⟨g, 0, none⟩) (xs.length + 2) cap) (xs.length + 2) (cellsI (xs ++ [-77, -78]))

theorem lentInts_any (v : Value) (xs : List Int) (w : World) (hv : ReadI w v xs) (hx : xs.length ≤ 1000000) :
    Calls Try.prog 26 #[v] w fun e w' => ∃ u, e = .returned u ∧ LentAt w' w.heap.size u xs ∧ Below w.heap.size w w' := by
  rcases hv with ⟨rfl, rfl⟩ | ⟨b, off, c, rfl, _, hcell⟩
  · refine (lent_nil w).mono ?_
    rintro e w' ⟨g, cap, rfl, hr, hb⟩
    exact ⟨_, rfl, ⟨g, cap, rfl, hr⟩, hb⟩
  · refine (lent_some b off xs.length c xs w rfl hx hcell).mono ?_
    rintro e w' ⟨g, cap, rfl, hr, hb⟩
    exact ⟨_, rfl, ⟨g, cap, rfl, hr⟩, hb⟩
theorem LentAt.below {w w' : World} {B : Nat} {v : Value} {xs : List Int} (h : LentAt w B v xs) (hb : Below w.heap.size w w') : LentAt w' B v xs := by
  obtain ⟨g, cap, hv, hr⟩ := h
  exact ⟨g, cap, hv, own_below hr hb (Nat.le_refl _)⟩

set_option maxRecDepth 100000 in
set_option maxHeartbeats 2000000 in
theorem lentM_any (r c wd : Int) (v : Value) (xs : List Int) (w : World) (hv : ReadI w v xs) (hx : xs.length ≤ 1000000) :
    Calls Try.prog 82 #[matV r c wd v] w fun e w' => ∃ u, e = .returned (matV r c wd u) ∧ LentAt w' w.heap.size u xs ∧ Below w.heap.size w w' := by
  have HV := Lib.hid hv
  clear hv
  unfold matV
  go_enter Try.func82, Try.ntmps82
  go_wp2_with fail
  obtain ⟨w1, hw1, hM, hZ, hb1, hs1⟩ := boxesM w r c wd v 0 0 0 (.slice none 0 0)
  rw [← hw1]
  clear hw1
  refine (lentInts_any v xs w1 (HV.out.below hb1) hx).mono ?_
  rintro e w2 ⟨u, rfl, hL, hb2⟩
  have hM2 := hM.below hb2
  have hZ2 := hZ.below hb2
  have hb3 := hb1.trans (hb2.mono hb1.size)
  clear hM hZ hb1 hb2
  obtain ⟨g, cap, rfl, hr⟩ := hL
  have c0 := hM2.c0
  have c1 := hM2.c1
  have c2 := hM2.c2
  have c3 := hM2.c3
  have f3 := hM2.free 3
  have z0 := hZ2.c0
  have z1 := hZ2.c1
  have z2 := hZ2.c2
  have z3 := hZ2.c3
  have y0 := hZ2.free 0
  have y1 := hZ2.free 1
  have y2 := hZ2.free 2
  have y3 := hZ2.free 3
  go_wp2
  have g1 := grownBy_setCell w2 w.heap.size 3 (.slice (some ⟨g, 0, none⟩) xs.length cap)
  have hZ3 := hZ2.grown g1 (by simp)
  have hr3 := hr.kept g1 (.inr (by simp [Value.ownBlock]; have := (hr.lt g rfl).1; omega))
  have hb4 := hb3.grown g1 hb3.size (fun q hq => by cases hq; exact Nat.le_refl _)
  obtain ⟨w4, hw4, hM4, hg4⟩ := hZ3.put4 r c wd (.slice (some ⟨g, 0, none⟩) xs.length cap)
  rw [← hw4]
  clear hw4 z0 z1 z2 z3 y0 y1 y2 y3 c0 c1 c2 c3
  have z0 := hM4.c0
  have z1 := hM4.c1
  have z2 := hM4.c2
  have z3 := hM4.c3
  refine bodyPost_ret (by simp [results, Try.results82, go_sem, z0, z1, z2, z3]; try rfl) rfl ?_
  have hr4 := hr3.kept hg4 (.inr (by simp [Value.ownBlock]; have := (hr.lt g rfl).1; omega))
  exact ⟨_, rfl, ⟨g, cap, rfl, own_mono hr4 (by omega)⟩, hb4.grown hg4 hb4.size (fun q hq => by cases hq; omega)⟩
end Go.Proofs.Ytdddbljkhhbdlaa
