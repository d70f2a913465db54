/-
The contract of LentSet.
-/
import Derived.Test.YtdddbljkhhbdlaaLentM
import Derived.Test.YtdddbljkhhbdlaaSet
import Derived.Deep.RegionLaw
namespace Go.Proofs.Ytdddbljkhhbdlaa
open Go.RowKit

theorem boxesSet (w : World) (r c wd : Int) (v : Value) (r2 c2 wd2 : Int) (v2 : Value) : ∃ w1, w1 = (w.alloc (.cells #[.int .i64 r, .int .i64 c, .int .i64 wd, v, .int .i64 r2, .int .i64 c2, .int .i64 wd2, v2] 47)).alloc (.cells #[.int .i64 0, .int .i64 0, .int .i64 0, .slice none 0 0, .int .i64 0, .int .i64 0, .int .i64 0, .slice none 0 0] 47) ∧
    SetAt w1 w.heap.size r c wd v r2 c2 wd2 v2 ∧ SetAt w1 (w.heap.size + 1) 0 0 0 (.slice none 0 0) 0 0 0 (.slice none 0 0) ∧ Below w.heap.size w w1 ∧ w1.heap.size = w.heap.size + 2 := by
  obtain ⟨w1, e1, hM, hb1, hs1⟩ := boxSet w r c wd v r2 c2 wd2 v2
  rw [← e1]
  obtain ⟨w2, e2, hM2, hb2, hs2⟩ := boxSet w1 0 0 0 (.slice none 0 0) 0 0 0 (.slice none 0 0)
  rw [← e2]
  rw [hs1] at hM2
  exact ⟨w2, rfl, hM.below hb2, hM2, hb1.trans (hb2.mono (by omega)), by omega⟩

theorem SetAt.s0 {w : World} {g : Nat} {r c wd : Int} {v : Value} {r2 c2 wd2 : Int} {v2 : Value} (h : SetAt w g r c wd v r2 c2 wd2 v2) (x : Int) : SetAt (w.setCell ⟨g, 0, none⟩ (.int .i64 x)) g x c wd v r2 c2 wd2 v2 := by
  refine ⟨?_⟩
  simp only [World.setCell, Array.getElem?_modify, if_true, h.block, Option.map_some]
  rfl
theorem SetAt.s1 {w : World} {g : Nat} {r c wd : Int} {v : Value} {r2 c2 wd2 : Int} {v2 : Value} (h : SetAt w g r c wd v r2 c2 wd2 v2) (x : Int) : SetAt (w.setCell ⟨g, 1, none⟩ (.int .i64 x)) g r x wd v r2 c2 wd2 v2 := by
  refine ⟨?_⟩
  simp only [World.setCell, Array.getElem?_modify, if_true, h.block, Option.map_some]
  rfl
theorem SetAt.s2 {w : World} {g : Nat} {r c wd : Int} {v : Value} {r2 c2 wd2 : Int} {v2 : Value} (h : SetAt w g r c wd v r2 c2 wd2 v2) (x : Int) : SetAt (w.setCell ⟨g, 2, none⟩ (.int .i64 x)) g r c x v r2 c2 wd2 v2 := by
  refine ⟨?_⟩
  simp only [World.setCell, Array.getElem?_modify, if_true, h.block, Option.map_some]
  rfl
theorem SetAt.s3 {w : World} {g : Nat} {r c wd : Int} {v : Value} {r2 c2 wd2 : Int} {v2 : Value} (h : SetAt w g r c wd v r2 c2 wd2 v2) (x : Value) : SetAt (w.setCell ⟨g, 3, none⟩ x) g r c wd x r2 c2 wd2 v2 := by
  refine ⟨?_⟩
  simp only [World.setCell, Array.getElem?_modify, if_true, h.block, Option.map_some]
  rfl
theorem SetAt.s4 {w : World} {g : Nat} {r c wd : Int} {v : Value} {r2 c2 wd2 : Int} {v2 : Value} (h : SetAt w g r c wd v r2 c2 wd2 v2) (x : Int) : SetAt (w.setCell ⟨g, 4, none⟩ (.int .i64 x)) g r c wd v x c2 wd2 v2 := by
  refine ⟨?_⟩
  simp only [World.setCell, Array.getElem?_modify, if_true, h.block, Option.map_some]
  rfl
theorem SetAt.s5 {w : World} {g : Nat} {r c wd : Int} {v : Value} {r2 c2 wd2 : Int} {v2 : Value} (h : SetAt w g r c wd v r2 c2 wd2 v2) (x : Int) : SetAt (w.setCell ⟨g, 5, none⟩ (.int .i64 x)) g r c wd v r2 x wd2 v2 := by
  refine ⟨?_⟩
  simp only [World.setCell, Array.getElem?_modify, if_true, h.block, Option.map_some]
  rfl
theorem SetAt.s6 {w : World} {g : Nat} {r c wd : Int} {v : Value} {r2 c2 wd2 : Int} {v2 : Value} (h : SetAt w g r c wd v r2 c2 wd2 v2) (x : Int) : SetAt (w.setCell ⟨g, 6, none⟩ (.int .i64 x)) g r c wd v r2 c2 x v2 := by
  refine ⟨?_⟩
  simp only [World.setCell, Array.getElem?_modify, if_true, h.block, Option.map_some]
  rfl
theorem SetAt.s7 {w : World} {g : Nat} {r c wd : Int} {v : Value} {r2 c2 wd2 : Int} {v2 : Value} (h : SetAt w g r c wd v r2 c2 wd2 v2) (x : Value) : SetAt (w.setCell ⟨g, 7, none⟩ x) g r c wd v r2 c2 wd2 x := by
  refine ⟨?_⟩
  simp only [World.setCell, Array.getElem?_modify, if_true, h.block, Option.map_some]
  rfl
theorem SetAt.put8 {w : World} {g : Nat} {r c wd : Int} {v : Value} {r2 c2 wd2 : Int} {v2 : Value} (h : SetAt w g r c wd v r2 c2 wd2 v2) (a b e : Int) (u : Value) (a2 b2 e2 : Int) (u2 : Value) :
    ∃ w1, w1 = ((((((((w.setCell ⟨g, 0, none⟩ (.int .i64 a)).setCell ⟨g, 1, none⟩ (.int .i64 b)).setCell ⟨g, 2, none⟩ (.int .i64 e)).setCell ⟨g, 3, none⟩ u).setCell ⟨g, 4, none⟩ (.int .i64 a2)).setCell ⟨g, 5, none⟩ (.int .i64 b2)).setCell ⟨g, 6, none⟩ (.int .i64 e2)).setCell ⟨g, 7, none⟩ u2) ∧ SetAt w1 g a b e u a2 b2 e2 u2 ∧ w.grownBy w1 (some g) := by
  refine ⟨_, rfl, (((((((h.s0 a).s1 b).s2 e).s3 u).s4 a2).s5 b2).s6 e2).s7 u2, ?_⟩
  have g0 := grownBy_setCell w g 0 (.int .i64 a)
  have g1 := grownBy_trans g0 (grownBy_setCell (w.setCell ⟨g, 0, none⟩ (.int .i64 a)) g 1 (.int .i64 b))
  have g2 := grownBy_trans g1 (grownBy_setCell ((w.setCell ⟨g, 0, none⟩ (.int .i64 a)).setCell ⟨g, 1, none⟩ (.int .i64 b)) g 2 (.int .i64 e))
  have g3 := grownBy_trans g2 (grownBy_setCell (((w.setCell ⟨g, 0, none⟩ (.int .i64 a)).setCell ⟨g, 1, none⟩ (.int .i64 b)).setCell ⟨g, 2, none⟩ (.int .i64 e)) g 3 u)
  have g4 := grownBy_trans g3 (grownBy_setCell ((((w.setCell ⟨g, 0, none⟩ (.int .i64 a)).setCell ⟨g, 1, none⟩ (.int .i64 b)).setCell ⟨g, 2, none⟩ (.int .i64 e)).setCell ⟨g, 3, none⟩ u) g 4 (.int .i64 a2))
  have g5 := grownBy_trans g4 (grownBy_setCell (((((w.setCell ⟨g, 0, none⟩ (.int .i64 a)).setCell ⟨g, 1, none⟩ (.int .i64 b)).setCell ⟨g, 2, none⟩ (.int .i64 e)).setCell ⟨g, 3, none⟩ u).setCell ⟨g, 4, none⟩ (.int .i64 a2)) g 5 (.int .i64 b2))
  have g6 := grownBy_trans g5 (grownBy_setCell ((((((w.setCell ⟨g, 0, none⟩ (.int .i64 a)).setCell ⟨g, 1, none⟩ (.int .i64 b)).setCell ⟨g, 2, none⟩ (.int .i64 e)).setCell ⟨g, 3, none⟩ u).setCell ⟨g, 4, none⟩ (.int .i64 a2)).setCell ⟨g, 5, none⟩ (.int .i64 b2)) g 6 (.int .i64 e2))
  have g7 := grownBy_trans g6 (grownBy_setCell (((((((w.setCell ⟨g, 0, none⟩ (.int .i64 a)).setCell ⟨g, 1, none⟩ (.int .i64 b)).setCell ⟨g, 2, none⟩ (.int .i64 e)).setCell ⟨g, 3, none⟩ u).setCell ⟨g, 4, none⟩ (.int .i64 a2)).setCell ⟨g, 5, none⟩ (.int .i64 b2)).setCell ⟨g, 6, none⟩ (.int .i64 e2)) g 7 u2)
  exact g7

set_option maxRecDepth 100000 in
set_option maxHeartbeats 4000000 in
theorem lentSet_any (r c wd : Int) (v : Value) (xs : List Int) (r2 c2 wd2 : Int) (v2 : Value) (xs2 : List Int) (w : World) (hv : ReadI w v xs) (hx : xs.length ≤ 1000000) (hv2 : ReadI w v2 xs2) (hx2 : xs2.length ≤ 1000000) :
    Calls Try.prog 18 #[setV r c wd v r2 c2 wd2 v2] w fun e w' => ∃ u u2, e = .returned (setV r c wd u r2 c2 wd2 u2) ∧ LentAt w' w.heap.size u xs ∧ LentAt w' w.heap.size u2 xs2 ∧ Below w.heap.size w w' := by
  have HV := Lib.hid hv
  have HV2 := Lib.hid hv2
  clear hv hv2
  unfold setV
  go_enter Try.func18, Try.ntmps18
  go_wp2_with fail
  obtain ⟨w1, hw1, hM, hZ, hb1, hs1⟩ := boxesSet w r c wd v r2 c2 wd2 v2
  rw [← hw1]
  clear hw1
  have a0 := hM.c0
  have a1 := hM.c1
  have a2 := hM.c2
  have a3 := hM.c3
  have a4 := hM.c4
  have a5 := hM.c5
  have a6 := hM.c6
  have a7 := hM.c7
  have tok1 : True := trivial
  have hr1 : ReadI w1.drew v xs := HV.out.below hb1.drew
  have hr2 : ReadI w1.drew v2 xs2 := HV2.out.below hb1.drew
  have hMd : SetAt w1.drew w.heap.size r c wd v r2 c2 wd2 v2 := ⟨hM.block⟩
  have hZd : SetAt w1.drew (w.heap.size + 1) 0 0 0 (.slice none 0 0) 0 0 0 (.slice none 0 0) := ⟨hZ.block⟩
  go_region_law
    (first
      | ((have _t := tok1); go_simp; go_at_call 82; go_must (refine (lentM_any r c wd v xs _ hr1 hx).mono ?_; rintro e w2 ⟨u, rfl, hL, hb2⟩; clear tok1; obtain ⟨g1, cap1, rfl, hL1⟩ := hL; simp only [matV]; (have hM2 := hMd.below hb2); (have hZ2 := hZd.below hb2); (have hr3 := hr2.below hb2); (have b0 := hM2.c0); (have b1 := hM2.c1); (have b2 := hM2.c2); (have b3 := hM2.c3); (have b4 := hM2.c4); (have b5 := hM2.c5); (have b6 := hM2.c6); (have b7 := hM2.c7)))
      | (go_simp; go_at_call 82; go_must (refine (lentM_any r2 c2 wd2 v2 xs2 _ hr3 hx2).mono ?_; rintro e w3 ⟨u2, rfl, hL2, hb3⟩; obtain ⟨g2, cap2, rfl, hL3⟩ := hL2; simp only [matV]; (have hM3 := hM2.below hb3); (have hZ3 := hZ2.below hb3); (have d0 := hM3.c0); (have d1 := hM3.c1); (have d2 := hM3.c2); (have d3 := hM3.c3); (have d4 := hM3.c4); (have d5 := hM3.c5); (have d6 := hM3.c6); (have d7 := hM3.c7); (have z0 := hZ3.c0); (have z1 := hZ3.c1); (have z2 := hZ3.c2); (have z3 := hZ3.c3); (have z4 := hZ3.c4); (have z5 := hZ3.c5); (have z6 := hZ3.c6); (have z7 := hZ3.c7); (have y0 := hZ3.free 0); (have y1 := hZ3.free 1); (have y2 := hZ3.free 2); (have y3 := hZ3.free 3); (have y4 := hZ3.free 4); (have y5 := hZ3.free 5); (have y6 := hZ3.free 6); (have y7 := hZ3.free 7))))
  all_goals
    go_wp2
    obtain ⟨w5, hw5, hM5, hg5⟩ := hZ3.put8 r c wd (.slice (some ⟨g1, 0, none⟩) xs.length cap1) r2 c2 wd2 (.slice (some ⟨g2, 0, none⟩) xs2.length cap2)
    rw [← hw5]
    clear hw5 z0 z1 z2 z3 z4 z5 z6 z7 y0 y1 y2 y3 y4 y5 y6 y7
    have z0 := hM5.c0
    have z1 := hM5.c1
    have z2 := hM5.c2
    have z3 := hM5.c3
    have z4 := hM5.c4
    have z5 := hM5.c5
    have z6 := hM5.c6
    have z7 := hM5.c7
    refine bodyPost_ret (by simp [results, Try.results18, go_sem, z0, z1, z2, z3, z4, z5, z6, z7]; try rfl) rfl ?_
    have hsd : w1.drew.heap.size = w.heap.size + 2 := hs1
    have hs2 : w.heap.size + 2 ≤ w2.heap.size := by have := hb2.size; omega
    have hbA : Below w.heap.size w w2 := hb1.drew.trans (hb2.mono (by omega))
    have hbB : Below w.heap.size w w3 := hbA.trans (hb3.mono hbA.size)
    have k1 := (own_below hL1 hb3 (Nat.le_refl _)).kept hg5 (.inr (by simp [Value.ownBlock]; have := (hL1.lt g1 rfl).1; omega))
    have k2 := hL3.kept hg5 (.inr (by simp [Value.ownBlock]; have := (hL3.lt g2 rfl).1; omega))
    exact ⟨_, _, rfl, ⟨g1, cap1, rfl, own_mono k1 (by omega)⟩, ⟨g2, cap2, rfl, own_mono k2 (by omega)⟩, hbB.grown hg5 hbB.size (fun q hq => by cases hq; omega)⟩
end Go.Proofs.Ytdddbljkhhbdlaa
