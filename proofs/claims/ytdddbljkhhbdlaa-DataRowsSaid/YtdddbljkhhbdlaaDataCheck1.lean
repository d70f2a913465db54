/-
The contract of data.Check where it does not come to the rows.
-/
import Derived.Test.YtdddbljkhhbdlaaFiniteAll
import Derived.Test.YtdddbljkhhbdlaaSet
import Derived.LoopN
namespace Go.Proofs.Ytdddbljkhhbdlaa
open Go.RowKit

theorem index2_0 (a b c d e f g h : Value) (w : World) : (Instr.index 114 (.agg #[a, b, c, d, e, f, g, h]) (.int .i64 0)).run Try.prog w = .ok (.agg #[a, b, c, d]) w := by kernel_rfl
theorem index2_1 (a b c d e f g h : Value) (w : World) : (Instr.index 114 (.agg #[a, b, c, d, e, f, g, h]) (.int .i64 1)).run Try.prog w = .ok (.agg #[e, f, g, h]) w := by kernel_rfl

theorem boxesSet3 (w : World) (r c wd : Int) (v : Value) (r2 c2 wd2 : Int) (v2 : Value) : ∃ w1, w1 = ((w.alloc (.cells #[.int .i64 r, .int .i64 c, .int .i64 wd, v, .int .i64 r2, .int .i64 c2, .int .i64 wd2, v2] 47)).alloc (.cells #[.int .i64 0] 3)).alloc (.cells #[.int .i64 0] 24) ∧
    SetAt w1 w.heap.size r c wd v r2 c2 wd2 v2 ∧ BoxAt w1 (w.heap.size + 1) 3 (.int .i64 0) ∧ BoxAt w1 (w.heap.size + 1 + 1) 24 (.int .i64 0) ∧ Below w.heap.size w w1 ∧ w1.heap.size = w.heap.size + 3 := by
  obtain ⟨w1, e1, hM, hb1, hs1⟩ := boxSet w r c wd v r2 c2 wd2 v2
  rw [← e1]
  have hA : BoxAt (w1.alloc (.cells #[.int .i64 0] 3)) w1.heap.size 3 (.int .i64 0) := ⟨heap_alloc_new w1 _⟩
  have hbA := (Below.refl w1.heap.size w1).alloc (Nat.le_refl _) (.cells #[.int .i64 0] 3)
  have hsA : (w1.alloc (.cells #[.int .i64 0] 3)).heap.size = w1.heap.size + 1 := by simp [go_sem]
  have hB : BoxAt ((w1.alloc (.cells #[.int .i64 0] 3)).alloc (.cells #[.int .i64 0] 24)) (w1.alloc (.cells #[.int .i64 0] 3)).heap.size 24 (.int .i64 0) := ⟨heap_alloc_new _ _⟩
  have hbB := (Below.refl (w1.alloc (.cells #[.int .i64 0] 3)).heap.size (w1.alloc (.cells #[.int .i64 0] 3))).alloc (Nat.le_refl _) (.cells #[.int .i64 0] 24)
  refine ⟨_, rfl, (hM.below hbA).below hbB, ?_, ?_, (hb1.trans (hbA.mono (by omega))).trans (hbB.mono (by omega)), ?_⟩
  · have := hA.below hbB; rw [hs1] at this; exact this
  · rw [hsA, hs1] at hB; exact hB
  · have : ((w1.alloc (.cells #[.int .i64 0] 3)).alloc (.cells #[.int .i64 0] 24)).heap.size = w1.heap.size + 2 := by simp [go_sem]
    omega

theorem ReadI.slice {w : World} {v : Value} {xs : List Int} (h : ReadI w v xs) : ∃ a n c, v = .slice a n c := by
  rcases h with ⟨rfl, _⟩ | ⟨b, off, c, rfl, _⟩
  · exact ⟨_, _, _, rfl⟩
  · exact ⟨_, _, _, rfl⟩

set_option maxRecDepth 100000 in
set_option maxHeartbeats 1000000 in
theorem dcheck_x (r c wd : Int) (v : Value) (xs : List Int) (r2 c2 wd2 : Int) (v2 : Value) (w : World) (hv : ReadI w v xs) (hx : xs.length ≤ 100000000) (hE : matE r c wd xs ≠ 0) :
    Calls Try.prog 19 #[setV r c wd v r2 c2 wd2 v2] w fun e w' => e = .returned (.tuple #[.int .i64 0, .int .i64 (matE r c wd xs)]) ∧ Below w.heap.size w w' := by
  obtain ⟨a9, n9, c9, rfl⟩ := hv.slice
  have HV := Lib.hid hv
  obtain ⟨E, he⟩ : ∃ E, E = matE r c wd xs := ⟨_, rfl⟩
  rw [← he] at hE ⊢
  have hEb : (E != 0) = true := by simp [hE]
  have HE := Lib.hid he
  clear he hE hv
  have ix0 := index2_0
  unfold setV
  go_enter Try.func19, Try.ntmps19
  go_wp2_with fail
  obtain ⟨w1, hw1, hM, hA, hB, hb1, hs1⟩ := boxesSet3 w r c wd (.slice a9 n9 c9) r2 c2 wd2 v2
  rw [← hw1]
  have HS := Lib.hid hs1
  clear hw1 hs1
  have p0 := hM.c0
  have p1 := hM.c1
  have p2 := hM.c2
  have p3 := hM.c3
  have p4 := hM.c4
  have p5 := hM.c5
  have p6 := hM.c6
  have p7 := hM.c7
  refine wp_loop_rounds 3 ?_
  rw [rounds_succ]
  go_wp2_with fail
  clear p0 p1 p2 p3 p4 p5 p6 p7
  obtain ⟨w2, hw2, hM2, hb2, hs2⟩ := boxM w1 r c wd (.slice a9 n9 c9)
  rw [← hw2]
  clear hw2 hs2
  have hbw := hb1.trans (hb2.mono hb1.size)
  refine (check_any r c wd (.slice a9 n9 c9) xs w2 (HV.out.below hbw) hx).mono ?_
  rintro e w3 ⟨rfl, hb3⟩
  rw [← HE.out]
  have hA2 := (hA.below hb2).below hb3
  have hB2 := (hB.below hb2).below hb3
  have hb4 := hbw.trans (hb3.mono hbw.size)
  clear hM hM2 hA hB hb1 hb2 hbw hb3
  have a0 := hA2.cell
  have a1 := hA2.free
  have b0 := hB2.cell
  have b1 := hB2.free
  go_wp2
  have g1 := grownBy_setCell w3 (w.heap.size + 1) 0 (.int .i64 0)
  have g2 := grownBy_setCell (w3.setCell ⟨w.heap.size + 1, 0, none⟩ (.int .i64 0)) (w.heap.size + 1 + 1) 0 (.int .i64 E)
  have e0 := ((hA2.set (.int .i64 0)).grown g2 (by simp)).cell
  have e1 := ((hB2.grown g1 (by simp)).set (.int .i64 E)).cell
  refine bodyPost_ret (by simp [results, Try.results19, go_sem, e0, e1]; try rfl) rfl ?_
  exact ⟨rfl, (hb4.grown g1 hb4.size (fun r e => by cases e; omega)).grown g2 (by simpa [World.setCell] using hb4.size) (fun r e => by cases e; omega)⟩

set_option maxRecDepth 100000 in
set_option maxHeartbeats 1000000 in
theorem dcheck_y (r c wd : Int) (v : Value) (xs : List Int) (r2 c2 wd2 : Int) (v2 : Value) (ys : List Int) (w : World) (hv : ReadI w v xs) (hx : xs.length ≤ 100000000) (hE0 : matE r c wd xs = 0)
    (hv2 : ReadI w v2 ys) (hy : ys.length ≤ 100000000) (hE : matE r2 c2 wd2 ys ≠ 0) :
    Calls Try.prog 19 #[setV r c wd v r2 c2 wd2 v2] w fun e w' => e = .returned (.tuple #[.int .i64 0, .int .i64 (matE r2 c2 wd2 ys)]) ∧ Below w.heap.size w w' := by
  obtain ⟨a9, n9, c9, rfl⟩ := hv.slice
  obtain ⟨a8, n8, c8, rfl⟩ := hv2.slice
  have HV := Lib.hid hv
  have HV2 := Lib.hid hv2
  have HE0 := Lib.hid hE0
  obtain ⟨E, he⟩ : ∃ E, E = matE r2 c2 wd2 ys := ⟨_, rfl⟩
  rw [← he] at hE ⊢
  have hEb : (E != 0) = true := by simp [hE]
  have HE := Lib.hid he
  clear he hE hv hv2 hE0
  have ix0 := index2_0
  have ix1 := index2_1
  unfold setV
  go_enter Try.func19, Try.ntmps19
  go_wp2_with fail
  obtain ⟨w1, hw1, hM, hA, hB, hb1, hs1⟩ := boxesSet3 w r c wd (.slice a9 n9 c9) r2 c2 wd2 (.slice a8 n8 c8)
  rw [← hw1]
  have HS := Lib.hid hs1
  clear hw1 hs1
  have p0 := hM.c0
  have p1 := hM.c1
  have p2 := hM.c2
  have p3 := hM.c3
  have p4 := hM.c4
  have p5 := hM.c5
  have p6 := hM.c6
  have p7 := hM.c7
  refine wp_loop_rounds 3 ?_
  rw [rounds_succ]
  go_wp2_with fail
  clear p0 p1 p2 p3 p4 p5 p6 p7
  obtain ⟨w2, hw2, hM2, hb2, hs2⟩ := boxM w1 r c wd (.slice a9 n9 c9)
  rw [← hw2]
  clear hw2 hs2
  have hbw := hb1.trans (hb2.mono hb1.size)
  refine (check_any r c wd (.slice a9 n9 c9) xs w2 (HV.out.below hbw) hx).mono ?_
  rintro e w3 ⟨rfl, hb3⟩
  rw [HE0.out]
  have hA2 := (hA.below hb2).below hb3
  have hB2 := (hB.below hb2).below hb3
  have hb4 := hbw.trans (hb3.mono hbw.size)
  clear hM hM2 hA hB hb1 hb2 hbw hb3
  go_wp2_with fail
  rw [rounds_succ]
  go_wp2_with fail
  obtain ⟨w4, hw4, hM4, hb5, hs4⟩ := boxM w3 r2 c2 wd2 (.slice a8 n8 c8)
  rw [← hw4]
  clear hw4 hs4
  have hbw := hb4.trans (hb5.mono hb4.size)
  refine (check_any r2 c2 wd2 (.slice a8 n8 c8) ys w4 (HV2.out.below hbw) hy).mono ?_
  rintro e w5 ⟨rfl, hb6⟩
  rw [← HE.out]
  have hA3 := (hA2.below hb5).below hb6
  have hB3 := (hB2.below hb5).below hb6
  have hb7 := hbw.trans (hb6.mono hbw.size)
  clear hM4 hA2 hB2 hb4 hb5 hbw hb6
  have a0 := hA3.cell
  have a1 := hA3.free
  have b0 := hB3.cell
  have b1 := hB3.free
  go_wp2
  have g1 := grownBy_setCell w5 (w.heap.size + 1) 0 (.int .i64 0)
  have g2 := grownBy_setCell (w5.setCell ⟨w.heap.size + 1, 0, none⟩ (.int .i64 0)) (w.heap.size + 1 + 1) 0 (.int .i64 E)
  have e0 := ((hA3.set (.int .i64 0)).grown g2 (by simp)).cell
  have e1 := ((hB3.grown g1 (by simp)).set (.int .i64 E)).cell
  refine bodyPost_ret (by simp [results, Try.results19, go_sem, e0, e1]; try rfl) rfl ?_
  exact ⟨rfl, (hb7.grown g1 hb7.size (fun r e => by cases e; omega)).grown g2 (by simpa [World.setCell] using hb7.size) (fun r e => by cases e; omega)⟩

set_option maxRecDepth 100000 in
set_option maxHeartbeats 1000000 in
/-- The widths differ, or the rows. -/
theorem dcheck_wr (r c wd : Int) (v : Value) (xs : List Int) (r2 c2 wd2 : Int) (v2 : Value) (ys : List Int) (w : World) (hv : ReadI w v xs) (hx : xs.length ≤ 100000000) (hE0 : matE r c wd xs = 0)
    (hv2 : ReadI w v2 ys) (hy : ys.length ≤ 100000000) (hE : matE r2 c2 wd2 ys = 0) (E : Int) (hD : ((wd != wd2) = true ∧ E = 3) ∨ ((wd != wd2) = false ∧ (r != r2) = true ∧ E = 4)) :
    Calls Try.prog 19 #[setV r c wd v r2 c2 wd2 v2] w fun e w' => e = .returned (.tuple #[.int .i64 0, .int .i64 E]) ∧ Below w.heap.size w w' := by
  obtain ⟨a9, n9, c9, rfl⟩ := hv.slice
  obtain ⟨a8, n8, c8, rfl⟩ := hv2.slice
  have HV := Lib.hid hv
  have HV2 := Lib.hid hv2
  have HE0 := Lib.hid hE0
  have HE := Lib.hid hE
  have HD := Lib.hid hD
  clear hE hv hv2 hE0 hD
  have ix0 := index2_0
  have ix1 := index2_1
  unfold setV
  go_enter Try.func19, Try.ntmps19
  go_wp2_with fail
  obtain ⟨w1, hw1, hM, hA, hB, hb1, hs1⟩ := boxesSet3 w r c wd (.slice a9 n9 c9) r2 c2 wd2 (.slice a8 n8 c8)
  rw [← hw1]
  have HS := Lib.hid hs1
  clear hw1 hs1
  have p0 := hM.c0
  have p1 := hM.c1
  have p2 := hM.c2
  have p3 := hM.c3
  have p4 := hM.c4
  have p5 := hM.c5
  have p6 := hM.c6
  have p7 := hM.c7
  refine wp_loop_rounds 3 ?_
  rw [rounds_succ]
  go_wp2_with fail
  clear p0 p1 p2 p3 p4 p5 p6 p7
  obtain ⟨w2, hw2, hM2, hb2, hs2⟩ := boxM w1 r c wd (.slice a9 n9 c9)
  rw [← hw2]
  clear hw2 hs2
  have hbw := hb1.trans (hb2.mono hb1.size)
  refine (check_any r c wd (.slice a9 n9 c9) xs w2 (HV.out.below hbw) hx).mono ?_
  rintro e w3 ⟨rfl, hb3⟩
  rw [HE0.out]
  have hS2 := (hM.below hb2).below hb3
  have hA2 := (hA.below hb2).below hb3
  have hB2 := (hB.below hb2).below hb3
  have hb4 := hbw.trans (hb3.mono hbw.size)
  clear hM hM2 hA hB hb1 hb2 hbw hb3
  go_wp2_with fail
  rw [rounds_succ]
  go_wp2_with fail
  obtain ⟨w4, hw4, hM4, hb5, hs4⟩ := boxM w3 r2 c2 wd2 (.slice a8 n8 c8)
  rw [← hw4]
  clear hw4 hs4
  have hbw := hb4.trans (hb5.mono hb4.size)
  refine (check_any r2 c2 wd2 (.slice a8 n8 c8) ys w4 (HV2.out.below hbw) hy).mono ?_
  rintro e w5 ⟨rfl, hb6⟩
  rw [HE.out]
  have hS3 := (hS2.below hb5).below hb6
  have hA3 := (hA2.below hb5).below hb6
  have hB3 := (hB2.below hb5).below hb6
  have hb7 := hbw.trans (hb6.mono hbw.size)
  clear hM4 hA2 hB2 hb4 hb5 hbw hb6 hS2
  have p0 := hS3.c0
  have p2 := hS3.c2
  have p4 := hS3.c4
  have p6 := hS3.c6
  have a0 := hA3.cell
  have a1 := hA3.free
  have b0 := hB3.cell
  have b1 := hB3.free
  go_wp2_with fail
  rw [rounds_succ]
  have g1 := grownBy_setCell w5 (w.heap.size + 1) 0 (.int .i64 0)
  have g2 := grownBy_setCell (w5.setCell ⟨w.heap.size + 1, 0, none⟩ (.int .i64 0)) (w.heap.size + 1 + 1) 0 (.int .i64 E)
  have e0 := ((hA3.set (.int .i64 0)).grown g2 (by simp)).cell
  have e1 := ((hB3.grown g1 (by simp)).set (.int .i64 E)).cell
  have hend : Below w.heap.size w ((w5.setCell ⟨w.heap.size + 1, 0, none⟩ (.int .i64 0)).setCell ⟨w.heap.size + 1 + 1, 0, none⟩ (.int .i64 E)) :=
    (hb7.grown g1 hb7.size (fun r e => by cases e; omega)).grown g2 (by simpa [World.setCell] using hb7.size) (fun r e => by cases e; omega)
  rcases HD.out with ⟨hw, hE3⟩ | ⟨hw, hr, hE4⟩
  · subst hE3
    go_wp2
    refine bodyPost_ret (by simp [results, Try.results19, go_sem, e0, e1]; try rfl) rfl ?_
    exact ⟨rfl, hend⟩
  · subst hE4
    go_wp2
    refine bodyPost_ret (by simp [results, Try.results19, go_sem, e0, e1]; try rfl) rfl ?_
    exact ⟨rfl, hend⟩
end Go.Proofs.Ytdddbljkhhbdlaa
