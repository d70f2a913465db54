/-
The contract of data.Check.
-/
import Derived.Test.YtdddbljkhhbdlaaRefDataCheck
import Derived.Test.YtdddbljkhhbdlaaDataRowsIt
import Derived.Test.YtdddbljkhhbdlaaRound
namespace Go.Proofs.Ytdddbljkhhbdlaa
open Go.RowKit Go.Shelf
attribute [local go_sem] Oper.semAt_some

def ChkI (R : Nat) (f : Nat → Int) (w7 : World) (pre : List (Fin R)) (W : World) : Prop :=
  Hid (∀ y : Fin R, y ∈ pre → f y.val = 0) ∧ Below w7.heap.size w7 W
def ChkX (R : Nat) (f : Nat → Int) (w : World) (cd : Code) (pre : List (Fin R)) (W : World) : Prop :=
  (Hid (cd = .ret ∧ ∃ (pre0 : List (Fin R)) (y : Fin R), pre = pre0 ++ [y] ∧ (∀ z : Fin R, z ∈ pre0 → f z.val = 0) ∧ f y.val ≠ 0 ∧
      BoxAt W (w.heap.size + 1) 3 (.int .i64 (y.val : Nat)) ∧ BoxAt W (w.heap.size + 1 + 1) 24 (.int .i64 (f y.val)))) ∧ Below w.heap.size w W

theorem dcheck_leave {w W : World} {D : Nat} {tmps : Array Value} {p q : Int} (hb : Below w.heap.size w W) (hA : BoxAt W (w.heap.size + 1) 3 (.int .i64 p)) (hB : BoxAt W (w.heap.size + 1 + 1) 24 (.int .i64 q))
    (hK : W.heap[D]? = some (.deferred (some []))) (hD : w.heap.size + 3 ≤ D) (h2 : tmps[2]?.getD undef = .pointer (some ⟨w.heap.size + 1, 0, none⟩)) (h3 : tmps[3]?.getD undef = .pointer (some ⟨w.heap.size + 1 + 1, 0, none⟩)) :
    bodyPostM Fence.wide 6 Try.prog Try.f19 (fun e w' => e = .returned (.tuple #[.int .i64 p, .int .i64 q]) ∧ Below w.heap.size w w') Exit.ret { tmps := tmps, defers := [{ target := Target.collected D, args := #[] }] } W := by
  refine ⟨by simp, .inl ⟨_, _, rfl, run_takeDeferred hK, ?_⟩⟩
  have hg := grownBy_putObj' W D (.deferred none)
  have hA2 := (hA.grown hg (by simp; omega)).cell
  have hB2 := (hB.grown hg (by simp; omega)).cell
  refine ⟨.tuple #[.int .i64 p, .int .i64 q], ?_, rfl, hb.grown hg hb.size (fun r e => by cases e; omega)⟩
  simp [results, Try.results19, go_sem, h2, h3, hA2, hB2]
theorem dcheck_end {w W : World} {D : Nat} {tmps : Array Value} {p q : Int} {u0 u1 : Value} (hb : Below w.heap.size w W) (hD0 : w.heap.size + 3 ≤ D) (hA : BoxAt W (w.heap.size + 1) 3 u0) (hB : BoxAt W (w.heap.size + 1 + 1) 24 u1)
    (hK : W.heap[D]? = some (.deferred (some []))) (h2 : tmps[2]?.getD undef = .pointer (some ⟨w.heap.size + 1, 0, none⟩)) (h3 : tmps[3]?.getD undef = .pointer (some ⟨w.heap.size + 1 + 1, 0, none⟩)) :
    bodyPostM Fence.wide 6 Try.prog Try.f19 (fun e w' => e = .returned (.tuple #[.int .i64 p, .int .i64 q]) ∧ Below w.heap.size w w') Exit.ret { tmps := tmps, defers := [{ target := Target.collected D, args := #[] }] }
      ((W.setCell ⟨w.heap.size + 1, 0, none⟩ (.int .i64 p)).setCell ⟨w.heap.size + 1 + 1, 0, none⟩ (.int .i64 q)) := by
  have g1 := grownBy_setCell W (w.heap.size + 1) 0 (.int .i64 p)
  have g2 := grownBy_setCell (W.setCell ⟨w.heap.size + 1, 0, none⟩ (.int .i64 p)) (w.heap.size + 1 + 1) 0 (.int .i64 q)
  refine dcheck_leave ((hb.grown g1 hb.size (fun r e => by cases e; omega)).grown g2 (by simpa [World.setCell] using hb.size) (fun r e => by cases e; omega)) ((hA.set _).grown g2 (by simp)) ((hB.grown g1 (by simp)).set _) ?_ hD0 h2 h3
  rw [heap_setCell _ _ _ _ D (by omega), heap_setCell _ _ _ _ D (by omega)]
  exact hK
theorem matE_row {R C : Nat} {wd : Int} {xs : List Int} {k : Nat} (h : matE R C wd xs = 0) (hk : k < R) : matE 1 C wd (rowI C xs k) = 0 := by
  obtain ⟨R', C', e1, e2, a1, a2, a3, a4, a5, a6, a7, a8⟩ := mat_nat h
  obtain rfl : R' = R := by omega
  obtain rfl : C' = C := by omega
  have hl := rowI_length C' xs k (by rw [a6]; exact mul_row hk)
  have hs : szE 1 C' wd = 0 := by
    have h2 := matE_ok h
    obtain ⟨hw, hr1, hc1, hr2, hc2, hm⟩ := szE_ok h2.1
    unfold szE
    rcases hw with rfl | rfl
    all_goals
      simp
      omega
  have hfit : fitI wd (rowI C' xs k) = true := by
    unfold fitI at a8 ⊢
    rcases a7 with rfl | rfl
    · rw [show ((32 : Int) == 64) = false from by decide, Bool.false_or] at a8 ⊢
      rw [List.all_eq_true] at a8 ⊢
      exact fun x hx => a8 x (rowI_mem hx)
    · rfl
  unfold matE
  rw [if_neg (by simp [hs]), if_neg (by rw [hl]; simp), if_pos hfit]
theorem finI_row {R C : Nat} {wd : Int} {xs : List Int} {k : Nat} (h : matE R C wd xs = 0) (hk : k < R) : finI 1 C wd (rowI C xs k) = stopI wd (rowI C xs k) := by
  unfold finI
  rw [if_pos (matE_row h hk)]
theorem okB_bounds {wd x : Int} (h : okB wd x) : -9223372036854775808 ≤ x ∧ x ≤ 9223372036854775807 := by
  rcases h with ⟨_, h⟩ | ⟨_, h⟩ <;> omega

theorem cut_one (R C : Nat) (wd : Int) (b off cp : Nat) (xs : List Int) (row : Nat) (ar : Addr) (cr : Nat) (w : World) (hcp : R * C ≤ cp) (hcell : ∀ j, j < xs.length → w.cell? ⟨b, off + j, none⟩ = some (.int .i64 (xs.getD j 0)))
    (hrs : ReadI w (.slice (some ar) 1 cr) [(row : Int)]) (hrow : row < R) (hC0 : 0 < C) (hR1 : R ≤ 4096) (hC1 : C ≤ 4096) (hRC : R * C ≤ 4096) (hl : xs.length = R * C) :
    Calls Try.prog 85 #[matV R C wd (.slice (some ⟨b, off, none⟩) (R * C) cp), .slice (some ar) 1 cr] w fun e w' => ∃ v', e = .returned (matV 1 C wd v') ∧ w'.ownsRow w.heap.size 3 1 v' C (cellsI (rowI C xs row)) ∧ Below w.heap.size w w' := by
  refine (cut_any R C 1 wd b off cp xs [(row : Int)] ar cr w hcp hcell hrs rfl (by omega) (fun r hr => by
      have : r = (row : Int) := by simpa using hr
      omega) hC0 hR1 hC1 hRC hl).mono ?_
  rintro e w' ⟨v', he, hr, hb⟩
  rw [Nat.one_mul] at hr
  have e1 : rowsI C xs [(row : Int)] = rowI C xs row := by simp [rowsI]
  rw [e1] at hr
  exact ⟨v', he, hr, hb⟩

theorem row_read {w w' : World} {b off R C : Nat} {xs : List Int} {k : Nat} (hcell : ∀ j, j < xs.length → w.cell? ⟨b, off + j, none⟩ = some (.int .i64 (xs.getD j 0))) (hl : xs.length = R * C) (hk : k < R) (hb : Below w.heap.size w w') :
    ReadI w' (.slice (some ⟨b, off + k * C, none⟩) C C) (rowI C xs k) := by
  have h1 := mul_row (C := C) hk
  have hlen := rowI_length C xs k (by rw [hl]; exact h1)
  refine .inr ⟨b, off + k * C, C, by rw [hlen], by rw [hlen]; exact Nat.le_refl _, fun j hj => ?_⟩
  rw [hlen] at hj
  rw [rowI_getD C xs k j hj]
  have h := hcell (k * C + j) (by rw [hl]; omega)
  rw [← Nat.add_assoc] at h
  exact (hb.cell (p := ⟨b, off + k * C + j, none⟩) (by exact World.block_lt_of_cell? _ _ h)).trans h

set_option maxRecDepth 100000 in
set_option maxHeartbeats 4000000 in
theorem dcheck_in (R C C2 : Nat) (wd : Int) (b off cp : Nat) (xs : List Int) (b2 off2 cp2 : Nat) (ys : List Int) (w : World)
    (hC0 : 0 < C) (hC20 : 0 < C2) (hR1 : R ≤ 4096) (hC1 : C ≤ 4096) (hC21 : C2 ≤ 4096) (hRC : R * C ≤ 4096) (hRC2 : R * C2 ≤ 4096) (hl : xs.length = R * C) (hl2 : ys.length = R * C2)
    (hE : matE R C wd xs = 0) (hE2 : matE R C2 wd ys = 0)
    (hcp : xs.length ≤ cp) (hcell : ∀ j, j < xs.length → w.cell? ⟨b, off + j, none⟩ = some (.int .i64 (xs.getD j 0))) (hok : ∀ x, x ∈ xs → okB wd x)
    (hcp2 : ys.length ≤ cp2) (hcell2 : ∀ j, j < ys.length → w.cell? ⟨b2, off2 + j, none⟩ = some (.int .i64 (ys.getD j 0))) (hok2 : ∀ x, x ∈ ys → okB wd x) :
    Calls Try.prog 19 #[setV R C wd (.slice (some ⟨b, off, none⟩) (R * C) cp) R C2 wd (.slice (some ⟨b2, off2, none⟩) (R * C2) cp2)] w fun e w' =>
      e = .returned (.tuple #[.int .i64 (rowsFrom (rowE wd C xs C2 ys) 0 R).1, .int .i64 (rowsFrom (rowE wd C xs C2 ys) 0 R).2]) ∧ Below w.heap.size w w' := by
  have hv : ReadI w (.slice (some ⟨b, off, none⟩) (R * C) cp) xs := .inr ⟨b, off, cp, by rw [hl], hcp, hcell⟩
  have hv2 : ReadI w (.slice (some ⟨b2, off2, none⟩) (R * C2) cp2) ys := .inr ⟨b2, off2, cp2, by rw [hl2], hcp2, hcell2⟩
  have HV := Lib.hid hv
  have HV2 := Lib.hid hv2
  have HC := Lib.hid hcell
  have HC2 := Lib.hid hcell2
  have HO := Lib.hid hok
  have HO2 := Lib.hid hok2
  have HE := Lib.hid hE
  have HE2 := Lib.hid hE2
  have HL := Lib.hid hl
  have HL2 := Lib.hid hl2
  rw [hl] at hcp
  rw [hl2] at hcp2
  clear hv hv2 hcell hcell2 hok hok2 hE hE2 hl hl2
  have ix0 := index2_0
  have ix1 := index2_1
  unfold setV
  refine (callsIn_wide (n := 6)).1 ?_
  refine callsIn_of_wp_marks Try.func19 rfl trivial ?_ rfl
  simp only [Try.ntmps19, List.size_toArray, List.length_cons, List.length_nil, Nat.reduceAdd, Nat.reduceSub, Array.replicate_succ, Array.replicate_zero, List.push_toArray, List.append_toArray, List.nil_append, List.cons_append]
  gi_wp2_with fail
  obtain ⟨w1, hw1, hM, hA, hB, hb1, hs1⟩ := boxesSet3 w R C wd (.slice (some ⟨b, off, none⟩) (R * C) cp) R C2 wd (.slice (some ⟨b2, off2, none⟩) (R * C2) cp2)
  rw [← hw1]
  have HS := Lib.hid hs1
  clear hw1 hs1
  have p0 := hM.c0
  have p1 := hM.c1
  have p2 := hM.c2
  have p3 := hM.c3
  have p4 := hM.c4
  have p5 := hM.c5
  have p6 := hM.c6
  have p7 := hM.c7
  refine wpIn_loop_rounds 3 ?_
  rw [roundsIn_succ]
  gi_wp2_with fail
  clear p0 p1 p2 p3 p4 p5 p6 p7
  obtain ⟨w2, hw2, hM2, hb2, hs2⟩ := boxM w1 R C wd (.slice (some ⟨b, off, none⟩) (R * C) cp)
  rw [← hw2]
  clear hw2 hs2
  have hbw := hb1.trans (hb2.mono hb1.size)
  refine ⟨trivial, ?_⟩
  refine (callsIn_wide.2 (check_any R C wd _ xs w2 (HV.out.below hbw) (by rw [HL.out]; omega))).mono ?_
  rintro e w3 ⟨rfl, hb3⟩
  rw [HE.out]
  have hS3 := (hM.below hb2).below hb3
  have hA3 := (hA.below hb2).below hb3
  have hB3 := (hB.below hb2).below hb3
  have hb4 := hbw.trans (hb3.mono hbw.size)
  have hs4 : w.heap.size + 3 ≤ w3.heap.size := by have := hb2.size; have := hb3.size; have := HS.out; omega
  clear hM hM2 hA hB hb1 hb2 hbw hb3
  have HS4 := Lib.hid hs4
  clear hs4
  gi_wp2_with fail
  rw [roundsIn_succ]
  gi_wp2_with fail
  obtain ⟨w4, hw4, hM4, hb5, hs5⟩ := boxM w3 R C2 wd (.slice (some ⟨b2, off2, none⟩) (R * C2) cp2)
  rw [← hw4]
  clear hw4 hs5
  have hbw := hb4.trans (hb5.mono hb4.size)
  refine ⟨trivial, ?_⟩
  refine (callsIn_wide.2 (check_any R C2 wd _ ys w4 (HV2.out.below hbw) (by rw [HL2.out]; omega))).mono ?_
  rintro e w5 ⟨rfl, hb6⟩
  rw [HE2.out]
  have hS5 := (hS3.below hb5).below hb6
  have hA5 := (hA3.below hb5).below hb6
  have hB5 := (hB3.below hb5).below hb6
  have hb7 := hbw.trans (hb6.mono hbw.size)
  have HS5 : Hid (w.heap.size + 3 ≤ w5.heap.size) := by show _ ≤ _; have := hb5.size; have := hb6.size; have := HS4.out; omega
  clear hM4 hA3 hB3 hS3 hb4 hb5 hbw hb6 HS4
  have p0 := hS5.c0
  have p1 := hS5.c1
  have p2 := hS5.c2
  have p3 := hS5.c3
  have p4 := hS5.c4
  have p6 := hS5.c6
  gi_wp2_with fail
  rw [roundsIn_succ]
  gi_wp2_with fail
  refine ⟨trivial, ?_⟩
  refine (drows_in Fence.wide 5 trivial rfl R C wd _ _).mono ?_
  rintro e w6 ⟨rfl, rfl⟩
  gi_wp2_with fail
  obtain ⟨w7, hw7, hM7, hb8, hs8⟩ := boxM w5 R C wd (.slice (some ⟨b, off, none⟩) (R * C) cp)
  rw [← hw7]
  clear hw7
  have hSg := hS5.below hb8
  have hAg := hA5.below hb8
  have hBg := hB5.below hb8
  have hbw := hb7.trans (hb8.mono hb7.size)
  clear hS5 hA5 hB5 hb7 hb8 p0 p1 p2 p3 p4 p6
  have HS8 := Lib.hid hs8
  clear hs8
  refine wpIn_rangeFunc_ownF (F := Fence.wide) rfl (by omega) (gf := 132) (lb := #[.pointer (some ⟨w5.heap.size, 0, none⟩)]) rfl trivial (enters_of Try.func132 (by kernel_rfl) rfl)
    (drows_stops 5 (by omega) w5.heap.size w7.heap.size b off cp R C wd hR1 hC0 hC1 hRC hcp (by have := HS8.out; omega) w7 hM7) belowK_t (belowK_b (Nat.le_refl _)) (Below.refl _ _) (fun _ => rfl)
    (ChkI R (rowE wd C xs C2 ys) w7) (ChkX R (rowE wd C xs C2 ys) w)
    (OwnFrom.and (ownFrom_pure _ _) (ownFrom_below (Nat.le_refl _) (Nat.le_refl _)))
    (fun cd => OwnFrom.and (fun s A B row hs hg hr => ⟨hs.1, by
      obtain ⟨pre0, y, h1, h2, h3, h6, h7⟩ := hs.2
      exact ⟨pre0, y, h1, h2, h3, h6.grown hg (cells_ne h6.block hr), h7.grown hg (cells_ne h7.block hr)⟩⟩) (ownFrom_below (Nat.le_refl _) hbw.size))
    ⟨fun y hy => absurd hy (List.not_mem_nil), Below.refl _ _⟩
    (fun x => { tmps := #[.agg #[.int .i64 R, .int .i64 C, .int .i64 wd, .slice (some ⟨b, off, none⟩) (R * C) cp, .int .i64 R, .int .i64 C2, .int .i64 wd, .slice (some ⟨b2, off2, none⟩) (R * C2) cp2], .pointer (some ⟨w.heap.size, 0, none⟩), .pointer (some ⟨w.heap.size + 1, 0, none⟩), .pointer (some ⟨w.heap.size + 1 + 1, 0, none⟩), undef, .pointer (some ⟨w3.heap.size, 0, none⟩), .int .i64 0, .int .i64 (x.val : Nat), .slice (some ⟨b, off + x.val * C, none⟩) C C, undef, undef, undef, undef, .pointer (some ⟨w.heap.size, 0, none⟩), .agg #[.int .i64 R, .int .i64 C, .int .i64 wd, .slice (some ⟨b, off, none⟩) (R * C) cp], .pointer (some ⟨w.heap.size, 4, none⟩), .agg #[.int .i64 R, .int .i64 C2, .int .i64 wd, .slice (some ⟨b2, off2, none⟩) (R * C2) cp2], .agg #[.int .i64 R, .int .i64 C, .int .i64 wd, .slice (some ⟨b, off, none⟩) (R * C) cp, .int .i64 R, .int .i64 C2, .int .i64 wd, .slice (some ⟨b2, off2, none⟩) (R * C2) cp2], .int .i64 2, .bool false, .agg #[.int .i64 R, .int .i64 C2, .int .i64 wd, .slice (some ⟨b2, off2, none⟩) (R * C2) cp2], .agg #[.int .i64 R, .int .i64 C2, .int .i64 wd, .slice (some ⟨b2, off2, none⟩) (R * C2) cp2], .int .i64 0, .int .i64 0, .bool false, undef, .int .i64 2, .pointer (some ⟨w.heap.size, 0, none⟩), .pointer (some ⟨w.heap.size, 2, none⟩), .int .i64 wd, .pointer (some ⟨w.heap.size, 4, none⟩), .pointer (some ⟨w.heap.size, 6, none⟩), .int .i64 wd, .bool false, .pointer (some ⟨w.heap.size, 0, none⟩), .pointer (some ⟨w.heap.size, 0, none⟩), .int .i64 R, .pointer (some ⟨w.heap.size, 4, none⟩), .pointer (some ⟨w.heap.size, 4, none⟩), .int .i64 R, .bool false, .pointer (some ⟨w.heap.size, 0, none⟩), .agg #[.int .i64 R, .int .i64 C, .int .i64 wd, .slice (some ⟨b, off, none⟩) (R * C) cp], .func (.func 132) #[] #[.pointer (some ⟨w5.heap.size, 0, none⟩)], .int .i64 (x.val : Nat), .slice (some ⟨b, off + x.val * C, none⟩) C C, undef, undef, undef, undef, undef, undef, undef, undef, undef, undef, undef, undef, undef, undef, undef, undef, undef, undef, undef, undef, undef, undef, undef, undef, undef, undef, undef], defers := [] }) ?assign ?body ?done ?stop
  case assign =>
    intro l x W K hK
    gi_wp2
    exact hK
  case body =>
    rintro l pre x W ⟨HI, hbW⟩ _
    have hSW := hSg.below hbW
    have hAW := hAg.below hbW
    have hBW := hBg.below hbW
    dsimp only
    gi_wp2_with fail
    have p1 := hSW.c1
    have p2 := hSW.c2
    have p4 := hSW.c4
    have p5 := hSW.c5
    have p6 := hSW.c6
    have p7 := hSW.c7
    refine wpIn_region_round (S := fun w' => w'.cell? ⟨w.heap.size, 1, none⟩ = some (.int .i64 C) ∧ w'.cell? ⟨w.heap.size, 2, none⟩ = some (.int .i64 wd) ∧ w'.cell? ⟨w.heap.size, 4, none⟩ = some (.int .i64 R) ∧ w'.cell? ⟨w.heap.size, 5, none⟩ = some (.int .i64 C2) ∧ w'.cell? ⟨w.heap.size, 6, none⟩ = some (.int .i64 wd) ∧ w'.cell? ⟨w.heap.size, 7, none⟩ = some (.slice (some ⟨b2, off2, none⟩) (R * C2) cp2)) (by kernel_rfl) (by kernel_rfl) ⟨p1, p2, p4, p5, p6, p7⟩ (fun hHeld => ?_)
    clear p1 p2 p4 p5 p6 p7
    refine take_at 0 (some 46) (v := ?va0) rfl rfl (by kernel_rfl) (by kernel_rfl) (by kernel_rfl) (fun _ _ _ h => h) (by rfl) ?hy0 hHeld ?re0
    case hy0 =>
      intro w9 hSw
      go_simp
      try with_reducible rfl
    simp only [Act.put, List.setIfInBounds_toArray, List.set_cons_zero, List.set_cons_succ]
    refine take_at 1 (some 47) (v := ?va1) rfl rfl (by kernel_rfl) (by kernel_rfl) (by kernel_rfl) (fun _ _ _ h => h) (by rfl) ?hy1 hHeld ?re1
    case hy1 =>
      intro w9 hSw
      go_simp
      try with_reducible rfl
    simp only [Act.put, List.setIfInBounds_toArray, List.set_cons_zero, List.set_cons_succ]
    refine take_at 2 (some 48) (v := ?va2) rfl rfl (by kernel_rfl) (by kernel_rfl) (by kernel_rfl) (fun _ _ _ h => h) (by rfl) ?hy2 hHeld ?re2
    case hy2 =>
      intro w9 hSw
      go_simp
      try with_reducible rfl
    simp only [Act.put, List.setIfInBounds_toArray, List.set_cons_zero, List.set_cons_succ]
    refine take_at 3 (some 49) (v := ?va3) rfl rfl (by kernel_rfl) (by kernel_rfl) (by kernel_rfl) (fun _ _ _ h => h) (by rfl) ?hy3 hHeld ?re3
    case hy3 =>
      intro w9 hSw
      go_simp
      try with_reducible rfl
    simp only [Act.put, List.setIfInBounds_toArray, List.set_cons_zero, List.set_cons_succ]
    refine take_at 4 (some 50) (v := ?va4) rfl rfl (by kernel_rfl) (by kernel_rfl) (by kernel_rfl) (fun _ _ _ h => h) (by rfl) ?hy4 hHeld ?re4
    case hy4 =>
      intro w9 hSw
      go_simp
      try with_reducible rfl
    simp only [Act.put, List.setIfInBounds_toArray, List.set_cons_zero, List.set_cons_succ]
    refine take_at 5 (some 51) (v := ?va5) rfl rfl (by kernel_rfl) (by kernel_rfl) (by kernel_rfl) (fun _ _ _ h => h) (by rfl) ?hy5 hHeld ?re5
    case hy5 =>
      intro w9 hSw
      go_simp
      try with_reducible rfl
    simp only [Act.put, List.setIfInBounds_toArray, List.set_cons_zero, List.set_cons_succ]
    refine take_at 6 (some 52) (v := ?va6) rfl rfl (by kernel_rfl) (by kernel_rfl) (by kernel_rfl) (fun _ _ _ h => h) (by rfl) ?hy6 hHeld ?re6
    case hy6 =>
      intro w9 hSw
      go_simp
      try with_reducible rfl
    simp only [Act.put, List.setIfInBounds_toArray, List.set_cons_zero, List.set_cons_succ]
    refine take_at 7 (some 53) (v := ?va7) rfl rfl (by kernel_rfl) (by kernel_rfl) (by kernel_rfl) (fun _ _ _ h => h) (by rfl) ?hy7 hHeld ?re7
    case hy7 =>
      intro w9 hSw
      go_simp
      try with_reducible rfl
    simp only [Act.put, List.setIfInBounds_toArray, List.set_cons_zero, List.set_cons_succ]
    refine take_at 8 (some 54) (v := ?va8) rfl rfl (by kernel_rfl) (by kernel_rfl) (by kernel_rfl) (fun _ _ _ h => h) (by rfl) ?hy8 hHeld ?re8
    case hy8 =>
      intro w9 hSw
      go_simp
      try with_reducible rfl
    simp only [Act.put, List.setIfInBounds_toArray, List.set_cons_zero, List.set_cons_succ]
    refine take_at 9 (some 55) (v := ?va9) rfl rfl (by kernel_rfl) (by kernel_rfl) (by kernel_rfl) (fun _ _ _ h => h) (by rfl) ?hy9 hHeld ?re9
    case hy9 =>
      intro w9 hSw
      go_simp
      try with_reducible rfl
    simp only [Act.put, List.setIfInBounds_toArray, List.set_cons_zero, List.set_cons_succ]
    refine take_at 10 (some 56) (v := ?va10) rfl rfl (by kernel_rfl) (by kernel_rfl) (by kernel_rfl) (fun _ _ _ h => h) (by rfl) ?hy10 hHeld ?re10
    case hy10 =>
      intro w9 hSw
      go_simp
      try with_reducible rfl
    simp only [Act.put, List.setIfInBounds_toArray, List.set_cons_zero, List.set_cons_succ]
    refine take_at 14 (some 60) (v := ?va14) rfl rfl (by kernel_rfl) (by kernel_rfl) (by kernel_rfl) (fun _ _ _ h => h) (by rfl) ?hy14 hHeld ?re14
    case hy14 =>
      intro w9 hSw
      go_simp
      try with_reducible rfl
    simp only [Act.put, List.setIfInBounds_toArray, List.set_cons_zero, List.set_cons_succ]
    refine alone_at 11 (some 57) rfl rfl (by kernel_rfl) (by rfl) (fun K hK => ?_)
    go_simp
    obtain ⟨w8, hw8⟩ : ∃ w8, w8 = (W.alloc (.cells #[.int .i64 (x.val : Nat)] 3)).drew := ⟨_, rfl⟩
    have hb9 : Below W.heap.size W w8 := by rw [hw8]; exact ((Below.refl _ W).alloc (Nat.le_refl _) _).drew
    have hcx : w8.cell? ⟨W.heap.size, 0, none⟩ = some (.int .i64 (x.val : Nat)) := by
      rw [hw8]
      exact cell_of_row (W.alloc (.cells #[.int .i64 (x.val : Nat)] 3)) _ 0 _ 3 (0, 0) (heap_alloc_new W _)
    rw [← hw8]
    clear hw8 hHeld
    have hS9 := hSW.below hb9
    refine hK.out _ _ ⟨hS9.c1, hS9.c2, hS9.c4, hS9.c5, hS9.c6, hS9.c7⟩ ?_
    simp only [Act.put, List.setIfInBounds_toArray, List.set_cons_zero, List.set_cons_succ]
    clear hK K
    have hbx : Below w.heap.size w w8 := (hbw.trans (hbW.mono hbw.size)).trans (hb9.mono (Nat.le_trans hbw.size hbW.size))
    refine alone_at 12 (some 58) rfl rfl (by kernel_rfl) (by rfl) (fun K hK => ?_)
    go_simp
    have hrs : ReadI w8 (.slice (some ⟨W.heap.size, 0, none⟩) 1 1) [(x.val : Int)] := .inr ⟨W.heap.size, 0, 1, rfl, Nat.le_refl _, fun j hj => by
      have : j = 0 := by simpa using hj
      subst this
      exact hcx⟩
    have hcy : ∀ j, j < ys.length → w8.cell? ⟨b2, off2 + j, none⟩ = some (.int .i64 (ys.getD j 0)) := fun j hj =>
      (hbx.cell (p := ⟨b2, off2 + j, none⟩) (by exact World.block_lt_of_cell? _ _ (HC2.out j hj))).trans (HC2.out j hj)
    refine (cut_one R C2 wd b2 off2 cp2 ys x.val ⟨W.heap.size, 0, none⟩ 1 w8 hcp2 hcy hrs x.isLt hC20 hR1 hC21 hRC2 HL2.out).mono ?_
    rintro e w10 ⟨v10, rfl, hr10, hb10⟩
    have hS10 := hS9.below hb10
    have hAx := (hAW.below hb9).below hb10
    have hBx := (hBW.below hb9).below hb10
    have hb11 : Below W.heap.size W w10 := hb9.trans (hb10.mono hb9.size)
    obtain ⟨a10, c10, rfl, _, _⟩ := own_form hr10
    refine hK.out _ _ ⟨hS10.c1, hS10.c2, hS10.c4, hS10.c5, hS10.c6, hS10.c7⟩ ?_
    simp only [Act.put, matV, List.setIfInBounds_toArray, List.set_cons_zero, List.set_cons_succ]
    have hHeld : (fun w' : World => w'.cell? ⟨w.heap.size, 1, none⟩ = some (.int .i64 C) ∧ w'.cell? ⟨w.heap.size, 2, none⟩ = some (.int .i64 wd) ∧ w'.cell? ⟨w.heap.size, 4, none⟩ = some (.int .i64 R) ∧ w'.cell? ⟨w.heap.size, 5, none⟩ = some (.int .i64 C2) ∧ w'.cell? ⟨w.heap.size, 6, none⟩ = some (.int .i64 wd) ∧ w'.cell? ⟨w.heap.size, 7, none⟩ = some (.slice (some ⟨b2, off2, none⟩) (R * C2) cp2)) w10 := ⟨hS10.c1, hS10.c2, hS10.c4, hS10.c5, hS10.c6, hS10.c7⟩
    clear hK K hSW hAW hBW hb9 hcx hS9 hbx hrs hcy hb10
    refine take_at 13 (some 59) (v := ?va13) rfl rfl (by kernel_rfl) (by kernel_rfl) (by kernel_rfl) (fun _ _ _ h => h) (by rfl) ?hy13 hHeld ?re13
    case hy13 =>
      intro w9 hSw
      go_simp
      try with_reducible rfl
    simp only [Act.put, List.setIfInBounds_toArray, List.set_cons_zero, List.set_cons_succ]
    refine wpAnyH_done (by kernel_rfl) ?_ _
    simp only [OnN, Exit.then]
    clear hHeld
    have hx1 := mul_row (C := C) x.isLt
    have hx2 := mul_row (C := C2) x.isLt
    gi_wp2_with fail
    refine wpIn_loop_rounds 3 ?_
    rw [roundsIn_succ]
    gi_wp2_with fail
    obtain ⟨w11, hw11, hM11, hb12, hs12⟩ := boxM w10 1 C wd (.slice (some ⟨b, off + x.val * C, none⟩) C C)
    rw [← hw11]
    clear hw11 hs12 hM11
    have hbX : Below W.heap.size W w11 := hb11.trans (hb12.mono hb11.size)
    have hbY : Below w.heap.size w w11 := (hbw.trans (hbW.mono hbw.size)).trans (hbX.mono (Nat.le_trans hbw.size hbW.size))
    refine ⟨trivial, ?_⟩
    refine (CallsIn.inRound l (callsIn_wide.2 (finite_any 1 C wd _ (rowI C xs x.val) w11 (row_read HC.out HL.out x.isLt hbY) (by rw [rowI_length C xs x.val (by rw [HL.out]; exact hx1)]; omega) (fun z hz => okB_bounds (HO.out z (rowI_mem hz)))))).mono ?_
    rintro e w12 ⟨rfl, hb13⟩
    rw [finI_row HE.out x.isLt]
    have hr12 := own_below (own_below hr10 hb12 (Nat.le_refl _)) hb13 (Nat.le_refl _)
    have hA12 := (hAx.below hb12).below hb13
    have hB12 := (hBx.below hb12).below hb13
    have hbV : Below W.heap.size W w12 := hbX.trans (hb13.mono hbX.size)
    clear hS10 hAx hBx hb11 hr10 hb12 hbX hbY hb13
    obtain ⟨i5, hi5⟩ : ∃ i5, i5 = (stopI wd (rowI C xs x.val)).1 := ⟨_, rfl⟩
    obtain ⟨s5, hs5⟩ : ∃ s5, s5 = (stopI wd (rowI C xs x.val)).2 := ⟨_, rfl⟩
    rw [← hs5, ← hi5]
    have HS5 := Lib.hid hs5
    clear hs5 hi5
    have a0 := hA12.cell
    have a1 := hA12.free
    have b0 := hB12.cell
    have b1 := hB12.free
    by_cases hz : s5 = 0
    · have z0 : (s5 != 0) = false := by simp [hz]
      have HZ5 := Lib.hid hz
      clear hz a0 a1 b0 b1
      gi_wp2_with fail
      rw [roundsIn_succ]
      gi_wp2_with fail
      obtain ⟨w13, hw13, hM13, hb14, hs14⟩ := boxM w12 1 C2 wd (.slice a10 C2 c10)
      rw [← hw13]
      clear hw13 hs14 hM13
      have hr13 := own_below hr12 hb14 (Nat.le_refl _)
      refine ⟨trivial, ?_⟩
      refine (CallsIn.inRound l (callsIn_wide.2 (finite_any 1 C2 wd _ (rowI C2 ys x.val) w13 (rowI_read hr13 (by rw [HL2.out]; exact hx2)) (by rw [rowI_length C2 ys x.val (by rw [HL2.out]; exact hx2)]; omega) (fun z hz => okB_bounds (HO2.out z (rowI_mem hz)))))).mono ?_
      rintro e w14 ⟨rfl, hb15⟩
      rw [finI_row HE2.out x.isLt]
      have hA14 := (hA12.below hb14).below hb15
      have hB14 := (hB12.below hb14).below hb15
      have hbU : Below W.heap.size W w14 := (hbV.trans (hb14.mono hbV.size)).trans (hb15.mono (Nat.le_trans hbV.size hb14.size))
      clear hr12 hA12 hB12 hbV hb14 hr13 hb15
      obtain ⟨i7, hi7⟩ : ∃ i7, i7 = (stopI wd (rowI C2 ys x.val)).1 := ⟨_, rfl⟩
      obtain ⟨s7, hs7⟩ : ∃ s7, s7 = (stopI wd (rowI C2 ys x.val)).2 := ⟨_, rfl⟩
      rw [← hs7, ← hi7]
      have HF : Hid (rowE wd C xs C2 ys x.val = s7) := by
        show _ = _
        unfold rowE
        rw [← HS5.out, HZ5.out, if_neg (by simp), hs7]
      clear hs7 hi7
      have a0 := hA14.cell
      have a1 := hA14.free
      have b0 := hB14.cell
      have b1 := hB14.free
      by_cases hz7 : s7 = 0
      · have z7 : (s7 != 0) = false := by simp [hz7]
        have HZ := Lib.hid hz7
        clear hz7
        gi_wp2_with fail
        rw [roundsIn_succ]
        gi_wp2
        refine ⟨KeepsOthers.of_grownBy (grownBy_of_below hbU none) (fun _ _ h => by cases h), hbU.mono hbW.size, ?_, hbW.trans (hbU.mono hbW.size)⟩
        intro y hy
        rcases List.mem_append.1 hy with h | h
        · exact HI.out y h
        · have : y = x := by simpa using h
          subst this
          rw [HF.out]
          exact HZ.out
      · have z7 : (s7 != 0) = true := by simp [hz7]
        have HZ := Lib.hid hz7
        clear hz7
        gi_wp2
        have g1 := grownBy_setCell w14 (w.heap.size + 1) 0 (.int .i64 (x.val : Nat))
        have g2 := grownBy_setCell (w14.setCell ⟨w.heap.size + 1, 0, none⟩ (.int .i64 (x.val : Nat))) (w.heap.size + 1 + 1) 0 (.int .i64 s7)
        have hbz := (hbw.trans (hbW.mono hbw.size)).trans (hbU.mono (Nat.le_trans hbw.size hbW.size))
        refine ⟨((KeepsOthers.of_grownBy (grownBy_of_below hbU none) (fun _ _ h => by cases h)).trans (KeepsOthers.setCell _ _ _)).trans (KeepsOthers.setCell _ _ _), ⟨rfl, pre, x, rfl, HI.out, by rw [HF.out]; exact HZ.out, (hA14.set _).grown g2 (by simp), by rw [HF.out]; exact (hB14.grown g1 (by simp)).set _⟩, ?_⟩
        exact (hbz.grown g1 hbz.size (fun r e => by cases e; omega)).grown g2 (by simpa [World.setCell] using hbz.size) (fun r e => by cases e; omega)
    · have z0 : (s5 != 0) = true := by simp [hz]
      have HF : Hid (rowE wd C xs C2 ys x.val = s5) := by
        show _ = _
        unfold rowE
        rw [← HS5.out, if_pos hz]
      have HZ := Lib.hid hz
      clear hz
      gi_wp2
      have g1 := grownBy_setCell w12 (w.heap.size + 1) 0 (.int .i64 (x.val : Nat))
      have g2 := grownBy_setCell (w12.setCell ⟨w.heap.size + 1, 0, none⟩ (.int .i64 (x.val : Nat))) (w.heap.size + 1 + 1) 0 (.int .i64 s5)
      have hbz := (hbw.trans (hbW.mono hbw.size)).trans (hbV.mono (Nat.le_trans hbw.size hbW.size))
      refine ⟨((KeepsOthers.of_grownBy (grownBy_of_below hbV none) (fun _ _ h => by cases h)).trans (KeepsOthers.setCell _ _ _)).trans (KeepsOthers.setCell _ _ _), ⟨rfl, pre, x, rfl, HI.out, by rw [HF.out]; exact HZ.out, (hA12.set _).grown g2 (by simp), by rw [HF.out]; exact (hB12.grown g1 (by simp)).set _⟩, ?_⟩
      exact (hbz.grown g1 hbz.size (fun r e => by cases e; omega)).grown g2 (by simpa [World.setCell] using hbz.size) (fun r e => by cases e; omega)
  case done =>
    rintro D zs W hD rfl ⟨HI, hbW⟩ hK
    have hAW := hAg.below hbW
    have hBW := hBg.below hbW
    have a0 := hAW.cell
    have a1 := hAW.free
    have b0 := hBW.cell
    have b1 := hBW.free
    gi_wp2
    have hst : rowsFrom (rowE wd C xs C2 ys) 0 R = (0, 0) := rowsFrom_none _ R 0 fun q hq => by
      rw [Nat.zero_add]
      exact HI.out ⟨q, hq⟩ (List.mem_finRange _)
    rw [hst]
    exact dcheck_end (hbw.trans (hbW.mono hbw.size)) (by have := HS5.out; have := HS8.out; omega) hAW hBW hK rfl rfl
  case stop =>
    rintro D cd pre W hD ⟨k, hk, rfl⟩ ⟨HI, hbW⟩ hK
    obtain ⟨rfl, pre0, y, h1, h2, h3, h6, h7⟩ := HI.out
    have hst : rowsFrom (rowE wd C xs C2 ys) 0 R = (((y.val : Nat) : Int), rowE wd C xs C2 ys y.val) := by
      have hlen := congrArg List.length h1
      rw [List.length_take, List.length_finRange, List.length_append, Nat.min_eq_left hk] at hlen
      have hk1 : pre0.length + 1 = k := by simpa using hlen.symm
      have hk2 : pre0.length < R := by omega
      rw [← hk1, take_finRange R pre0.length hk2] at h1
      have h8 := List.append_inj' h1 rfl
      have hy : y.val = pre0.length := by
        have := h8.2
        simp at this
        rw [← this]
      have := rowsFrom_first (rowE wd C xs C2 ys) R 0 y.val y.isLt (fun q hq => by
        rw [Nat.zero_add]
        have hm : (⟨q, by omega⟩ : Fin R) ∈ pre0 := by
          have hin : (⟨q, by omega⟩ : Fin R) ∈ List.take pre0.length (List.finRange R) := by
            rw [List.mem_take_iff_getElem]
            exact ⟨q, by simp; omega, by simp⟩
          rw [h8.1] at hin
          exact hin
        exact h2 _ hm) (by rw [Nat.zero_add]; exact h3)
      rw [Nat.zero_add] at this
      exact this
    have HST := Lib.hid hst
    clear hst h1 h2 h3
    gi_wp2
    rw [HST.out]
    exact dcheck_leave hbW h6 h7 hK (by have := HS5.out; have := HS8.out; omega) rfl rfl

theorem dcheck_any (r c wd : Int) (v : Value) (xs : List Int) (r2 c2 wd2 : Int) (v2 : Value) (ys : List Int) (w : World) (hv : ReadI w v xs) (hv2 : ReadI w v2 ys) (hx : xs.length ≤ 100000000) (hy : ys.length ≤ 100000000)
    (h64 : ∀ x, x ∈ xs → -9223372036854775808 ≤ x ∧ x ≤ 9223372036854775807) (h642 : ∀ x, x ∈ ys → -9223372036854775808 ≤ x ∧ x ≤ 9223372036854775807) :
    Calls Try.prog 19 #[setV r c wd v r2 c2 wd2 v2] w fun e w' => e = .returned (.tuple #[.int .i64 (dchkI r c wd xs r2 c2 wd2 ys).1, .int .i64 (dchkI r c wd xs r2 c2 wd2 ys).2]) ∧ Below w.heap.size w w' := by
  refine dchk_cases ?_ ?_ ?_ ?_ ?_
  · intro h1
    exact dcheck_x r c wd v xs r2 c2 wd2 v2 w hv hx h1
  · intro h1 h2
    exact dcheck_y r c wd v xs r2 c2 wd2 v2 ys w hv hx h1 hv2 hy h2
  · intro h1 h2 h3
    exact dcheck_wr r c wd v xs r2 c2 wd2 v2 ys w hv hx h1 hv2 hy h2 3 (.inl ⟨by simp [h3], rfl⟩)
  · intro h1 h2 h3 h4
    exact dcheck_wr r c wd v xs r2 c2 wd2 v2 ys w hv hx h1 hv2 hy h2 4 (.inr ⟨by simp [h3], by simp [h4], rfl⟩)
  · intro R C C2 e1 e2 e3 e4 e5 h1 h2 hR0 hC0 hC20 hR hC hC2 hRC hRC2 hl hl2 hw hf hf2
    rcases hv with ⟨_, rfl⟩ | ⟨b, off, cp, rfl, hcp, hcell⟩
    · exfalso
      have : 1 ≤ R * C := Nat.mul_pos hR0 hC0
      simp at hl
      omega
    rcases hv2 with ⟨_, rfl⟩ | ⟨b2, off2, cp2, rfl, hcp2, hcell2⟩
    · exfalso
      have : 1 ≤ R * C2 := Nat.mul_pos hR0 hC20
      simp at hl2
      omega
    have := dcheck_in R C C2 wd b off cp xs b2 off2 cp2 ys w hC0 hC20 hR hC hC2 hRC hRC2 hl hl2 h1 h2 hcp hcell (okB_of hw hf h64) hcp2 hcell2 (okB_of hw hf2 h642)
    rw [← hl, ← hl2] at this
    exact this
end Go.Proofs.Ytdddbljkhhbdlaa
