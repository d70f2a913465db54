/-
optim.Step at the rule whose numbers are all 0, at whole numbers.
-/
import Derived.Test.YtdddbljkhhbdlaaWholeStepA
import Derived.Test.YtdddbljkhhbdlaaWholeStepB
import Derived.Test.YtdddbljkhhbdlaaWholeCls
namespace Go.Proofs.Ytdddbljkhhbdlaa
open Go.RowKit

theorem readRange (n b o c : Nat) (f : Nat → Int) (w : World) (hc : n ≤ c) (h : ∀ k, k < n → w.cell? ⟨b, o + k, none⟩ = some (.int .i64 (f k))) : ReadI w (.slice (some ⟨b, o, none⟩) n c) (rangeI n f) := by
  refine .inr ⟨b, o, c, by rw [rangeI_length], by rw [rangeI_length]; exact hc, fun j hj => ?_⟩
  rw [rangeI_length] at hj
  rw [rangeI_at n f j hj]
  exact h j hj
theorem rangeI_all (n : Nat) (f : Nat → Int) (P : Int → Prop) (h : ∀ k, k < n → P (f k)) : ∀ x, x ∈ rangeI n f → P x := by
  intro x hx
  simp only [rangeI, List.mem_map, List.mem_range] at hx
  obtain ⟨k, hk, rfl⟩ := hx
  exact h k hk
theorem rate_wide (s : Nat) (h : s ≤ 8) : floatToFloatBits .f32 (rateW .f32 s) .f64 = some (rateW .f64 s) := by
  rcases nine h with rfl | rfl | rfl | rfl | rfl | rfl | rfl | rfl | rfl <;> decide +kernel
set_option maxRecDepth 100000 in
set_option maxHeartbeats 1000000 in
theorem rate_inf32 (s : Nat) (h : s ≤ 8) (w : World) : Calls Try.prog 95 #[.float .f32 (rateW .f32 s)] w fun e w' => e = .returned (.bool false) ∧ w' = w := by
  have hi := fun w => isInf_any (rateW .f64 s) (by rcases nine h with rfl | rfl | rfl | rfl | rfl | rfl | rfl | rfl | rfl <;> decide +kernel) (by rcases nine h with rfl | rfl | rfl | rfl | rfl | rfl | rfl | rfl | rfl <;> decide +kernel) w
  have hcv := rate_wide s h
  generalize rateW .f64 s = x at hi hcv
  generalize rateW .f32 s = y at hcv ⊢
  have hc : ∀ w, (convert 128 131 (.float .f32 y)).run Try.prog w = .ok (.float .f64 x) w := fun w => run_convert_float_float w 128 131 .f32 .f64 y x (by rw [Try.underlying128]; rfl) Try.underlying131 hcv
  go_enter Try.func95, Try.ntmps95
  go_wp2_with (first | rw [hc])
  refine (hi _).mono ?_
  rintro e w' ⟨rfl, rfl⟩
  go_wp2_with fail
  go_ret
  exact ⟨rfl, rfl⟩

set_option maxRecDepth 100000 in
set_option maxHeartbeats 4000000 in
theorem top32 (n : Nat) (hn1 : 1 ≤ n) (hn : n ≤ 60) (bw ow cw bg og cg : Nat) (PX PG PD : Nat → Int) (s : Nat) (hs : s ≤ 8) (w : World)
    (hE : ∀ k, k < n → ∃ fx fg fd, ElemOk32 (rateW .f32 s) (PX k) (PG k) (PD k) fx fg fd)
    (hcW : ∀ k, k < n → w.cell? ⟨bw, ow + k, none⟩ = some (.int .i64 (PX k))) (hcG : ∀ k, k < n → w.cell? ⟨bg, og + k, none⟩ = some (.int .i64 (PG k))) (hcw : n ≤ cw) (hcg : n ≤ cg)
    (hfX : finI 1 n 32 (rangeI n PX) = (0, 0)) (hfG : finI 1 n 32 (rangeI n PG) = (0, 0)) (h64X : ∀ k, k < n → -9223372036854775808 ≤ PX k ∧ PX k ≤ 9223372036854775807) (h64G : ∀ k, k < n → -9223372036854775808 ≤ PG k ∧ PG k ≤ 9223372036854775807) :
    Calls Try.prog 32 #[rule0, .int .i64 (rateI s), matV 1 n 32 (.slice (some ⟨bw, ow, none⟩) n cw), matV 1 n 32 (.slice (some ⟨bg, og, none⟩) n cg), .slice none 0 0] w fun e w' =>
      ∃ gB, e = .returned (.tuple #[matV 1 n 32 (.slice (some ⟨gB, 0, none⟩) n n), .slice none 0 0, .int .i64 0, .int .i64 0]) ∧ w.heap.size ≤ gB ∧ TBox w' gB 3 (outC n n PD) ∧ Below w.heap.size w w' := by
  have hl : ∀ f : Nat → Int, (rangeI n f).length ≤ 100000000 := fun f => by rw [rangeI_length]; omega
  have HFW : Hid (∀ w1, Below w.heap.size w w1 → Calls Try.prog 33 #[matV 1 n 32 (.slice (some ⟨bw, ow, none⟩) n cw)] w1 fun e w' => e = .returned (.tuple #[.int .i64 0, .int .i64 0]) ∧ Below w1.heap.size w1 w') :=
    Lib.hid (fun w1 hb => finite_ok 1 n 32 _ (rangeI n PX) w1 ((readRange n bw ow cw PX w hcw hcW).below hb) (hl PX) (rangeI_all n PX _ h64X) hfX)
  have HFG : Hid (∀ w1, Below w.heap.size w w1 → Calls Try.prog 33 #[matV 1 n 32 (.slice (some ⟨bg, og, none⟩) n cg)] w1 fun e w' => e = .returned (.tuple #[.int .i64 0, .int .i64 0]) ∧ Below w1.heap.size w1 w') :=
    Lib.hid (fun w1 hb => finite_ok 1 n 32 _ (rangeI n PG) w1 ((readRange n bg og cg PG w hcg hcG).below hb) (hl PG) (rangeI_all n PG _ h64G) hfG)
  have HK : Hid (∀ w1, Below w.heap.size w w1 → Calls Try.prog 97 #[rule0, matV 1 n 32 (.slice (some ⟨bw, ow, none⟩) n cw), .slice none 0 0] w1 fun e w' => e = .returned (.bool true) ∧ Below w1.heap.size w1 w') :=
    Lib.hid (fun w1 hb => kept_any 1 n 32 _ (rangeI n PX) w1 (by decide) ((readRange n bw ow cw PX w hcw hcW).below hb) (hl PX) (rangeI_all n PX _ h64X) hfX)
  have HS : Hid (∀ w1, Below w.heap.size w w1 → Calls Try.prog 98 #[rule0, .int .i64 (rateI s), matV 1 n 32 (.slice (some ⟨bw, ow, none⟩) n cw), matV 1 n 32 (.slice (some ⟨bg, og, none⟩) n cg), .slice none 0 0] w1 fun e w' =>
      ∃ gB, e = .returned (.tuple #[matV 1 n 32 (.slice (some ⟨gB, 0, none⟩) n n), .slice none 0 0, .int .i64 0, .int .i64 0]) ∧ w1.heap.size ≤ gB ∧ TBox w' gB 3 (outC n n PD) ∧ Below w1.heap.size w1 w') :=
    Lib.hid (fun w1 hb => step32 n hn1 hn bw ow cw bg og cg PX PG PD (rateI s) _ w1 (fun w => of32 (rateI s) _ (rate_narrow32 s hs) w) hE
      (fun k hk => (hb.cell (p := ⟨bw, ow + k, none⟩) (by exact World.block_lt_of_cell? _ _ (hcW k hk))).trans (hcW k hk)) (fun k hk => (hb.cell (p := ⟨bg, og + k, none⟩) (by exact World.block_lt_of_cell? _ _ (hcG k hk))).trans (hcG k hk)) hcw hcg)
  have hchk := fun w => chk32 w
  have hgood := fun w => rate_good s hs w
  have hnar := fun w => rate_narrow32 s hs w
  have hinf := fun w => rate_inf32 s hs w
  generalize rateW .f32 s = rr at hnar hinf
  clear hE hcW hcG hfX hfG h64X h64G hl
  have hwn : ((n : Int) != (n : Int)) = false := by simp
  generalize rateI s = rt at HS hgood hnar ⊢
  unfold rule0 at HK HS hchk ⊢
  unfold matV at HFW HFG HK HS ⊢
  go_enter Try.func32, Try.ntmps32
  go_wp2_with fail
  obtain ⟨w1, e1, hR, hb1, hs1⟩ := tbox w 69 #[.int .i64 0, .int .i64 0, .int .i64 0, .int .i64 0, .int .i64 0, .int .i64 0, .int .i64 0]
  rw [← e1]
  obtain ⟨w2, e2, hW, hb2, hs2⟩ := boxM w1 1 n 32 (.slice (some ⟨bw, ow, none⟩) n cw)
  rw [← e2]
  obtain ⟨w3, e3, hG, hb3, hs3⟩ := boxM w2 1 n 32 (.slice (some ⟨bg, og, none⟩) n cg)
  rw [← e3]
  obtain ⟨w4, e4, hA, hb4, hs4⟩ := boxM w3 0 0 0 (.slice none 0 0)
  rw [← e4]
  rw [hs3, hs2, hs1] at hA
  rw [hs2, hs1] at hG
  rw [hs1] at hW
  replace hR := ((hR.below hb2).below hb3).below hb4
  replace hW := (hW.below hb3).below hb4
  replace hG := hG.below hb4
  have hb := ((hb1.trans (hb2.mono hb1.size)).trans (hb3.mono (by omega))).trans (hb4.mono (by omega))
  have hsz : w.heap.size + 4 ≤ w4.heap.size := by omega
  clear e1 e2 e3 e4 hs1 hs2 hs3 hs4 hb1 hb2 hb3 hb4
  have r0 := hR.cell 0 (.int .i64 0) rfl
  have r1 := hR.cell 1 (.int .i64 0) rfl
  have r2 := hR.cell 2 (.int .i64 0) rfl
  have r3 := hR.cell 3 (.int .i64 0) rfl
  have r4 := hR.cell 4 (.int .i64 0) rfl
  have r5 := hR.cell 5 (.int .i64 0) rfl
  have r6 := hR.cell 6 (.int .i64 0) rfl
  have m0 := hW.c0
  have m1 := hW.c1
  have m2 := hW.c2
  have m3 := hW.c3
  have g0 := hG.c0
  have g1 := hG.c1
  have g2 := hG.c2
  have g3 := hG.c3
  refine (HFW.out _ hb).mono ?_
  rintro e w5 ⟨rfl, hbn⟩
  replace hR := hR.below hbn
  replace hW := hW.below hbn
  replace hG := hG.below hbn
  replace hA := hA.below hbn
  replace hb := hb.trans (hbn.mono hb.size)
  clear hbn r0 r1 r2 r3 r4 r5 r6 m0 m1 m2 m3 g0 g1 g2 g3
  have r0 := hR.cell 0 (.int .i64 0) rfl
  have r1 := hR.cell 1 (.int .i64 0) rfl
  have r2 := hR.cell 2 (.int .i64 0) rfl
  have r3 := hR.cell 3 (.int .i64 0) rfl
  have r4 := hR.cell 4 (.int .i64 0) rfl
  have r5 := hR.cell 5 (.int .i64 0) rfl
  have r6 := hR.cell 6 (.int .i64 0) rfl
  have m0 := hW.c0
  have m1 := hW.c1
  have m2 := hW.c2
  have m3 := hW.c3
  have g0 := hG.c0
  have g1 := hG.c1
  have g2 := hG.c2
  have g3 := hG.c3
  go_wp2_with fail
  refine (hchk _).mono ?_
  rintro e w6 ⟨rfl, hbn⟩
  replace hR := hR.below hbn
  replace hW := hW.below hbn
  replace hG := hG.below hbn
  replace hA := hA.below hbn
  replace hb := hb.trans (hbn.mono hb.size)
  clear hbn r0 r1 r2 r3 r4 r5 r6 m0 m1 m2 m3 g0 g1 g2 g3
  have r0 := hR.cell 0 (.int .i64 0) rfl
  have r1 := hR.cell 1 (.int .i64 0) rfl
  have r2 := hR.cell 2 (.int .i64 0) rfl
  have r3 := hR.cell 3 (.int .i64 0) rfl
  have r4 := hR.cell 4 (.int .i64 0) rfl
  have r5 := hR.cell 5 (.int .i64 0) rfl
  have r6 := hR.cell 6 (.int .i64 0) rfl
  have m0 := hW.c0
  have m1 := hW.c1
  have m2 := hW.c2
  have m3 := hW.c3
  have g0 := hG.c0
  have g1 := hG.c1
  have g2 := hG.c2
  have g3 := hG.c3
  go_wp2_with fail
  refine (hgood _).mono ?_
  rintro e wq ⟨rfl, rfl⟩
  go_wp2_with fail
  refine (hnar _).mono ?_
  rintro e wq ⟨rfl, rfl⟩
  go_wp2_with fail
  refine (hinf _).mono ?_
  rintro e wq ⟨rfl, rfl⟩
  go_wp2_with fail
  refine (HFG.out _ hb).mono ?_
  rintro e w7 ⟨rfl, hbn⟩
  replace hR := hR.below hbn
  replace hW := hW.below hbn
  replace hG := hG.below hbn
  replace hA := hA.below hbn
  replace hb := hb.trans (hbn.mono hb.size)
  clear hbn r0 r1 r2 r3 r4 r5 r6 m0 m1 m2 m3 g0 g1 g2 g3
  have r0 := hR.cell 0 (.int .i64 0) rfl
  have r1 := hR.cell 1 (.int .i64 0) rfl
  have r2 := hR.cell 2 (.int .i64 0) rfl
  have r3 := hR.cell 3 (.int .i64 0) rfl
  have r4 := hR.cell 4 (.int .i64 0) rfl
  have r5 := hR.cell 5 (.int .i64 0) rfl
  have r6 := hR.cell 6 (.int .i64 0) rfl
  have m0 := hW.c0
  have m1 := hW.c1
  have m2 := hW.c2
  have m3 := hW.c3
  have g0 := hG.c0
  have g1 := hG.c1
  have g2 := hG.c2
  have g3 := hG.c3
  go_wp2_with fail
  refine (HK.out _ hb).mono ?_
  rintro e w8 ⟨rfl, hbn⟩
  replace hR := hR.below hbn
  replace hW := hW.below hbn
  replace hG := hG.below hbn
  replace hA := hA.below hbn
  replace hb := hb.trans (hbn.mono hb.size)
  clear hbn r0 r1 r2 r3 r4 r5 r6 m0 m1 m2 m3 g0 g1 g2 g3
  have r0 := hR.cell 0 (.int .i64 0) rfl
  have r1 := hR.cell 1 (.int .i64 0) rfl
  have r2 := hR.cell 2 (.int .i64 0) rfl
  have r3 := hR.cell 3 (.int .i64 0) rfl
  have r4 := hR.cell 4 (.int .i64 0) rfl
  have r5 := hR.cell 5 (.int .i64 0) rfl
  have r6 := hR.cell 6 (.int .i64 0) rfl
  have m0 := hW.c0
  have m1 := hW.c1
  have m2 := hW.c2
  have m3 := hW.c3
  have g0 := hG.c0
  have g1 := hG.c1
  have g2 := hG.c2
  have g3 := hG.c3
  go_wp2_with fail
  refine (HS.out _ hb).mono ?_
  rintro e w9 ⟨gB, rfl, hgB, hB, hbn⟩
  have hbz := hA.lt
  replace hA := hA.below hbn
  have hbs := hb.size
  replace hb := hb.trans (hbn.mono hb.size)
  clear hbn r0 r1 r2 r3 r4 r5 r6 m0 m1 m2 m3 g0 g1 g2 g3
  have f0 := hA.free 0
  have f1 := hA.free 1
  have f2 := hA.free 2
  have f3 := hA.free 3
  have a0 := hA.c0
  have a1 := hA.c1
  have a2 := hA.c2
  have a3 := hA.c3
  go_wp2_with fail
  obtain ⟨hA4, gr4⟩ := TBox.put4 (TBox.mk hA.block) (.int .i64 1) (.int .i64 n) (.int .i64 32) (.slice (some ⟨gB, 0, none⟩) n n)
  have z0 := hA4.cell 0 (.int .i64 1) rfl
  have z1 := hA4.cell 1 (.int .i64 n) rfl
  have z2 := hA4.cell 2 (.int .i64 32) rfl
  have z3 := hA4.cell 3 (.slice (some ⟨gB, 0, none⟩) n n) rfl
  have hB4 := hB.grown gr4 (by simp; omega)
  have hb4 := hb.grown gr4 hb.size (fun r e => by cases e; omega)
  refine bodyPost_ret (by simp [results, Try.results32, go_sem, z0, z1, z2, z3]; try rfl) rfl ?_
  exact ⟨_, rfl, by omega, hB4, hb4⟩

set_option maxRecDepth 100000 in
set_option maxHeartbeats 4000000 in
theorem top64 (n : Nat) (hn1 : 1 ≤ n) (hn : n ≤ 60) (bw ow cw bg og cg : Nat) (PX PG PD : Nat → Int) (s : Nat) (hs : s ≤ 8) (w : World)
    (hE : ∀ k, k < n → ∃ fx fg fd, ElemOk64 (rateW .f64 s) (PX k) (PG k) (PD k) fx fg fd)
    (hcW : ∀ k, k < n → w.cell? ⟨bw, ow + k, none⟩ = some (.int .i64 (PX k))) (hcG : ∀ k, k < n → w.cell? ⟨bg, og + k, none⟩ = some (.int .i64 (PG k))) (hcw : n ≤ cw) (hcg : n ≤ cg)
    (hfX : finI 1 n 64 (rangeI n PX) = (0, 0)) (hfG : finI 1 n 64 (rangeI n PG) = (0, 0)) (h64X : ∀ k, k < n → -9223372036854775808 ≤ PX k ∧ PX k ≤ 9223372036854775807) (h64G : ∀ k, k < n → -9223372036854775808 ≤ PG k ∧ PG k ≤ 9223372036854775807) :
    Calls Try.prog 32 #[rule0, .int .i64 (rateI s), matV 1 n 64 (.slice (some ⟨bw, ow, none⟩) n cw), matV 1 n 64 (.slice (some ⟨bg, og, none⟩) n cg), .slice none 0 0] w fun e w' =>
      ∃ gB, e = .returned (.tuple #[matV 1 n 64 (.slice (some ⟨gB, 0, none⟩) n n), .slice none 0 0, .int .i64 0, .int .i64 0]) ∧ w.heap.size ≤ gB ∧ TBox w' gB 3 (outC n n PD) ∧ Below w.heap.size w w' := by
  have hl : ∀ f : Nat → Int, (rangeI n f).length ≤ 100000000 := fun f => by rw [rangeI_length]; omega
  have HFW : Hid (∀ w1, Below w.heap.size w w1 → Calls Try.prog 33 #[matV 1 n 64 (.slice (some ⟨bw, ow, none⟩) n cw)] w1 fun e w' => e = .returned (.tuple #[.int .i64 0, .int .i64 0]) ∧ Below w1.heap.size w1 w') :=
    Lib.hid (fun w1 hb => finite_ok 1 n 64 _ (rangeI n PX) w1 ((readRange n bw ow cw PX w hcw hcW).below hb) (hl PX) (rangeI_all n PX _ h64X) hfX)
  have HFG : Hid (∀ w1, Below w.heap.size w w1 → Calls Try.prog 33 #[matV 1 n 64 (.slice (some ⟨bg, og, none⟩) n cg)] w1 fun e w' => e = .returned (.tuple #[.int .i64 0, .int .i64 0]) ∧ Below w1.heap.size w1 w') :=
    Lib.hid (fun w1 hb => finite_ok 1 n 64 _ (rangeI n PG) w1 ((readRange n bg og cg PG w hcg hcG).below hb) (hl PG) (rangeI_all n PG _ h64G) hfG)
  have HK : Hid (∀ w1, Below w.heap.size w w1 → Calls Try.prog 97 #[rule0, matV 1 n 64 (.slice (some ⟨bw, ow, none⟩) n cw), .slice none 0 0] w1 fun e w' => e = .returned (.bool true) ∧ Below w1.heap.size w1 w') :=
    Lib.hid (fun w1 hb => kept_any 1 n 64 _ (rangeI n PX) w1 (by decide) ((readRange n bw ow cw PX w hcw hcW).below hb) (hl PX) (rangeI_all n PX _ h64X) hfX)
  have HS : Hid (∀ w1, Below w.heap.size w w1 → Calls Try.prog 99 #[rule0, .int .i64 (rateI s), matV 1 n 64 (.slice (some ⟨bw, ow, none⟩) n cw), matV 1 n 64 (.slice (some ⟨bg, og, none⟩) n cg), .slice none 0 0] w1 fun e w' =>
      ∃ gB, e = .returned (.tuple #[matV 1 n 64 (.slice (some ⟨gB, 0, none⟩) n n), .slice none 0 0, .int .i64 0, .int .i64 0]) ∧ w1.heap.size ≤ gB ∧ TBox w' gB 3 (outC n n PD) ∧ Below w1.heap.size w1 w') :=
    Lib.hid (fun w1 hb => step64 n hn1 hn bw ow cw bg og cg PX PG PD (rateI s) _ w1 (fun w => of64 (rateI s) _ (rate_narrow64 s hs) w) hE
      (fun k hk => (hb.cell (p := ⟨bw, ow + k, none⟩) (by exact World.block_lt_of_cell? _ _ (hcW k hk))).trans (hcW k hk)) (fun k hk => (hb.cell (p := ⟨bg, og + k, none⟩) (by exact World.block_lt_of_cell? _ _ (hcG k hk))).trans (hcG k hk)) hcw hcg)
  have hchk := fun w => chk64 w
  have hgood := fun w => rate_good s hs w
  clear hE hcW hcG hfX hfG h64X h64G hl
  have hwn : ((n : Int) != (n : Int)) = false := by simp
  generalize rateI s = rt at HS hgood ⊢
  unfold rule0 at HK HS hchk ⊢
  unfold matV at HFW HFG HK HS ⊢
  go_enter Try.func32, Try.ntmps32
  go_wp2_with fail
  obtain ⟨w1, e1, hR, hb1, hs1⟩ := tbox w 69 #[.int .i64 0, .int .i64 0, .int .i64 0, .int .i64 0, .int .i64 0, .int .i64 0, .int .i64 0]
  rw [← e1]
  obtain ⟨w2, e2, hW, hb2, hs2⟩ := boxM w1 1 n 64 (.slice (some ⟨bw, ow, none⟩) n cw)
  rw [← e2]
  obtain ⟨w3, e3, hG, hb3, hs3⟩ := boxM w2 1 n 64 (.slice (some ⟨bg, og, none⟩) n cg)
  rw [← e3]
  obtain ⟨w4, e4, hA, hb4, hs4⟩ := boxM w3 0 0 0 (.slice none 0 0)
  rw [← e4]
  rw [hs3, hs2, hs1] at hA
  rw [hs2, hs1] at hG
  rw [hs1] at hW
  replace hR := ((hR.below hb2).below hb3).below hb4
  replace hW := (hW.below hb3).below hb4
  replace hG := hG.below hb4
  have hb := ((hb1.trans (hb2.mono hb1.size)).trans (hb3.mono (by omega))).trans (hb4.mono (by omega))
  have hsz : w.heap.size + 4 ≤ w4.heap.size := by omega
  clear e1 e2 e3 e4 hs1 hs2 hs3 hs4 hb1 hb2 hb3 hb4
  have r0 := hR.cell 0 (.int .i64 0) rfl
  have r1 := hR.cell 1 (.int .i64 0) rfl
  have r2 := hR.cell 2 (.int .i64 0) rfl
  have r3 := hR.cell 3 (.int .i64 0) rfl
  have r4 := hR.cell 4 (.int .i64 0) rfl
  have r5 := hR.cell 5 (.int .i64 0) rfl
  have r6 := hR.cell 6 (.int .i64 0) rfl
  have m0 := hW.c0
  have m1 := hW.c1
  have m2 := hW.c2
  have m3 := hW.c3
  have g0 := hG.c0
  have g1 := hG.c1
  have g2 := hG.c2
  have g3 := hG.c3
  refine (HFW.out _ hb).mono ?_
  rintro e w5 ⟨rfl, hbn⟩
  replace hR := hR.below hbn
  replace hW := hW.below hbn
  replace hG := hG.below hbn
  replace hA := hA.below hbn
  replace hb := hb.trans (hbn.mono hb.size)
  clear hbn r0 r1 r2 r3 r4 r5 r6 m0 m1 m2 m3 g0 g1 g2 g3
  have r0 := hR.cell 0 (.int .i64 0) rfl
  have r1 := hR.cell 1 (.int .i64 0) rfl
  have r2 := hR.cell 2 (.int .i64 0) rfl
  have r3 := hR.cell 3 (.int .i64 0) rfl
  have r4 := hR.cell 4 (.int .i64 0) rfl
  have r5 := hR.cell 5 (.int .i64 0) rfl
  have r6 := hR.cell 6 (.int .i64 0) rfl
  have m0 := hW.c0
  have m1 := hW.c1
  have m2 := hW.c2
  have m3 := hW.c3
  have g0 := hG.c0
  have g1 := hG.c1
  have g2 := hG.c2
  have g3 := hG.c3
  go_wp2_with fail
  refine (hchk _).mono ?_
  rintro e w6 ⟨rfl, hbn⟩
  replace hR := hR.below hbn
  replace hW := hW.below hbn
  replace hG := hG.below hbn
  replace hA := hA.below hbn
  replace hb := hb.trans (hbn.mono hb.size)
  clear hbn r0 r1 r2 r3 r4 r5 r6 m0 m1 m2 m3 g0 g1 g2 g3
  have r0 := hR.cell 0 (.int .i64 0) rfl
  have r1 := hR.cell 1 (.int .i64 0) rfl
  have r2 := hR.cell 2 (.int .i64 0) rfl
  have r3 := hR.cell 3 (.int .i64 0) rfl
  have r4 := hR.cell 4 (.int .i64 0) rfl
  have r5 := hR.cell 5 (.int .i64 0) rfl
  have r6 := hR.cell 6 (.int .i64 0) rfl
  have m0 := hW.c0
  have m1 := hW.c1
  have m2 := hW.c2
  have m3 := hW.c3
  have g0 := hG.c0
  have g1 := hG.c1
  have g2 := hG.c2
  have g3 := hG.c3
  go_wp2_with fail
  refine (hgood _).mono ?_
  rintro e wq ⟨rfl, rfl⟩
  go_wp2_with fail
  refine (HFG.out _ hb).mono ?_
  rintro e w7 ⟨rfl, hbn⟩
  replace hR := hR.below hbn
  replace hW := hW.below hbn
  replace hG := hG.below hbn
  replace hA := hA.below hbn
  replace hb := hb.trans (hbn.mono hb.size)
  clear hbn r0 r1 r2 r3 r4 r5 r6 m0 m1 m2 m3 g0 g1 g2 g3
  have r0 := hR.cell 0 (.int .i64 0) rfl
  have r1 := hR.cell 1 (.int .i64 0) rfl
  have r2 := hR.cell 2 (.int .i64 0) rfl
  have r3 := hR.cell 3 (.int .i64 0) rfl
  have r4 := hR.cell 4 (.int .i64 0) rfl
  have r5 := hR.cell 5 (.int .i64 0) rfl
  have r6 := hR.cell 6 (.int .i64 0) rfl
  have m0 := hW.c0
  have m1 := hW.c1
  have m2 := hW.c2
  have m3 := hW.c3
  have g0 := hG.c0
  have g1 := hG.c1
  have g2 := hG.c2
  have g3 := hG.c3
  go_wp2_with fail
  refine (HK.out _ hb).mono ?_
  rintro e w8 ⟨rfl, hbn⟩
  replace hR := hR.below hbn
  replace hW := hW.below hbn
  replace hG := hG.below hbn
  replace hA := hA.below hbn
  replace hb := hb.trans (hbn.mono hb.size)
  clear hbn r0 r1 r2 r3 r4 r5 r6 m0 m1 m2 m3 g0 g1 g2 g3
  have r0 := hR.cell 0 (.int .i64 0) rfl
  have r1 := hR.cell 1 (.int .i64 0) rfl
  have r2 := hR.cell 2 (.int .i64 0) rfl
  have r3 := hR.cell 3 (.int .i64 0) rfl
  have r4 := hR.cell 4 (.int .i64 0) rfl
  have r5 := hR.cell 5 (.int .i64 0) rfl
  have r6 := hR.cell 6 (.int .i64 0) rfl
  have m0 := hW.c0
  have m1 := hW.c1
  have m2 := hW.c2
  have m3 := hW.c3
  have g0 := hG.c0
  have g1 := hG.c1
  have g2 := hG.c2
  have g3 := hG.c3
  go_wp2_with fail
  refine (HS.out _ hb).mono ?_
  rintro e w9 ⟨gB, rfl, hgB, hB, hbn⟩
  have hbz := hA.lt
  replace hA := hA.below hbn
  have hbs := hb.size
  replace hb := hb.trans (hbn.mono hb.size)
  clear hbn r0 r1 r2 r3 r4 r5 r6 m0 m1 m2 m3 g0 g1 g2 g3
  have f0 := hA.free 0
  have f1 := hA.free 1
  have f2 := hA.free 2
  have f3 := hA.free 3
  have a0 := hA.c0
  have a1 := hA.c1
  have a2 := hA.c2
  have a3 := hA.c3
  go_wp2_with fail
  obtain ⟨hA4, gr4⟩ := TBox.put4 (TBox.mk hA.block) (.int .i64 1) (.int .i64 n) (.int .i64 64) (.slice (some ⟨gB, 0, none⟩) n n)
  have z0 := hA4.cell 0 (.int .i64 1) rfl
  have z1 := hA4.cell 1 (.int .i64 n) rfl
  have z2 := hA4.cell 2 (.int .i64 64) rfl
  have z3 := hA4.cell 3 (.slice (some ⟨gB, 0, none⟩) n n) rfl
  have hB4 := hB.grown gr4 (by simp; omega)
  have hb4 := hb.grown gr4 hb.size (fun r e => by cases e; omega)
  refine bodyPost_ret (by simp [results, Try.results32, go_sem, z0, z1, z2, z3]; try rfl) rfl ?_
  exact ⟨_, rfl, by omega, hB4, hb4⟩
end Go.Proofs.Ytdddbljkhhbdlaa
