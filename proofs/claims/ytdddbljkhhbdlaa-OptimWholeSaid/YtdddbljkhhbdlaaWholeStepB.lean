/-
optim.step at the rule whose numbers are all 0, at whole numbers, of width 32.
-/
import Derived.Test.YtdddbljkhhbdlaaWholeMade
namespace Go.Proofs.Ytdddbljkhhbdlaa
open Go.RowKit
attribute [local go_sem] run_store_float

theorem order0_32 : FloatKind.f32.format.order 0 0 = some .eq := by decide +kernel
theorem rule_at32 (w : World) : (Instr.index 197 (.agg #[.func (.func 167) #[] #[], .func (.func 168) #[] #[], .func (.func 169) #[] #[], .func (.func 170) #[] #[], .func (.func 171) #[] #[], .func (.func 172) #[] #[]]) (.int .i64 0)).run Try.prog w = .ok (.func (.func 167) #[] #[]) w := by kernel_rfl

set_option maxRecDepth 100000 in
set_option maxHeartbeats 4000000 in
theorem step32 (n : Nat) (hn1 : 1 ≤ n) (hn : n ≤ 60) (bw ow cw bg og cg : Nat) (PX PG PD : Nat → Int) (rt : Int) (rr : Nat) (w : World)
    (ho : ∀ w, Calls Try.prog 141 #[rule0, .int .i64 rt] w fun e w' => e = .returned (.agg #[.float .f32 rr, .float .f32 0, .float .f32 0, .float .f32 0, .float .f32 0, .float .f32 0]) ∧ Below w.heap.size w w')
    (hE : ∀ k, k < n → ∃ fx fg fd, ElemOk32 rr (PX k) (PG k) (PD k) fx fg fd)
    (hcW : ∀ k, k < n → w.cell? ⟨bw, ow + k, none⟩ = some (.int .i64 (PX k))) (hcG : ∀ k, k < n → w.cell? ⟨bg, og + k, none⟩ = some (.int .i64 (PG k))) (hcw : n ≤ cw) (hcg : n ≤ cg) :
    Calls Try.prog 98 #[rule0, .int .i64 rt, matV 1 n 32 (.slice (some ⟨bw, ow, none⟩) n cw), matV 1 n 32 (.slice (some ⟨bg, og, none⟩) n cg), .slice none 0 0] w fun e w' =>
      ∃ gB, e = .returned (.tuple #[matV 1 n 32 (.slice (some ⟨gB, 0, none⟩) n n), .slice none 0 0, .int .i64 0, .int .i64 0]) ∧ w.heap.size ≤ gB ∧ TBox w' gB 3 (outC n n PD) ∧ Below w.heap.size w w' := by
  have HE := Lib.hid hE
  have HX := Lib.hid hcW
  have HG := Lib.hid hcG
  clear hE hcW hcG
  unfold rule0 matV at *
  go_enter Try.func98, Try.ntmps98
  go_wp2_with fail
  obtain ⟨w1, e1, hR, hb1, hs1⟩ := tbox w 69 #[.int .i64 0, .int .i64 0, .int .i64 0, .int .i64 0, .int .i64 0, .int .i64 0, .int .i64 0]
  rw [← e1]
  obtain ⟨w2, e2, hW, hb2, hs2⟩ := boxM w1 1 n 32 (.slice (some ⟨bw, ow, none⟩) n cw)
  rw [← e2]
  obtain ⟨w3, e3, hG, hb3, hs3⟩ := boxM w2 1 n 32 (.slice (some ⟨bg, og, none⟩) n cg)
  rw [← e3]
  obtain ⟨w4, e4, hA, hb4, hs4⟩ := boxM w3 0 0 0 (.slice none 0 0)
  rw [← e4]
  rw [hs3, hs2, hs1] at hA
  rw [hs2, hs1] at hG
  rw [hs1] at hW
  replace hR := ((hR.below hb2).below hb3).below hb4
  replace hW := (hW.below hb3).below hb4
  replace hG := hG.below hb4
  have hb := ((hb1.trans (hb2.mono hb1.size)).trans (hb3.mono (by omega))).trans (hb4.mono (by omega))
  have hsz : w.heap.size + 4 ≤ w4.heap.size := by omega
  clear e1 e2 e3 e4 hs1 hs2 hs3 hs4 hb1 hb2 hb3 hb4
  refine (ho _).mono ?_
  rintro e w5 ⟨rfl, hb5⟩
  replace hR := hR.below hb5
  replace hW := hW.below hb5
  replace hG := hG.below hb5
  replace hA := hA.below hb5
  have hz5 := hb5.size
  replace hb := hb.trans (hb5.mono hb.size)
  clear hb5 ho
  go_upto_region 2 with fail
  obtain ⟨w6, e6, hN, hb6, hs6⟩ := tbox w5 190 #[.float .f32 rr, .float .f32 0, .float .f32 0, .float .f32 0, .float .f32 0, .float .f32 0]
  rw [← e6]
  replace hR := hR.below hb6
  replace hW := hW.below hb6
  replace hG := hG.below hb6
  replace hA := hA.below hb6
  have hz6 : w5.heap.size < w6.heap.size := by omega
  replace hb := hb.trans (hb6.mono hb.size)
  clear e6 hs6 hb6
  go_cut [15] from 28 to 39 (fun s15 wx => MadeOut wx w6 n 32 PD s15)
  case first =>
    have hmk := made_run n PD hn
    have m0 := hW.c0
    have m1 := hW.c1
    have m2 := hW.c2
    have m3 := hW.c3
    clear hR hW hG hA hN hb
    go_region_held3 (fun w' => w'.cell? ⟨w.heap.size + 1, 0, none⟩ = some (.int .i64 1) ∧ w'.cell? ⟨w.heap.size + 1, 1, none⟩ = some (.int .i64 n) ∧ w'.cell? ⟨w.heap.size + 1, 2, none⟩ = some (.int .i64 32) ∧ w'.cell? ⟨w.heap.size + 1, 3, none⟩ = some (.slice (some ⟨bw, ow, none⟩) n cw)) (go_keep) (fail)
    all_goals (go_wp2_with fail; go_meet; first | exact madeOut_a _ _ 32 _ | exact madeOut_b _ _ 32 _)
  case rest =>

    obtain ⟨gO, gB, rfl, ho1, ho2, hOB, hO, hB, hb7⟩ := hcut
    replace hR := hR.below hb7
    replace hW := hW.below hb7
    replace hG := hG.below hb7
    replace hA := hA.below hb7
    replace hN := hN.below hb7
    have hz7 := hb7.size
    have hBl := hB.lt
    replace hb := hb.trans (hb7.mono hb.size)
    clear hb7
    have r0 := hR.cell 0 (.int .i64 0) rfl
    have hz7b : w.heap.size < wc.heap.size := by omega
    go_wp2_with fail
    go_loop [16, 41] (fun k i => k = .slice none 0 0 ∧ i = .int .i64 0) (fun _ _ => 0)
    case atStart => exact ⟨rfl, rfl⟩
    case round =>
      obtain ⟨rfl, rfl⟩ := hrel
      go_upto_region 14 with fail
      obtain ⟨w8, e8, hP, hb8, hs8⟩ := tbox wc 193 #[.float .f32 0, .float .f32 0]
      rw [← e8]
      replace hR := hR.below hb8
      replace hW := hW.below hb8
      replace hG := hG.below hb8
      replace hA := hA.below hb8
      replace hN := hN.below hb8
      replace hO := hO.below hb8
      replace hB := hB.below hb8
      replace hb := hb.trans (hb8.mono hb.size)
      have hz8 : wc.heap.size < w8.heap.size := by omega
      clear e8 hs8 hb8 r0
      have r0 := hR.cell 0 (.int .i64 0) rfl
      have hix := rule_at32
      go_region_held3 (fun w' => w'.cell? ⟨w.heap.size, 0, none⟩ = some (.int .i64 0)) (go_keep)
        ((go_at_call 144; refine (rules32 _).mono ?_; rintro e w9 ⟨rfl, hb9⟩; have r9 := ((hR.grown (grownBy_drew w8 none) (by simp)).below hb9).cell 0 (.int .i64 0) rfl))
      clear r0 r9 hix
      replace hR := trivial
      replace hW := (hW.grown (grownBy_drew w8 none) (by simp)).below hb9
      replace hG := (hG.grown (grownBy_drew w8 none) (by simp)).below hb9
      replace hA := (hA.grown (grownBy_drew w8 none) (by simp)).below hb9
      replace hN := (hN.grown (grownBy_drew w8 none) (by simp)).below hb9
      replace hP := (hP.grown (grownBy_drew w8 none) (by simp)).below hb9
      replace hO := (hO.grown (grownBy_drew w8 none) (by simp)).below hb9
      replace hB := (hB.grown (grownBy_drew w8 none) (by simp)).below hb9
      replace hb := hb.drew.trans (hb9.mono hb.size)
      clear hb9 hR
      have m3 := hW.c3
      go_wp2_with fail
      clear m3
      go_loopw [106] (fun i wr => ∃ k : Nat, k ≤ n ∧ i = .int .i64 k ∧ MatAt wr (w.heap.size + 1) 1 n 32 (.slice (some ⟨bw, ow, none⟩) n cw) ∧ MatAt wr (w.heap.size + 1 + 1) 1 n 32 (.slice (some ⟨bg, og, none⟩) n cg) ∧ MatAt wr (w.heap.size + 1 + 1 + 1) 0 0 0 (.slice none 0 0) ∧
          TBox wr w5.heap.size 190 #[.float .f32 rr, .float .f32 0, .float .f32 0, .float .f32 0, .float .f32 0, .float .f32 0] ∧ TBox wr wc.heap.size 193 #[.float .f32 0, .float .f32 0] ∧ MatAt wr gO 1 n 32 (.slice (some ⟨gB, 0, none⟩) n n) ∧ TBox wr gB 3 (outC n k PD) ∧ Below w.heap.size w wr)
        (fun i _ => n - (intOf i).toNat)
      case atStart => exact ⟨0, Nat.zero_le _, rfl, hW, hG, hA, hN, hP, hO, hB, hb⟩
      case round =>
        clear hW hG hA hN hP hO hB hb
        obtain ⟨k, hk, rfl, hW, hG, hA, hN, hP, hO, hB, hb⟩ := hrel
        by_cases hlt : k < n
        · obtain ⟨fx, fg, fd, hfx, hfg, hpl, hfin, hpt⟩ := HE.out k hlt
          have ex := HX.out k hlt
          have eg := HG.out k hlt
          replace ex := (hb.cell (p := ⟨bw, ow + k, none⟩) (by exact World.block_lt_of_cell? _ _ ex)).trans ex
          replace eg := (hb.cell (p := ⟨bg, og + k, none⟩) (by exact World.block_lt_of_cell? _ _ eg)).trans eg
          have hlt' : (k : Int) < (n : Int) := by omega
          have hk0 : (0 : Int) ≤ (k : Int) := by omega
          have H0 := Lib.hid (And.intro hW (And.intro hG (And.intro hA (And.intro hN (And.intro hP (And.intro hO (And.intro hB hb)))))))
          go_upto_region 18 with fail
          go_cut [23] from 109 to 125 (fun s23 wx => ∃ gC, s23 = .pointer (some ⟨gC, 0, none⟩) ∧ wr.heap.size ≤ gC ∧ TBox wx gC 200 #[.float .f32 fx, .float .f32 fg, .float .f32 0, .float .f32 0] ∧ Below wr.heap.size wr wx)
          case first =>
            have w2 := hW.c2
            have w3 := hW.c3
            have g3 := hG.c3
            clear hW hG hA hN hP hO hB hb hpl hfin hpt
            go_region_held3 (fun w' => w'.cell? ⟨w.heap.size + 1, 2, none⟩ = some (.int .i64 32) ∧ w'.cell? ⟨w.heap.size + 1, 3, none⟩ = some (.slice (some ⟨bw, ow, none⟩) n cw) ∧ w'.cell? ⟨w.heap.size + 1 + 1, 3, none⟩ = some (.slice (some ⟨bg, og, none⟩) n cg) ∧ w'.cell? ⟨bw, ow + k, none⟩ = some (.int .i64 (PX k)) ∧ w'.cell? ⟨bg, og + k, none⟩ = some (.int .i64 (PG k))) (go_keep)
              (first
                | (go_at_call 142; (with_reducible refine (hfx _).mono ?_); rintro e wz ⟨rfl, rfl⟩)
                | (go_at_call 142; (with_reducible refine (hfg _).mono ?_); rintro e wz ⟨rfl, rfl⟩))
            all_goals (go_wp2_with fail; go_meet; exact newBox _ _ _)
          case rest =>
            obtain ⟨gC, rfl, hgc, hC, hbc⟩ := hcut
            replace hW := hW.below hbc
            replace hG := hG.below hbc
            replace hA := hA.below hbc
            replace hN := hN.below hbc
            replace hP := hP.below hbc
            replace hO := hO.below hbc
            replace hB := hB.below hbc
            have hbz := hb.size
            replace hb := hb.trans (hbc.mono hb.size)
            have hbz2 := hbc.size
            have hbr := hbc
            clear hbc ex eg hfx hfg
            have n0 := hN.cell 0 (.float .f32 rr) rfl
            have n1 := hN.cell 1 (.float .f32 0) rfl
            have n2 := hN.cell 2 (.float .f32 0) rfl
            have n3 := hN.cell 3 (.float .f32 0) rfl
            have n4 := hN.cell 4 (.float .f32 0) rfl
            have n5 := hN.cell 5 (.float .f32 0) rfl
            have p0 := hP.cell 0 (.float .f32 0) rfl
            have p1 := hP.cell 1 (.float .f32 0) rfl
            have c0 := hC.cell 0 (.float .f32 fx) rfl
            have c1 := hC.cell 1 (.float .f32 fg) rfl
            have c2 := hC.cell 2 (.float .f32 0) rfl
            have c3 := hC.cell 3 (.float .f32 0) rfl
            have hoz := order0_32
            go_upto_region 30 with fail
            go_cut [] from 187 to 191 (fun wx => TBox wx gC 200 #[.float .f32 fd, .float .f32 fg, .float .f32 0, .float .f32 0] ∧ Below wr.heap.size wr wx)
            case first =>
              go_wp2_with fail
              refine (hpl _).mono ?_
              rintro e w12 ⟨rfl, hb12⟩
              replace hC := hC.below hb12
              have hbw := hbr.trans (hb12.mono hbz2)
              clear n0 n1 n2 n3 n4 n5 p0 p1 c0 c1 c2 c3 hb12 hW hG hA hN hP hO hB hb hfin hpt
              have c0 := hC.cell 0 (.float .f32 fx) rfl
              have c1 := hC.cell 1 (.float .f32 fg) rfl
              have c2 := hC.cell 2 (.float .f32 0) rfl
              have c3 := hC.cell 3 (.float .f32 0) rfl
              have f0 := hC.free 0
              have f1 := hC.free 1
              have f2 := hC.free 2
              have f3 := hC.free 3
              obtain ⟨hC4, hg4⟩ := hC.put4 (.float .f32 fd) (.float .f32 fg) (.float .f32 0) (.float .f32 0)
              have hb4 := hbw.grown hg4 hbw.size (fun r e => by cases e; exact hgc)
              have H4 := Lib.hid (And.intro hC4 hb4)
              clear hC4 hg4 hb4
              go_wp2_with fail
              go_meet
              exact H4.out
            case rest =>
              obtain ⟨hC, hbr2⟩ := hcut
              clear n0 n1 n2 n3 n4 n5 p0 p1 c0 c1 c2 c3 hoz hW hG hA hN hP hO hB hb hbr hpl
              obtain ⟨hW, hG, hA, hN, hP, hO, hB, hb⟩ := H0.out
              clear H0
              replace hW := hW.below hbr2
              replace hG := hG.below hbr2
              replace hA := hA.below hbr2
              replace hN := hN.below hbr2
              replace hP := hP.below hbr2
              replace hO := hO.below hbr2
              replace hB := hB.below hbr2
              replace hb := hb.trans (hbr2.mono hb.size)
              have hbz3 := hbr2.size
              clear hbr2
              have c0 := hC.cell 0 (.float .f32 fd) rfl
              have c2 := hC.cell 2 (.float .f32 0) rfl
              have c3 := hC.cell 3 (.float .f32 0) rfl
              go_wp2_with fail
              refine (hfin _ _ _ (by go_simp) (by go_simp) (by go_simp)).mono ?_
              rintro e w13 ⟨rfl, rfl⟩
              clear hfin c0 c2 c3
              go_upto_region 34 with fail
              obtain ⟨w14, e14, _, hb14, hs14⟩ := tbox wc 128 #[.float .f32 0, .float .f32 0, .float .f32 fd]
              rw [← e14]
              clear e14 hs14
              have hb14 := hb14.drew
              replace hW := hW.below hb14
              replace hG := hG.below hb14
              replace hA := hA.below hb14
              replace hN := hN.below hb14
              replace hP := hP.below hb14
              replace hO := hO.below hb14
              replace hB := hB.below hb14
              replace hC := hC.below hb14
              replace hb := hb.trans (hb14.mono hb.size)
              clear hb14
              have o3 := hO.c3
              have v2 := hW.c2
              have c0 := hC.cell 0 (.float .f32 fd) rfl
              have bc := hB.cell k (.int .i64 0) (by rw [outC_at _ _ _ _ hlt, if_neg (by omega)])
              have bf := hB.free k
              refine wp_region_still_tail 9 (by kernel_rfl) (by kernel_rfl) ?_
              simp only [List.take_succ_cons, List.take_zero, List.drop_succ_cons, List.drop_zero]
              change wpStill _ _ w14.drew _ _ _
              repeat (first | still_step | still_call (hpt _))
              refine wpStill_nil ?_
              change wpList _ _ _ _ _ w14.drew
              obtain ⟨hB2, hg2⟩ := hB.put k (.int .i64 (PD k))
              rw [outC_put _ _ _ hlt] at hB2
              replace hW := hW.grown hg2 (by simp; omega)
              replace hG := hG.grown hg2 (by simp; omega)
              replace hA := hA.grown hg2 (by simp; omega)
              replace hN := hN.grown hg2 (by simp; omega)
              replace hP := hP.grown hg2 (by simp; omega)
              replace hO := hO.grown hg2 (by simp; omega)
              replace hb := hb.grown hg2 hb.size (fun r e => by cases e; omega)
              have HZ := Lib.hid (And.intro hW (And.intro hG (And.intro hA (And.intro hN (And.intro hP (And.intro hO (And.intro hB2 hb)))))))
              clear hW hG hA hN hP hO hB hb hB2 hg2 hC
              go_wp2_with fail
              go_roundw
              case rel => exact ⟨k + 1, hlt, by go_num, HZ.out⟩
              case measure => simp [intOf]; omega
        · obtain rfl : k = n := by omega
          have a0 := hA.c0
          have a1 := hA.c1
          have a2 := hA.c2
          have a3 := hA.c3
          have f0 := hA.free 0
          have f1 := hA.free 1
          have f2 := hA.free 2
          have f3 := hA.free 3
          have o0 := hO.c0
          have o1 := hO.c1
          have o2 := hO.c2
          have o3 := hO.c3
          go_wp2_with fail
          obtain ⟨hA4, gr4⟩ := TBox.put4 (TBox.mk hA.block) (.int .i64 1) (.int .i64 k) (.int .i64 32) (.slice (some ⟨gB, 0, none⟩) k k)
          have z0 := hA4.cell 0 (.int .i64 1) rfl
          have z1 := hA4.cell 1 (.int .i64 k) rfl
          have z2 := hA4.cell 2 (.int .i64 32) rfl
          have z3 := hA4.cell 3 (.slice (some ⟨gB, 0, none⟩) k k) rfl
          have hB4 := hB.grown gr4 (by simp; omega)
          have hb4 := hb.grown gr4 hb.size (fun r e => by cases e; omega)
          refine bodyPost_ret (by simp [results, Try.results98, go_sem, z0, z1, z2, z3]; try rfl) rfl ?_
          exact ⟨_, rfl, by omega, hB4, hb4⟩
end Go.Proofs.Ytdddbljkhhbdlaa
