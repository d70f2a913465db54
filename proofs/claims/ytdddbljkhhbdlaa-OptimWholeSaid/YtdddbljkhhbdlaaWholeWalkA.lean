/-
OptimWhole where something is asked, of width 64.
-/
import Derived.Test.YtdddbljkhhbdlaaWholeAsk
import Derived.Test.YtdddbljkhhbdlaaWholeNo
import Derived.BigRegion
import Derived.BigQuiet
import Derived.Deep.QuietTactic
import Derived.Deep.RegionLaw
import Derived.Deep.CutRange
namespace Go.Proofs.Ytdddbljkhhbdlaa
open Go.RowKit

set_option maxRecDepth 100000 in
set_option maxHeartbeats 4000000 in
theorem whole_yes64 (bw ow cw bg og cg l s : Nat) (xs ys : List Int) (w : World) (hl1 : 1 ≤ l) (hl : l ≤ 60) (hs : s ≤ 8) (hcw : l ≤ cw) (hcg : l ≤ cg)
    (hx : ∀ k, k < l → w.cell? ⟨bw, ow + k, none⟩ = some (.int .i64 (xs.getD k 0))) (hy : ∀ k, k < l → w.cell? ⟨bg, og + k, none⟩ = some (.int .i64 (ys.getD k 0))) :
    Calls Try.prog 9 #[.slice (some ⟨bw, ow, none⟩) l cw, .slice (some ⟨bg, og, none⟩) l cg, .int .i64 s, .int .i64 64] w fun e w' => e = .returned (.bool true) ∧ Below w.heap.size w w' := by
  have k0 : ((l : Int) == 0) = false := by simp; omega
  have k1 : decide ((60 : Int) < (l : Int)) = false := by simp; omega
  have k2 : ((l : Int) != (l : Int)) = false := by simp
  have k3 : decide ((s : Int) < 0) = false := by simp
  have k4 : decide ((8 : Int) < (s : Int)) = false := by simp; omega
  have HX := Lib.hid hx
  have HY := Lib.hid hy
  clear hx hy
  go_enter Try.func9, Try.ntmps9
  go_wp2_with fail
  refine (alive17 _).mono ?_
  rintro e w1 ⟨rfl, hb⟩
  go_wp2_with fail
  obtain ⟨w2, e2, hA, hb2, hs2⟩ := boxM w1 1 l 64 (.slice none 0 0)
  rw [← e2]
  obtain ⟨w3, e3, hB, hb3, hs3⟩ := boxM w2 1 l 64 (.slice none 0 0)
  rw [← e3]
  rw [hs2] at hB
  have hask : Asked w1 w3 l 64 (.slice none 0 0) (.slice none 0 0) (.slice none 0 0) [] [] [] :=
    ⟨hA.below hb3, hB, ⟨fun i hi => by have h' : i = 0 ∨ i = 1 ∨ i = 2 := by omega
                                       rcases h' with rfl | rfl | rfl <;> exact World.ownsRow_nil _ _ _ _,
      fun i j hi _ _ => by have h' : i = 0 ∨ i = 1 ∨ i = 2 := by omega
                           rcases h' with rfl | rfl | rfl <;> exact .inl rfl⟩, hb2.trans (hb3.mono hb2.size), by omega⟩
  clear e2 e3 hs2 hs3 hb2 hb3 hA hB
  go_loopw [11, 12] (fun v i wr => ∃ (k : Nat) (va vb : Value), k ≤ l ∧ i = .int .i64 k ∧ Asked w1 wr l 64 va vb v (rangeI k fun j => patI 64 (remI xs j)) (rangeI k fun j => patI 64 (remI ys j * 2 ^ s)) (rangeI k fun j => remI xs j - remI ys j)) (fun _ i _ => l - (intOf i).toNat)
  case atStart => exact ⟨0, _, _, Nat.zero_le _, rfl, hask⟩
  case round =>
    obtain ⟨k, va, vb, hk, rfl, hask2⟩ := hrel
    clear hask
    by_cases hlt : k < l
    · go_upto_region 9 with fail
      go_cut [13, 14] from 69 to 81 (fun s13 s14 wx => s13 = .int .i64 (remI xs k) ∧ s14 = .int .i64 (remI ys k * 2 ^ s) ∧ Asked w1 wx l 64 va vb u11 (rangeI k fun j => patI 64 (remI xs j)) (rangeI k fun j => patI 64 (remI ys j * 2 ^ s)) (rangeI k fun j => remI xs j - remI ys j))
      case first =>
        have ex := (hask2.below.cell (p := ⟨bw, ow + k, none⟩) (by exact Nat.lt_of_lt_of_le (World.block_lt_of_cell? _ _ (HX.out k hlt)) hb.size)).trans ((hb.cell (p := ⟨bw, ow + k, none⟩) (by exact World.block_lt_of_cell? _ _ (HX.out k hlt))).trans (HX.out k hlt))
        have eg := (hask2.below.cell (p := ⟨bg, og + k, none⟩) (by exact Nat.lt_of_lt_of_le (World.block_lt_of_cell? _ _ (HY.out k hlt)) hb.size)).trans ((hb.cell (p := ⟨bg, og + k, none⟩) (by exact World.block_lt_of_cell? _ _ (HY.out k hlt))).trans (HY.out k hlt))
        have hi0 : (0 : Int) ≤ (k : Int) := by omega
        have hi1 : (k : Int) < (l : Int) := by omega
        have hs0 : (0 : Int) ≤ (s : Int) := by omega
        have hs8 : (s : Int) ≤ 8 := by omega
        have HA := Lib.hid hask2
        obtain ⟨x, hx9⟩ : ∃ x, x = xs.getD k 0 := ⟨_, rfl⟩
        obtain ⟨y, hy9⟩ : ∃ y, y = ys.getD k 0 := ⟨_, rfl⟩
        have HRX : Hid (x.tmod 1000 = remI xs k) := by rw [hx9]; exact (rfl : _ = _)
        have HRY : Hid (wrap64 (y.tmod 1000 * wrap64 (2 ^ s)) = remI ys k * 2 ^ s) := by rw [hy9]; exact wrap_ask _ s hs
        rw [← hx9] at ex
        rw [← hy9] at eg
        clear hask2 hx9 hy9
        go_quiet (fail)
        go_wp2_with fail
        go_meet
        exact ⟨by rw [HRX.out], by rw [HRY.out], HA.out.kept (grownBy_below (grownBy_drewN _ _ none))⟩
      case rest =>
        obtain ⟨rfl, rfl, hask3⟩ := hcut
        clear hask2
        have hpx := fun w => fromInt_any (remI xs k) 64 (small_rem xs k) (by decide) w
        have hpy := fun w => fromInt_any (remI ys k * 2 ^ s) 64 (small_mul ys k s hs) (by decide) w
        obtain ⟨px, hpx9⟩ : ∃ px, px = patI 64 (remI xs k) := ⟨_, rfl⟩
        obtain ⟨py, hpy9⟩ : ∃ py, py = patI 64 (remI ys k * 2 ^ s) := ⟨_, rfl⟩
        rw [← hpx9] at hpx
        rw [← hpy9] at hpy
        have HP := Lib.hid (And.intro hpx9 hpy9)
        clear hpx9 hpy9
        have hrx := remI_lt xs k
        obtain ⟨rx, hrx9⟩ : ∃ rx, rx = remI xs k := ⟨_, rfl⟩
        obtain ⟨ry, hry9⟩ : ∃ ry, ry = remI ys k * 2 ^ s := ⟨_, rfl⟩
        rw [← hrx9] at hpx
        rw [← hry9] at hpy
        rw [← hrx9, ← hry9]
        have HR := Lib.hid (And.intro hrx9 hry9)
        clear hrx9 hry9
        go_upto_region 10 with fail
        go_cut [] from 82 to 89 (fun wx => ∃ va', Asked w1 wx l 64 va' vb u11 (rangeI k (fun j => patI 64 (remI xs j)) ++ [px]) (rangeI k fun j => patI 64 (remI ys j * 2 ^ s)) (rangeI k fun j => remI xs j - remI ys j))
        case first =>
          have a3 := hask3.A.c3
          obtain ⟨ak, ck, rfl, _, _⟩ := own_form (hask3.lists.row 0 (by omega))
          obtain ⟨v', w6, happ, hM6, hask6⟩ := hask3.readyA (by rw [rangeI_length]; omega) px
          obtain ⟨aq, cq, rfl, _, _⟩ := own_form (hask6.lists.row 0 (by omega))
          have p3 := hM6.c3
          have y3 := hM6.free 3
          have hz1 : w1.heap.size < wc.heap.size := by have := hask3.size; omega
          have hz2 : w1.heap.size + 1 < wc.heap.size := by have := hask3.size; omega
          have HZ := Lib.hid hask6
          clear hask6 hM6 hask3 hpy
          go_region_law
            (first
              | ((refine step_call rfl 40 #[.int .i64 rx, .int .i64 64] (.int .i64 px) ?_ (hpx _) ?_; (focus (go_simp; done))))
              | ((refine step_done (by rfl) (.tmp 83) (.tmp 87) 43 (by rfl) (by rfl) (by rfl) happ ?_))
              | fail)
          all_goals (go_wp2_with fail; go_meet; exact ⟨_, HZ.out⟩)
        case rest =>
          obtain ⟨va2, hask4⟩ := hcut
          clear hask3
          go_upto_region 11 with fail
          go_cut [] from 90 to 97 (fun wx => ∃ vb', Asked w1 wx l 64 va2 vb' u11 ((rangeI k fun j => patI 64 (remI xs j)) ++ [px]) ((rangeI k fun j => patI 64 (remI ys j * 2 ^ s)) ++ [py]) (rangeI k fun j => remI xs j - remI ys j))
          case first =>
            have a3 := hask4.B.c3
            obtain ⟨ak, ck, rfl, _, _⟩ := own_form (hask4.lists.row 1 (by omega))
            obtain ⟨v', w6, happ, hM6, hask6⟩ := hask4.readyB (by rw [rangeI_length]; omega) py
            obtain ⟨aq, cq, rfl, _, _⟩ := own_form (hask6.lists.row 1 (by omega))
            have p3 := hM6.c3
            have y3 := hM6.free 3
            have hz1 : w1.heap.size < wc.heap.size := by have := hask4.size; omega
            have hz2 : w1.heap.size + 1 < wc.heap.size := by have := hask4.size; omega
            have HZ := Lib.hid hask6
            clear hask6 hM6 hask4 hpx
            go_region_law
              (first
                | ((refine step_call rfl 40 #[.int .i64 ry, .int .i64 64] (.int .i64 py) ?_ (hpy _) ?_; (focus (go_simp; done))))
                | ((refine step_done (by rfl) (.tmp 91) (.tmp 95) 43 (by rfl) (by rfl) (by rfl) happ ?_))
                | fail)
            all_goals (go_wp2_with fail; go_meet; exact ⟨_, HZ.out⟩)
          case rest =>
            obtain ⟨vb2, hask5⟩ := hcut
            clear hask4 hpx hpy
            have eg := (hask5.below.cell (p := ⟨bg, og + k, none⟩) (by exact Nat.lt_of_lt_of_le (World.block_lt_of_cell? _ _ (HY.out k hlt)) hb.size)).trans ((hb.cell (p := ⟨bg, og + k, none⟩) (by exact World.block_lt_of_cell? _ _ (HY.out k hlt))).trans (HY.out k hlt))
            have hi0 : (0 : Int) ≤ (k : Int) := by omega
            have hi1 : (k : Int) < (l : Int) := by omega
            obtain ⟨y, hy9⟩ : ∃ y, y = ys.getD k 0 := ⟨_, rfl⟩
            have HRY : Hid (y.tmod 1000 = remI ys k) := by rw [hy9]; exact (rfl : _ = _)
            rw [← hy9] at eg
            clear hy9
            have hyb := tmod_lt y
            have hrx2 : -999 ≤ rx ∧ rx ≤ 999 := by rw [HR.out.1]; exact hrx
            have hrow := hask5.lists.row 2 (by omega)
            obtain ⟨a11, c11, hv11, _, _⟩ := own_form hrow
            have h11 : u11 = .slice a11 k c11 := by
              have : tri va2 vb2 u11 2 = u11 := rfl
              rw [← this, hv11]
              show Value.slice _ (rangeI k _).length _ = _
              rw [rangeI_length]
            subst h11
            clear hv11 hrx
            have hsz5 := hask5.size
            have hown : wc.ownsRow (w1.heap.size + 2) 3 1 (.slice a11 k c11) k (cellsI (rangeI k fun j => remI xs j - remI ys j)) := by
              have h : wc.ownsRow (w1.heap.size + 2) 3 1 (.slice a11 k c11) (rangeI k fun j => remI xs j - remI ys j).length (cellsI (rangeI k fun j => remI xs j - remI ys j)) := hrow
              rw [rangeI_length] at h
              exact h
            have H5 := Lib.hid hask5
            clear hask5 hrow
            go_wp2_with (at_builtin; refine wpList_app rfl _ _ _ rfl elem43 rfl (hown.alloc _) ⟨wc.heap.size, 0, none⟩ 1 1 [.int .i64 (rx - y.tmod 1000)] rfl rfl (cell_one_new _ _ _) (fun x hx => by simp at hx; subst hx; rfl) (by unfold maxLen; omega) (by omega) (by simp; omega) ?_; intro v' w7 hA)
            have hask8 : Asked w1 w7 l 64 va2 vb2 v' (rangeI (k + 1) fun j => patI 64 (remI xs j)) (rangeI (k + 1) fun j => patI 64 (remI ys j * 2 ^ s)) (rangeI (k + 1) fun j => remI xs j - remI ys j) := by
              rw [HRY.out, HR.out.1] at hA
              have h := H5.out.putC (y := remI xs k - remI ys k) (v' := v') (w2 := w7) ((Below.refl _ wc).alloc (Nat.le_refl _) _) (by rw [rangeI_length]; exact hA)
              rw [HP.out.1, HP.out.2] at h
              rw [rangeI_succ, rangeI_succ, rangeI_succ]
              exact h
            have H8 := Lib.hid hask8
            clear hask8 hA hown H5
            go_wp2_with fail
            go_roundw
            case rel => exact ⟨k + 1, va2, vb2, by omega, by go_num, H8.out⟩
            case measure => simp [intOf]; omega
    · obtain rfl : k = l := by omega
      obtain ⟨g1, c1, rfl, hc1, hx1⟩ := rowForm (hask2.lists.row 0 (by omega)) hl1
      obtain ⟨g2, c2, rfl, hc2, hx2⟩ := rowForm (hask2.lists.row 1 (by omega)) hl1
      obtain ⟨g3, c3, h11, hc3, hx3⟩ := rowForm (f := fun j => remI xs j - remI ys j) (hask2.lists.row 2 (by omega)) hl1
      replace h11 : u11 = .slice (some ⟨g3, 0, none⟩) k c3 := h11
      subst h11
      have hst := whole_step k hl1 hl 64 (by decide) g1 0 c1 g2 0 c2 (remI xs) (remI ys) s hs wr (fun j _ => small_rem xs j) (fun j _ => small_mul ys j s hs) (fun j _ => small_sub xs ys j) hx1 hx2 hc1 hc2
      unfold rule0 matV rateI at hst
      have HX3 := Lib.hid hx3
      have a0 := hask2.A.c0
      have a1 := hask2.A.c1
      have a2 := hask2.A.c2
      have a3 := hask2.A.c3
      have b0 := hask2.B.c0
      have b1 := hask2.B.c1
      have b2 := hask2.B.c2
      have b3 := hask2.B.c3
      have hs0 : (0 : Int) ≤ (s : Int) := by omega
      have hs8 : (s : Int) ≤ 8 := by omega
      have hbr := hb.trans (hask2.below.mono hb.size)
      clear hask2 hx1 hx2 hx3 HX HY
      go_wp2_with fail
      refine hst.mono ?_
      rintro e w9 ⟨gB, rfl, hgb, hB, hb9⟩
      unfold matV
      have hb10 := hbr.trans (hb9.mono hbr.size)
      have HO : Hid (∀ j, j < k → w9.cell? ⟨gB, 0 + j, none⟩ = some (.int .i64 (patI 64 (remI xs j - remI ys j)))) := by
        refine Lib.hid (fun j hj => ?_)
        have h := hB.cell j _ (outC_at _ _ _ j hj)
        rw [if_pos hj] at h
        rw [Nat.zero_add]
        exact h
      have HT : Hid (∀ j, j < k → w9.cell? ⟨g3, 0 + j, none⟩ = some (.int .i64 (remI xs j - remI ys j))) :=
        Lib.hid (fun j hj => (hb9.cell (p := ⟨g3, 0 + j, none⟩) (by exact World.block_lt_of_cell? _ _ (HX3.out j hj))).trans (HX3.out j hj))
      clear hst hB hb9 hbr HX3 a0 a1 a2 a3 b0 b1 b2 b3 k1 k3 k4
      go_wp2_with fail
      obtain ⟨w10, e10, hC, hb11, hs11⟩ := boxM w9 1 k 64 (.slice (some ⟨gB, 0, none⟩) k k)
      rw [← e10]
      have hbe := hb10.trans (hb11.mono hb10.size)
      have HO2 : Hid (∀ j, j < k → w10.cell? ⟨gB, 0 + j, none⟩ = some (.int .i64 (patI 64 (remI xs j - remI ys j)))) :=
        Lib.hid (fun j hj => (hb11.cell (p := ⟨gB, 0 + j, none⟩) (by exact World.block_lt_of_cell? _ _ (HO.out j hj))).trans (HO.out j hj))
      have HT2 : Hid (∀ j, j < k → w10.cell? ⟨g3, 0 + j, none⟩ = some (.int .i64 (remI xs j - remI ys j))) :=
        Lib.hid (fun j hj => (hb11.cell (p := ⟨g3, 0 + j, none⟩) (by exact World.block_lt_of_cell? _ _ (HT.out j hj))).trans (HT.out j hj))
      have d3 := hC.c3
      clear HO HT e10 hs11 hb11 hb10 hC
      go_loop [19] (fun i => ∃ j : Nat, j ≤ k ∧ i = .int .i64 j) (fun i => k - (intOf i).toNat)
      case atStart => exact ⟨0, Nat.zero_le _, rfl⟩
      case round =>
        obtain ⟨j, hj, rfl⟩ := hrel
        by_cases hlt2 : j < k
        · have o0 := HO2.out j hlt2
          have t0 := HT2.out j hlt2
          have hti := fun w => toInt_any (remI xs j - remI ys j) 64 (small_sub xs ys j) (by decide) w
          have hj0 : (0 : Int) ≤ (j : Int) := by omega
          have hj1 : (j : Int) < (k : Int) := by omega
          rw [Nat.zero_add] at o0 t0
          generalize patI 64 (remI xs j - remI ys j) = p at o0 hti
          generalize remI xs j - remI ys j = d at t0 hti
          have hdd : (d != d) = false := by simp
          go_wp2_with fail
          refine (hti _).mono ?_
          rintro e w11 ⟨rfl, rfl⟩
          go_wp2_with fail
          go_round
          case rel => exact ⟨j + 1, by omega, by go_num⟩
          case measure => simp [intOf]; omega
        · obtain rfl : j = k := by omega
          go_wp2_with fail
          go_ret
          exact ⟨rfl, hbe⟩
end Go.Proofs.Ytdddbljkhhbdlaa
