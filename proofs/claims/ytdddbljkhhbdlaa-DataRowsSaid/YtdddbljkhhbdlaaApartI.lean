/-
Apart, of a book of lists of numbers: it answers true.
-/
import Derived.Test.YtdddbljkhhbdlaaBook
import Derived.StillTailTactics
import Derived.Deep.RegionHeld3
import Derived.Deep.DeepMust
import Derived.Test.YtdddbljkhhbdlaaProg
import Derived.Test.YtdddbljkhhbdlaaMath
import Derived.Test.YtdddbljkhhbdlaaGrow
namespace Go.Proofs.Ytdddbljkhhbdlaa
open Go.RowKit

theorem own_rowV_ne {w : World} {B b : Nat} {V : Nat → Value} {v0 vk : Value} {n len g cap : Nat} {xs : List Value} (hv : w.ownsRow B 43 1 v0 n ((List.range n).map V))
    (hr : w.ownsRow b 3 1 vk len xs) (hvk : vk = .slice (some ⟨g, 0, none⟩) len cap) : v0.ownBlock = none ∨ v0.ownBlock ≠ some g := by
  have := own_other hv hr (by decide)
  rw [hvk] at this
  exact this

theorem cellsI_set (l : List Int) (j : Nat) (z : Int) : (cellsI l).set j (.int .i64 z) = cellsI (l.set j z) := by simp [cellsI, List.map_set]

theorem listsI_store {wr : World} {B n k g len c1 : Nat} {V : Nat → Value} {X : Nat → List Int} (hV : Lists cellsI 3 1 wr B n V X) (hk : k < n) (hVk : V k = .slice (some ⟨g, 0, none⟩) len c1)
    (hl : (X k).length = len) (j : Nat) (z : Int) :
    Lists cellsI 3 1 (wr.setCell ⟨g, j, none⟩ (.int .i64 z)).drew B n V (fun i => if i = k then (X k).set j z else X i) ∧ wr.grownBy (wr.setCell ⟨g, j, none⟩ (.int .i64 z)).drew (some g) := by
  have rk := hV.row k hk
  rw [hl, hVk] at rk
  have hs := rk.stored j (.int .i64 z)
  rw [cellsI_set] at hs
  have hg : wr.grownBy (wr.setCell ⟨g, j, none⟩ (.int .i64 z)).drew (some g) := ⟨hs.2.os, hs.2.tape, hs.2.output, hs.2.size, hs.2.block⟩
  refine ⟨hV.update hk hVk (by simp) hg ?_, hg⟩
  rw [hl, hVk]
  exact hs.1

set_option maxRecDepth 100000 in
set_option maxHeartbeats 2000000 in
theorem putInts_any (w : World) (bb : Nat) (v0 w0 v1 w1 : Value) (hk : BookAt w bb v0 w0 v1 w1) (B n : Nat) (hn : n ≤ 400) (hB : B ≤ w.heap.size) (V : Nat → Value) (X : Nat → List Int)
    (hv : w.ownsRow B 43 1 v0 n ((List.range n).map V))
    (hV : Lists cellsI 3 1 w B n V X) (hX : ∀ i, i < n → (X i).length ≤ 100000) :
    Calls Try.prog 58 #[.pointer (some ⟨bb, 0, none⟩)] w fun e w' => e = .returned (.tuple #[]) ∧ BookAt w' bb v0 w0 v1 w1 ∧ w'.ownsRow B 43 1 v0 n ((List.range n).map V) ∧
      Lists cellsI 3 1 w' B n V (fun i => marksI i 0 (X i).length) ∧ Below B w w' := by
  have HX := Lib.hid hX
  clear hX
  obtain ⟨aa, ca, rfl, na, fa⟩ := own_form hv
  by_cases h0 : n = 0
  · subst h0
    have d0 := hk.c0
    clear na fa
    go_enter Try.func58, Try.ntmps58
    go_wp2
    refine wp_loop_rounds 1 ?_
    rw [rounds_succ]
    go_wp2
    go_end0
    exact ⟨rfl, hk, hv, hV.congr (fun i hi => absurd hi (Nat.not_lt_zero _)), Below.refl _ _⟩
  · cases aa with
    | none => exact absurd (na rfl).1 h0
    | some da =>
    obtain ⟨ga, rfl, _, _⟩ := fa da rfl
    clear fa na
    go_enter Try.func58, Try.ntmps58
    go_wp2
    go_loopw [2] (fun i wr => ∃ k : Nat, k ≤ n ∧ i = .int .i64 k ∧ BookAt wr bb (.slice (some ⟨ga, 0, none⟩) n ca) w0 v1 w1 ∧ wr.ownsRow B 43 1 (.slice (some ⟨ga, 0, none⟩) n ca) n ((List.range n).map V) ∧
        Lists cellsI 3 1 wr B n V (fun i => if i < k then marksI i 0 (X i).length else X i) ∧ Below B w wr) (fun i _ => n - (intOf i).toNat)
    case atStart => exact ⟨0, Nat.zero_le _, rfl, hk, hv, hV.congr (fun i _ => by simp), Below.refl _ _⟩
    case round =>
      obtain ⟨k, hkn, rfl, hk1, hv1, hV1, hb1⟩ := hrel
      clear hk hv hV
      have d0 := hk1.c0
      by_cases hlt : k < n
      · have rk := hV1.row k hlt
        simp only [Nat.lt_irrefl, if_false] at rk
        have e0 := own_cellV hv1 k hlt
        have hx := HX.out k hlt
        obtain ⟨a1, c1, f1, z1, g1⟩ := own_form rk
        have F1 := Lib.hid f1
        obtain ⟨len, hlen⟩ : ∃ len, len = (X k).length := ⟨_, rfl⟩
        rw [f1, ← hlen] at e0
        rw [← hlen] at hx
        have HL := Lib.hid hlen
        clear f1 hlen
        go_wp2_with fail
        refine (markInts_any (k : Int) 0 (len : Int) _ (by omega) (by omega) (by omega) (by omega) (by omega) (by omega)).mono ?_
        rintro e w2 ⟨m, rfl, hm, hb2⟩
        simp only [Int.toNat_natCast, Int.toNat_zero] at hm
        have hk2 := hk1.below hb2
        have hv2 := own_below hv1 hb2 (Nat.le_refl _)
        have hV2 := hV1.below hb2
        have hb3 : Below B w w2 := hb1.trans (hb2.mono (by have := hb1.size; omega))
        obtain ⟨a2, c2, rfl, z2, g2⟩ := own_form hm
        have d2 := hk2.c0
        have hBr := hb1.size
        obtain ⟨Bm, hBm⟩ : ∃ Bm, Bm = wr.heap.size := ⟨_, rfl⟩
        rw [← hBm] at hm g1 g2 hBr
        have hw2 : Bm ≤ w2.heap.size := by rw [hBm]; exact hb2.size
        clear hk1 hv1 hV1 hb1 hb2 d0 e0 hBm
        go_wp2
        go_loopw [4] (fun x wi => ∃ j : Nat, j ≤ len ∧ x = .int .i64 j ∧ BookAt wi bb (.slice (some ⟨ga, 0, none⟩) n ca) w0 v1 w1 ∧ wi.ownsRow B 43 1 (.slice (some ⟨ga, 0, none⟩) n ca) n ((List.range n).map V) ∧
            wi.ownsRow Bm 3 1 (.slice a2 len c2) len (cellsI (marksI k 0 len)) ∧
            Lists cellsI 3 1 wi B n V (fun i => if i = k then (List.range j).map (markI k 0) ++ (X k).drop j else if i < k then marksI i 0 (X i).length else X i) ∧ Below B w wi) (fun x _ => len - (intOf x).toNat)
        case atStart => exact ⟨0, Nat.zero_le _, rfl, hk2, hv2, hm, hV2.congr (fun i _ => by by_cases e : i = k <;> simp [e]), hb3⟩
        case round =>
          obtain ⟨j, hj, rfl, hk4, hv4, hm4, hV4, hb4⟩ := hrel
          clear hk2 hv2 hV2 hm hb3 d2
          by_cases hjl : j < len
          · cases a1 with
            | none => exact absurd (z1 rfl).1 (by rw [← HL.out]; omega)
            | some d1 =>
            cases a2 with
            | none => exact absurd (z2 rfl).1 (by omega)
            | some d2 =>
            obtain ⟨g, rfl, hg0, hg1⟩ := g1 d1 rfl
            obtain ⟨g', rfl, hg0', _⟩ := g2 d2 rfl
            clear g1 g2 z1 z2
            have d0 := hk4.c0
            have e0 := own_cellV hv4 k hlt
            rw [F1.out, ← HL.out] at e0
            have e1 := own_cellI hm4 j hjl
            have hl' : ((List.range j).map (markI k 0) ++ (X k).drop j).length = len := by
              rw [HL.out]; simp; have := HL.out; omega
            have rk : wr.ownsRow B 3 1 (.slice (some ⟨g, 0, none⟩) len c1) len (cellsI ((List.range j).map (markI k 0) ++ (X k).drop j)) := by
              have := hV4.row k hlt
              rw [F1.out] at this
              simp only [if_true] at this
              rw [hl', ← HL.out] at this
              exact this
            have hc : wr.cell? ⟨g, j, none⟩ = some (.int .i64 (((List.range j).map (markI k 0) ++ (X k).drop j).getD j 0)) := by
              have := rk.cellAt j (by omega)
              rw [this, cellsI_at _ _ (by omega)]
            have hf := rk.frozenAt j
            go_wp2
            go_still_tail 13, (by kernel_rfl)
            change wpList _ _ _ _ _ wr.drew
            go_wp2
            go_roundw
            case rel =>
              have hz : (marksI k 0 len)[j]?.getD 0 = markI k 0 j := by simp [marksI, hjl]
              rw [hz]
              have hS := listsI_store hV4 hlt (k := k) (by rw [F1.out, ← HL.out]) (by simp only [if_true]; exact hl') j (markI k 0 j)
              refine ⟨j + 1, hjl, by go_num, hk4.grown hS.2 ?_, hv4.kept hS.2 ?_, hm4.kept hS.2 ?_, hS.1.congr ?_, hb4.grown hS.2 ?_ ?_⟩
              · exact hk4.ne rk (by decide)
              · exact own_rowV_ne hv4 rk rfl
              · right; simp [Value.ownBlock]; omega
              · intro i hi
                by_cases e : i = k
                · simp only [e, if_true]
                  exact set_step (markI k 0) (X k) j (by rw [← HL.out]; exact hjl)
                · simp only [e, if_false]
              · exact Nat.le_trans hB hb4.size
              · intro q hq; cases hq; exact hg0
            case measure => simp [intOf]; omega
          · obtain rfl : j = len := by omega
            go_wp2
            go_roundw
            case rel =>
              refine ⟨k + 1, hlt, by go_num, hk4, hv4, hV4.congr ?_, hb4⟩
              intro i hi
              by_cases e : i = k
              · subst e
                simp only [if_true, Nat.lt_succ_self]
                rw [HL.out, List.drop_length, List.append_nil]
                rfl
              · by_cases e2 : i < k
                · simp [e, e2, Nat.lt_succ_of_lt e2]
                · simp only [e, e2, if_false]
                  rw [if_neg (by omega)]
            case measure => simp [intOf]; omega
      · obtain rfl : k = n := by omega
        go_wp2
        go_end0
        exact ⟨rfl, hk1, hv1, hV1.congr (fun i hi => by simp [hi]), hb1⟩
end Go.Proofs.Ytdddbljkhhbdlaa
namespace Go.Proofs.Ytdddbljkhhbdlaa
open Go.RowKit

set_option maxRecDepth 100000 in
set_option maxHeartbeats 2000000 in
theorem markedInts_any (w : World) (B n : Nat) (hn : n ≤ 400) (v : Value) (V : Nat → Value) (N : Nat → Nat)
    (hv : w.ownsRow B 43 1 v n ((List.range n).map V))
    (hV : ∀ i, i < n → w.ownsRow B 3 1 (V i) (N i) (cellsI (marksI i 0 (N i)))) (hN : ∀ i, i < n → N i ≤ 100000) :
    Calls Try.prog 74 #[v] w fun e w' => e = .returned (.bool true) ∧ Below w.heap.size w w' := by
  have HV := Lib.hid hV
  have HN := Lib.hid hN
  clear hV hN
  obtain ⟨aa, ca, rfl, na, fa⟩ := own_form hv
  by_cases h0 : n = 0
  · subst h0
    clear na fa hv HV HN
    go_enter Try.func74, Try.ntmps74
    go_wp2
    refine wp_loop_rounds 1 ?_
    rw [rounds_succ]
    go_wp2
    go_ret
    exact ⟨rfl, Below.refl _ _⟩
  · cases aa with
    | none => exact absurd (na rfl).1 h0
    | some da =>
    obtain ⟨ga, rfl, _, _⟩ := fa da rfl
    clear fa na
    go_enter Try.func74, Try.ntmps74
    go_wp2
    go_loopw [3] (fun i wr => ∃ k : Nat, k ≤ n ∧ i = .int .i64 k ∧ Below w.heap.size w wr) (fun i _ => n - (intOf i).toNat)
    case atStart => exact ⟨0, Nat.zero_le _, rfl, Below.refl _ _⟩
    case round =>
      obtain ⟨k, hkn, rfl, hb⟩ := hrel
      by_cases hlt : k < n
      · have e0 := own_cellV (own_below hv hb (Nat.le_refl _)) k hlt
        have rk := own_below (HV.out k hlt) hb (Nat.le_refl _)
        have hx := HN.out k hlt
        obtain ⟨len, hlen⟩ : ∃ len, len = N k := ⟨_, rfl⟩
        rw [← hlen] at rk hx
        obtain ⟨a1, c1, f1, _, _⟩ := own_form rk
        rw [f1] at e0 rk
        clear f1 hlen
        have hml := marksI_length k 0 len
        have HM := Lib.hid hml
        clear hml
        go_wp2
        go_region_held3 (fun w' => w'.cell? ⟨ga, k, none⟩ = some (.slice a1 len c1)) (first | exact e0 | exact e2)
          (first
            | (go_at_call 122; go_must (refine (markInts_any (k : Int) 0 (len : Int) _ (by omega) (by omega) (by omega) (by omega) (by omega) (by omega)).mono ?_; rintro e w2 ⟨m, rfl, hm, hb2⟩; simp only [Int.toNat_natCast, Int.toNat_zero] at hm; have rk2 := own_below (by exact rk) hb2 (Nat.le_refl _); have e2 := (hb2.cell (p := ⟨ga, k, none⟩) (by exact World.block_lt_of_cell? _ _ e0)).trans (by exact e0)))
            | (go_at_call 89; go_must (refine (sameInts_any (marksI k 0 len) (by rw [HM.out]; omega) _ _ _ _ _ (by rw [HM.out]; exact rk2) (by rw [HM.out]; exact hm)).mono ?_; rintro e w3 ⟨rfl, q, rfl⟩)))
        have hb3 : Below w.heap.size w (w2.drewN q) := below_drewN (hb.drew.trans (hb2.mono hb.size)) q
        clear hb2
        go_wp2
        go_roundw
        case rel => exact ⟨k + 1, hlt, by go_num, hb3⟩
        case measure => simp [intOf]; omega
      · obtain rfl : k = n := by omega
        go_wp2
        go_ret
        exact ⟨rfl, hb⟩
end Go.Proofs.Ytdddbljkhhbdlaa
namespace Go.Proofs.Ytdddbljkhhbdlaa
open Go.RowKit

theorem stillInts_none (w : World) (bb : Nat) (hc : w.cell? ⟨bb, 0, none⟩ = some (.slice none 0 0)) : Calls Try.prog 50 #[.pointer (some ⟨bb, 0, none⟩)] w fun e w' => e = .returned (.bool true) ∧ w = w' := by
  go_enter Try.func50, Try.ntmps50
  go_wp2
  refine wp_loop_rounds 1 ?_
  rw [rounds_succ]
  go_wp2
  go_ret
  exact ⟨rfl, rfl⟩
theorem putInts_none (w : World) (bb : Nat) (hc : w.cell? ⟨bb, 0, none⟩ = some (.slice none 0 0)) : Calls Try.prog 58 #[.pointer (some ⟨bb, 0, none⟩)] w fun e w' => e = .returned (.tuple #[]) ∧ w = w' := by
  go_enter Try.func58, Try.ntmps58
  go_wp2
  refine wp_loop_rounds 1 ?_
  rw [rounds_succ]
  go_wp2
  go_end0
  exact ⟨rfl, rfl⟩
theorem growInts_none (w : World) (bb : Nat) (hc : w.cell? ⟨bb, 0, none⟩ = some (.slice none 0 0)) : Calls Try.prog 66 #[.pointer (some ⟨bb, 0, none⟩)] w fun e w' => e = .returned (.slice none 0 0) ∧ w = w' := by
  go_enter Try.func66, Try.ntmps66
  go_wp2
  refine wp_loop_rounds 1 ?_
  rw [rounds_succ]
  go_wp2
  go_ret
  exact ⟨rfl, rfl⟩
theorem markedInts_none (w : World) : Calls Try.prog 74 #[.slice none 0 0] w fun e w' => e = .returned (.bool true) ∧ w = w' := by
  go_enter Try.func74, Try.ntmps74
  go_wp2
  refine wp_loop_rounds 1 ?_
  rw [rounds_succ]
  go_wp2
  go_ret
  exact ⟨rfl, rfl⟩

theorem stillPairs_none (w : World) (bb : Nat) (hc : w.cell? ⟨bb, 2, none⟩ = some (.slice none 0 0)) : Calls Try.prog 51 #[.pointer (some ⟨bb, 0, none⟩)] w fun e w' => e = .returned (.bool true) ∧ w = w' := by
  go_enter Try.func51, Try.ntmps51
  go_wp2
  refine wp_loop_rounds 1 ?_
  rw [rounds_succ]
  go_wp2
  go_ret
  exact ⟨rfl, rfl⟩
theorem putPairs_none (w : World) (bb : Nat) (hc : w.cell? ⟨bb, 2, none⟩ = some (.slice none 0 0)) : Calls Try.prog 59 #[.pointer (some ⟨bb, 0, none⟩)] w fun e w' => e = .returned (.tuple #[]) ∧ w = w' := by
  go_enter Try.func59, Try.ntmps59
  go_wp2
  refine wp_loop_rounds 1 ?_
  rw [rounds_succ]
  go_wp2
  go_end0
  exact ⟨rfl, rfl⟩
theorem growPairs_none (w : World) (bb : Nat) (hc : w.cell? ⟨bb, 2, none⟩ = some (.slice none 0 0)) : Calls Try.prog 67 #[.pointer (some ⟨bb, 0, none⟩)] w fun e w' => e = .returned (.slice none 0 0) ∧ w = w' := by
  go_enter Try.func67, Try.ntmps67
  go_wp2
  refine wp_loop_rounds 1 ?_
  rw [rounds_succ]
  go_wp2
  go_ret
  exact ⟨rfl, rfl⟩
theorem markedPairs_none (w : World) : Calls Try.prog 75 #[.slice none 0 0] w fun e w' => e = .returned (.bool true) ∧ w = w' := by
  go_enter Try.func75, Try.ntmps75
  go_wp2
  refine wp_loop_rounds 1 ?_
  rw [rounds_succ]
  go_wp2
  go_ret
  exact ⟨rfl, rfl⟩

theorem stillBools_none (w : World) (bb : Nat) (hc : w.cell? ⟨bb, 4, none⟩ = some (.slice none 0 0)) : Calls Try.prog 52 #[.pointer (some ⟨bb, 0, none⟩)] w fun e w' => e = .returned (.bool true) ∧ w = w' := by
  go_enter Try.func52, Try.ntmps52
  go_wp2
  refine wp_loop_rounds 1 ?_
  rw [rounds_succ]
  go_wp2
  go_ret
  exact ⟨rfl, rfl⟩
theorem putBools_none (w : World) (bb : Nat) (hc : w.cell? ⟨bb, 4, none⟩ = some (.slice none 0 0)) : Calls Try.prog 60 #[.pointer (some ⟨bb, 0, none⟩)] w fun e w' => e = .returned (.tuple #[]) ∧ w = w' := by
  go_enter Try.func60, Try.ntmps60
  go_wp2
  refine wp_loop_rounds 1 ?_
  rw [rounds_succ]
  go_wp2
  go_end0
  exact ⟨rfl, rfl⟩
theorem growBools_none (w : World) (bb : Nat) (hc : w.cell? ⟨bb, 4, none⟩ = some (.slice none 0 0)) : Calls Try.prog 68 #[.pointer (some ⟨bb, 0, none⟩)] w fun e w' => e = .returned (.slice none 0 0) ∧ w = w' := by
  go_enter Try.func68, Try.ntmps68
  go_wp2
  refine wp_loop_rounds 1 ?_
  rw [rounds_succ]
  go_wp2
  go_ret
  exact ⟨rfl, rfl⟩
theorem markedBools_none (w : World) : Calls Try.prog 76 #[.slice none 0 0] w fun e w' => e = .returned (.bool true) ∧ w = w' := by
  go_enter Try.func76, Try.ntmps76
  go_wp2
  refine wp_loop_rounds 1 ?_
  rw [rounds_succ]
  go_wp2
  go_ret
  exact ⟨rfl, rfl⟩

theorem stillTraces_none (w : World) (bb : Nat) (hc : w.cell? ⟨bb, 6, none⟩ = some (.slice none 0 0)) : Calls Try.prog 53 #[.pointer (some ⟨bb, 0, none⟩)] w fun e w' => e = .returned (.bool true) ∧ w = w' := by
  go_enter Try.func53, Try.ntmps53
  go_wp2
  refine wp_loop_rounds 1 ?_
  rw [rounds_succ]
  go_wp2
  go_ret
  exact ⟨rfl, rfl⟩
theorem putTraces_none (w : World) (bb : Nat) (hc : w.cell? ⟨bb, 6, none⟩ = some (.slice none 0 0)) : Calls Try.prog 61 #[.pointer (some ⟨bb, 0, none⟩)] w fun e w' => e = .returned (.tuple #[]) ∧ w = w' := by
  go_enter Try.func61, Try.ntmps61
  go_wp2
  refine wp_loop_rounds 1 ?_
  rw [rounds_succ]
  go_wp2
  go_end0
  exact ⟨rfl, rfl⟩
theorem growTraces_none (w : World) (bb : Nat) (hc : w.cell? ⟨bb, 6, none⟩ = some (.slice none 0 0)) : Calls Try.prog 69 #[.pointer (some ⟨bb, 0, none⟩)] w fun e w' => e = .returned (.slice none 0 0) ∧ w = w' := by
  go_enter Try.func69, Try.ntmps69
  go_wp2
  refine wp_loop_rounds 1 ?_
  rw [rounds_succ]
  go_wp2
  go_ret
  exact ⟨rfl, rfl⟩
theorem markedTraces_none (w : World) : Calls Try.prog 77 #[.slice none 0 0] w fun e w' => e = .returned (.bool true) ∧ w = w' := by
  go_enter Try.func77, Try.ntmps77
  go_wp2
  refine wp_loop_rounds 1 ?_
  rw [rounds_succ]
  go_wp2
  go_ret
  exact ⟨rfl, rfl⟩

theorem stillMats_none (w : World) (bb : Nat) (hc : w.cell? ⟨bb, 8, none⟩ = some (.slice none 0 0)) : Calls Try.prog 54 #[.pointer (some ⟨bb, 0, none⟩)] w fun e w' => e = .returned (.bool true) ∧ w = w' := by
  go_enter Try.func54, Try.ntmps54
  go_wp2
  refine wp_loop_rounds 1 ?_
  rw [rounds_succ]
  go_wp2
  go_ret
  exact ⟨rfl, rfl⟩
theorem putMats_none (w : World) (bb : Nat) (hc : w.cell? ⟨bb, 8, none⟩ = some (.slice none 0 0)) : Calls Try.prog 62 #[.pointer (some ⟨bb, 0, none⟩)] w fun e w' => e = .returned (.tuple #[]) ∧ w = w' := by
  go_enter Try.func62, Try.ntmps62
  go_wp2
  refine wp_loop_rounds 1 ?_
  rw [rounds_succ]
  go_wp2
  go_end0
  exact ⟨rfl, rfl⟩
theorem growMats_none (w : World) (bb : Nat) (hc : w.cell? ⟨bb, 8, none⟩ = some (.slice none 0 0)) : Calls Try.prog 70 #[.pointer (some ⟨bb, 0, none⟩)] w fun e w' => e = .returned (.slice none 0 0) ∧ w = w' := by
  go_enter Try.func70, Try.ntmps70
  go_wp2
  refine wp_loop_rounds 1 ?_
  rw [rounds_succ]
  go_wp2
  go_ret
  exact ⟨rfl, rfl⟩
theorem markedMats_none (w : World) : Calls Try.prog 78 #[.slice none 0 0] w fun e w' => e = .returned (.bool true) ∧ w = w' := by
  go_enter Try.func78, Try.ntmps78
  go_wp2
  refine wp_loop_rounds 1 ?_
  rw [rounds_succ]
  go_wp2
  go_ret
  exact ⟨rfl, rfl⟩

theorem stillNodes_none (w : World) (bb : Nat) (hc : w.cell? ⟨bb, 10, none⟩ = some (.slice none 0 0)) : Calls Try.prog 55 #[.pointer (some ⟨bb, 0, none⟩)] w fun e w' => e = .returned (.bool true) ∧ w = w' := by
  go_enter Try.func55, Try.ntmps55
  go_wp2
  refine wp_loop_rounds 1 ?_
  rw [rounds_succ]
  go_wp2
  go_ret
  exact ⟨rfl, rfl⟩
theorem putNodes_none (w : World) (bb : Nat) (hc : w.cell? ⟨bb, 10, none⟩ = some (.slice none 0 0)) : Calls Try.prog 63 #[.pointer (some ⟨bb, 0, none⟩)] w fun e w' => e = .returned (.tuple #[]) ∧ w = w' := by
  go_enter Try.func63, Try.ntmps63
  go_wp2
  refine wp_loop_rounds 1 ?_
  rw [rounds_succ]
  go_wp2
  go_end0
  exact ⟨rfl, rfl⟩
theorem growNodes_none (w : World) (bb : Nat) (hc : w.cell? ⟨bb, 10, none⟩ = some (.slice none 0 0)) : Calls Try.prog 71 #[.pointer (some ⟨bb, 0, none⟩)] w fun e w' => e = .returned (.slice none 0 0) ∧ w = w' := by
  go_enter Try.func71, Try.ntmps71
  go_wp2
  refine wp_loop_rounds 1 ?_
  rw [rounds_succ]
  go_wp2
  go_ret
  exact ⟨rfl, rfl⟩
theorem markedNodes_none (w : World) : Calls Try.prog 79 #[.slice none 0 0] w fun e w' => e = .returned (.bool true) ∧ w = w' := by
  go_enter Try.func79, Try.ntmps79
  go_wp2
  refine wp_loop_rounds 1 ?_
  rw [rounds_succ]
  go_wp2
  go_ret
  exact ⟨rfl, rfl⟩

theorem stillAccs_none (w : World) (bb : Nat) (hc : w.cell? ⟨bb, 12, none⟩ = some (.slice none 0 0)) : Calls Try.prog 56 #[.pointer (some ⟨bb, 0, none⟩)] w fun e w' => e = .returned (.bool true) ∧ w = w' := by
  go_enter Try.func56, Try.ntmps56
  go_wp2
  refine wp_loop_rounds 1 ?_
  rw [rounds_succ]
  go_wp2
  go_ret
  exact ⟨rfl, rfl⟩
theorem putAccs_none (w : World) (bb : Nat) (hc : w.cell? ⟨bb, 12, none⟩ = some (.slice none 0 0)) : Calls Try.prog 64 #[.pointer (some ⟨bb, 0, none⟩)] w fun e w' => e = .returned (.tuple #[]) ∧ w = w' := by
  go_enter Try.func64, Try.ntmps64
  go_wp2
  refine wp_loop_rounds 1 ?_
  rw [rounds_succ]
  go_wp2
  go_end0
  exact ⟨rfl, rfl⟩
theorem growAccs_none (w : World) (bb : Nat) (hc : w.cell? ⟨bb, 12, none⟩ = some (.slice none 0 0)) : Calls Try.prog 72 #[.pointer (some ⟨bb, 0, none⟩)] w fun e w' => e = .returned (.slice none 0 0) ∧ w = w' := by
  go_enter Try.func72, Try.ntmps72
  go_wp2
  refine wp_loop_rounds 1 ?_
  rw [rounds_succ]
  go_wp2
  go_ret
  exact ⟨rfl, rfl⟩
theorem markedAccs_none (w : World) : Calls Try.prog 80 #[.slice none 0 0] w fun e w' => e = .returned (.bool true) ∧ w = w' := by
  go_enter Try.func80, Try.ntmps80
  go_wp2
  refine wp_loop_rounds 1 ?_
  rw [rounds_succ]
  go_wp2
  go_ret
  exact ⟨rfl, rfl⟩

theorem stillMails_none (w : World) (bb : Nat) (hc : w.cell? ⟨bb, 14, none⟩ = some (.slice none 0 0)) : Calls Try.prog 57 #[.pointer (some ⟨bb, 0, none⟩)] w fun e w' => e = .returned (.bool true) ∧ w = w' := by
  go_enter Try.func57, Try.ntmps57
  go_wp2
  refine wp_loop_rounds 1 ?_
  rw [rounds_succ]
  go_wp2
  go_ret
  exact ⟨rfl, rfl⟩
theorem putMails_none (w : World) (bb : Nat) (hc : w.cell? ⟨bb, 14, none⟩ = some (.slice none 0 0)) : Calls Try.prog 65 #[.pointer (some ⟨bb, 0, none⟩)] w fun e w' => e = .returned (.tuple #[]) ∧ w = w' := by
  go_enter Try.func65, Try.ntmps65
  go_wp2
  refine wp_loop_rounds 1 ?_
  rw [rounds_succ]
  go_wp2
  go_end0
  exact ⟨rfl, rfl⟩
theorem growMails_none (w : World) (bb : Nat) (hc : w.cell? ⟨bb, 14, none⟩ = some (.slice none 0 0)) : Calls Try.prog 73 #[.pointer (some ⟨bb, 0, none⟩)] w fun e w' => e = .returned (.slice none 0 0) ∧ w = w' := by
  go_enter Try.func73, Try.ntmps73
  go_wp2
  refine wp_loop_rounds 1 ?_
  rw [rounds_succ]
  go_wp2
  go_ret
  exact ⟨rfl, rfl⟩
theorem markedMails_none (w : World) : Calls Try.prog 81 #[.slice none 0 0] w fun e w' => e = .returned (.bool true) ∧ w = w' := by
  go_enter Try.func81, Try.ntmps81
  go_wp2
  refine wp_loop_rounds 1 ?_
  rw [rounds_succ]
  go_wp2
  go_ret
  exact ⟨rfl, rfl⟩

end Go.Proofs.Ytdddbljkhhbdlaa
namespace Go.Proofs.Ytdddbljkhhbdlaa
open Go.RowKit

theorem GrowI.rowAt {w : World} {B n k : Nat} {O v0 : Value} {V V' : Nat → Value} {N : Nat → Nat} (h : GrowI w B n k O v0 V V' N) : ∀ i, i < n → w.ownsRow B 3 1 (V i) (N i) (cellsI (marksI i 0 (N i))) := fun i hi => by
  have := h.base.row i hi
  rw [marksI_length] at this
  exact this

set_option maxRecDepth 100000 in
set_option maxHeartbeats 4000000 in
theorem apartInts_any (w : World) (bb : Nat) (v0 w0 : Value) (hk : BookAt w bb v0 w0 (.slice none 0 0) (.slice none 0 0)) (B n : Nat) (hn : n ≤ 400) (hB : B ≤ w.heap.size) (V W : Nat → Value) (X : Nat → List Int)
    (hv : w.ownsRow B 43 1 v0 n ((List.range n).map V)) (hw : w.ownsRow B 43 1 w0 n ((List.range n).map W))
    (hV : Lists cellsI 3 1 w B n V X) (hW : Lists cellsI 3 1 w B n W X) (hX : ∀ i, i < n → (X i).length ≤ 90000) :
    Calls Try.prog 16 #[.pointer (some ⟨bb, 0, none⟩)] w fun e w' => e = .returned (.bool true) ∧ Below B w w' := by
  have HX := Lib.hid hX
  clear hX
  have d0 := hk.c0
  have d2 := hk.c2
  have d4 := hk.c4
  have d6 := hk.c6
  have d8 := hk.c8
  have d10 := hk.c10
  have d12 := hk.c12
  have d14 := hk.c14
  have tok1 : True := trivial
  go_enter Try.func16, Try.ntmps16
  go_wp2_with (first
    | (go_at_call 50; refine (stillInts_any _ _ _ _ _ _ hk B n hn V W X hv hw hV hW (fun i hi => Nat.le_trans (HX.out i hi) (by decide))).mono ?_; rintro e w' ⟨rfl, q, rfl⟩)
    | (go_at_call 58; refine (putInts_any _ _ _ _ _ _ (by exact hk.below (below_drewN (Below.refl _ _) _)) B n hn (by exact hB) V X (by exact hv) (by exact hV.below (below_drewN (Below.refl _ _) _)) (fun i hi => Nat.le_trans (HX.out i hi) (by decide))).mono ?_; rintro e w2 ⟨rfl, hk2, hv2, hV2, hb2⟩; have e0 := hk2.c0; have e2 := hk2.c2; have e4 := hk2.c4; have e6 := hk2.c6; have e8 := hk2.c8; have e10 := hk2.c10; have e12 := hk2.c12; have e14 := hk2.c14; have hB2 : B ≤ w2.heap.size := Nat.le_trans hB hb2.size)
    | (go_at_call 66; refine (growInts_any _ _ _ _ _ _ hk2 B n hn hB2 V (fun i => (X i).length) hv2 hV2 (fun i hi => Nat.le_trans (HX.out i hi) (by decide))).mono ?_; rintro e w3 ⟨O, V', rfl, hG, hk3, hb3⟩; have f0 := hk3.c0; have f2 := hk3.c2; have f4 := hk3.c4; have f6 := hk3.c6; have f8 := hk3.c8; have f10 := hk3.c10; have f12 := hk3.c12; have f14 := hk3.c14)
    | (go_at_call 74; have _t := tok1; refine (markedInts_any _ B n hn _ V (fun i => (X i).length) hG.top hG.rowAt (fun i hi => Nat.le_trans (HX.out i hi) (by decide))).mono ?_; rintro e w4 ⟨rfl, hb4⟩; clear tok1; have hG4 := hG.below hb4; have hk4 := hk3.below hb4; have g0 := hk4.c0; have g2 := hk4.c2; have g4 := hk4.c4; have g6 := hk4.c6; have g8 := hk4.c8; have g10 := hk4.c10; have g12 := hk4.c12; have g14 := hk4.c14)
    | (go_at_call 74; refine (markedInts_any _ B n hn _ V' (fun i => (X i).length + 96) hG4.out hG4.rows (fun i hi => Nat.le_trans (Nat.add_le_add_right (HX.out i hi) 96) (by decide))).mono ?_; rintro e w5 ⟨rfl, hb5⟩; have hk5 := hk4.below hb5; have h0 := hk5.c0; have h2 := hk5.c2; have h4 := hk5.c4; have h6 := hk5.c6; have h8 := hk5.c8; have h10 := hk5.c10; have h12 := hk5.c12; have h14 := hk5.c14)
    | (go_at_call 51; refine (stillPairs_none _ _ (by first | exact f2 | exact e2 | exact d2)).mono ?_; rintro e w' ⟨rfl, rfl⟩)
    | (go_at_call 59; refine (putPairs_none _ _ (by first | exact f2 | exact e2 | exact d2)).mono ?_; rintro e w' ⟨rfl, rfl⟩)
    | (go_at_call 67; refine (growPairs_none _ _ (by first | exact f2 | exact e2 | exact d2)).mono ?_; rintro e w' ⟨rfl, rfl⟩)
    | (go_at_call 75; refine (markedPairs_none _).mono ?_; rintro e w' ⟨rfl, rfl⟩)
    | (go_at_call 52; refine (stillBools_none _ _ (by first | exact f4 | exact e4 | exact d4)).mono ?_; rintro e w' ⟨rfl, rfl⟩)
    | (go_at_call 60; refine (putBools_none _ _ (by first | exact f4 | exact e4 | exact d4)).mono ?_; rintro e w' ⟨rfl, rfl⟩)
    | (go_at_call 68; refine (growBools_none _ _ (by first | exact f4 | exact e4 | exact d4)).mono ?_; rintro e w' ⟨rfl, rfl⟩)
    | (go_at_call 76; refine (markedBools_none _).mono ?_; rintro e w' ⟨rfl, rfl⟩)
    | (go_at_call 53; refine (stillTraces_none _ _ (by first | exact f6 | exact e6 | exact d6)).mono ?_; rintro e w' ⟨rfl, rfl⟩)
    | (go_at_call 61; refine (putTraces_none _ _ (by first | exact f6 | exact e6 | exact d6)).mono ?_; rintro e w' ⟨rfl, rfl⟩)
    | (go_at_call 69; refine (growTraces_none _ _ (by first | exact f6 | exact e6 | exact d6)).mono ?_; rintro e w' ⟨rfl, rfl⟩)
    | (go_at_call 77; refine (markedTraces_none _).mono ?_; rintro e w' ⟨rfl, rfl⟩)
    | (go_at_call 54; refine (stillMats_none _ _ (by first | exact f8 | exact e8 | exact d8)).mono ?_; rintro e w' ⟨rfl, rfl⟩)
    | (go_at_call 62; refine (putMats_none _ _ (by first | exact f8 | exact e8 | exact d8)).mono ?_; rintro e w' ⟨rfl, rfl⟩)
    | (go_at_call 70; refine (growMats_none _ _ (by first | exact f8 | exact e8 | exact d8)).mono ?_; rintro e w' ⟨rfl, rfl⟩)
    | (go_at_call 78; refine (markedMats_none _).mono ?_; rintro e w' ⟨rfl, rfl⟩)
    | (go_at_call 55; refine (stillNodes_none _ _ (by first | exact f10 | exact e10 | exact d10)).mono ?_; rintro e w' ⟨rfl, rfl⟩)
    | (go_at_call 63; refine (putNodes_none _ _ (by first | exact f10 | exact e10 | exact d10)).mono ?_; rintro e w' ⟨rfl, rfl⟩)
    | (go_at_call 71; refine (growNodes_none _ _ (by first | exact f10 | exact e10 | exact d10)).mono ?_; rintro e w' ⟨rfl, rfl⟩)
    | (go_at_call 79; refine (markedNodes_none _).mono ?_; rintro e w' ⟨rfl, rfl⟩)
    | (go_at_call 56; refine (stillAccs_none _ _ (by first | exact f12 | exact e12 | exact d12)).mono ?_; rintro e w' ⟨rfl, rfl⟩)
    | (go_at_call 64; refine (putAccs_none _ _ (by first | exact f12 | exact e12 | exact d12)).mono ?_; rintro e w' ⟨rfl, rfl⟩)
    | (go_at_call 72; refine (growAccs_none _ _ (by first | exact f12 | exact e12 | exact d12)).mono ?_; rintro e w' ⟨rfl, rfl⟩)
    | (go_at_call 80; refine (markedAccs_none _).mono ?_; rintro e w' ⟨rfl, rfl⟩)
    | (go_at_call 57; refine (stillMails_none _ _ (by first | exact f14 | exact e14 | exact d14)).mono ?_; rintro e w' ⟨rfl, rfl⟩)
    | (go_at_call 65; refine (putMails_none _ _ (by first | exact f14 | exact e14 | exact d14)).mono ?_; rintro e w' ⟨rfl, rfl⟩)
    | (go_at_call 73; refine (growMails_none _ _ (by first | exact f14 | exact e14 | exact d14)).mono ?_; rintro e w' ⟨rfl, rfl⟩)
    | (go_at_call 81; refine (markedMails_none _).mono ?_; rintro e w' ⟨rfl, rfl⟩))
  go_ret
  have hB3 : B ≤ w3.heap.size := Nat.le_trans hB2 hb3.size
  have hB4 : B ≤ w4.heap.size := Nat.le_trans hB3 hb4.size
  exact ⟨rfl, ((((below_drewN (Below.refl B w) q).trans hb2).trans hb3).trans (hb4.mono hB3)).trans (hb5.mono hB4)⟩
end Go.Proofs.Ytdddbljkhhbdlaa
