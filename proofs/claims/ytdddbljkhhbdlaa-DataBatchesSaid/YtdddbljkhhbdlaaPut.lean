/-
putInts: each list of the book is marked.
-/
import Derived.Test.YtdddbljkhhbdlaaBook
import Derived.StillTailTactics
namespace Go.Proofs.Ytdddbljkhhbdlaa
open Go.RowKit

theorem own_rowV_ne {w : World} {B b : Nat} {V : Nat → Value} {v0 vk : Value} {n len g cap : Nat} {xs : List Value} (hv : w.ownsRow B 43 1 v0 n ((List.range n).map V))
    (hr : w.ownsRow b 3 1 vk len xs) (hvk : vk = .slice (some ⟨g, 0, none⟩) len cap) : v0.ownBlock = none ∨ v0.ownBlock ≠ some g := by
  have := own_other hv hr (by decide)
  rw [hvk] at this
  exact this

theorem cellsI_set (l : List Int) (j : Nat) (z : Int) : (cellsI l).set j (.int .i64 z) = cellsI (l.set j z) := by simp [cellsI, List.map_set]

theorem listsI_store {wr : World} {B n k g len c1 : Nat} {V : Nat → Value} {X : Nat → List Int} (hV : Lists cellsI 3 1 wr B n V X) (hk : k < n) (hVk : V k = .slice (some ⟨g, 0, none⟩) len c1)
    (hl : (X k).length = len) (j : Nat) (z : Int) :
    Lists cellsI 3 1 (wr.setCell ⟨g, j, none⟩ (.int .i64 z)).drew B n V (fun i => if i = k then (X k).set j z else X i) ∧ wr.grownBy (wr.setCell ⟨g, j, none⟩ (.int .i64 z)).drew (some g) := by
  have rk := hV.row k hk
  rw [hl, hVk] at rk
  have hs := rk.stored j (.int .i64 z)
  rw [cellsI_set] at hs
  have hg : wr.grownBy (wr.setCell ⟨g, j, none⟩ (.int .i64 z)).drew (some g) := ⟨hs.2.os, hs.2.tape, hs.2.output, hs.2.size, hs.2.block⟩
  refine ⟨hV.update hk hVk (by simp) hg ?_, hg⟩
  rw [hl, hVk]
  exact hs.1

set_option maxRecDepth 100000 in
set_option maxHeartbeats 2000000 in
theorem putInts_any (w : World) (bb : Nat) (v0 w0 v1 w1 : Value) (hk : BookAt w bb v0 w0 v1 w1) (B n : Nat) (hn : n ≤ 400) (hB : B ≤ w.heap.size) (V : Nat → Value) (X : Nat → List Int)
    (hv : w.ownsRow B 43 1 v0 n ((List.range n).map V))
    (hV : Lists cellsI 3 1 w B n V X) (hX : ∀ i, i < n → (X i).length ≤ 100000) :
    Calls Try.prog 58 #[.pointer (some ⟨bb, 0, none⟩)] w fun e w' => e = .returned (.tuple #[]) ∧ BookAt w' bb v0 w0 v1 w1 ∧ w'.ownsRow B 43 1 v0 n ((List.range n).map V) ∧
      Lists cellsI 3 1 w' B n V (fun i => marksI i 0 (X i).length) ∧ Below B w w' := by
  have HX := Lib.hid hX
  clear hX
  obtain ⟨aa, ca, rfl, na, fa⟩ := own_form hv
  by_cases h0 : n = 0
  · subst h0
    have d0 := hk.c0
    clear na fa
    go_enter Try.func58, Try.ntmps58
    go_wp2
    refine wp_loop_rounds 1 ?_
    rw [rounds_succ]
    go_wp2
    go_end0
    exact ⟨rfl, hk, hv, hV.congr (fun i hi => absurd hi (Nat.not_lt_zero _)), Below.refl _ _⟩
  · cases aa with
    | none => exact absurd (na rfl).1 h0
    | some da =>
    obtain ⟨ga, rfl, _, _⟩ := fa da rfl
    clear fa na
    go_enter Try.func58, Try.ntmps58
    go_wp2
    go_loopw [2] (fun i wr => ∃ k : Nat, k ≤ n ∧ i = .int .i64 k ∧ BookAt wr bb (.slice (some ⟨ga, 0, none⟩) n ca) w0 v1 w1 ∧ wr.ownsRow B 43 1 (.slice (some ⟨ga, 0, none⟩) n ca) n ((List.range n).map V) ∧
        Lists cellsI 3 1 wr B n V (fun i => if i < k then marksI i 0 (X i).length else X i) ∧ Below B w wr) (fun i _ => n - (intOf i).toNat)
    case atStart => exact ⟨0, Nat.zero_le _, rfl, hk, hv, hV.congr (fun i _ => by simp), Below.refl _ _⟩
    case round =>
      obtain ⟨k, hkn, rfl, hk1, hv1, hV1, hb1⟩ := hrel
      clear hk hv hV
      have d0 := hk1.c0
      by_cases hlt : k < n
      · have rk := hV1.row k hlt
        simp only [Nat.lt_irrefl, if_false] at rk
        have e0 := own_cellV hv1 k hlt
        have hx := HX.out k hlt
        obtain ⟨a1, c1, f1, z1, g1⟩ := own_form rk
        have F1 := Lib.hid f1
        obtain ⟨len, hlen⟩ : ∃ len, len = (X k).length := ⟨_, rfl⟩
        rw [f1, ← hlen] at e0
        rw [← hlen] at hx
        have HL := Lib.hid hlen
        clear f1 hlen
        go_wp2_with fail
        refine (markInts_any (k : Int) 0 (len : Int) _ (by omega) (by omega) (by omega) (by omega) (by omega) (by omega)).mono ?_
        rintro e w2 ⟨m, rfl, hm, hb2⟩
        simp only [Int.toNat_natCast, Int.toNat_zero] at hm
        have hk2 := hk1.below hb2
        have hv2 := own_below hv1 hb2 (Nat.le_refl _)
        have hV2 := hV1.below hb2
        have hb3 : Below B w w2 := hb1.trans (hb2.mono (by have := hb1.size; omega))
        obtain ⟨a2, c2, rfl, z2, g2⟩ := own_form hm
        have d2 := hk2.c0
        have hBr := hb1.size
        obtain ⟨Bm, hBm⟩ : ∃ Bm, Bm = wr.heap.size := ⟨_, rfl⟩
        rw [← hBm] at hm g1 g2 hBr
        have hw2 : Bm ≤ w2.heap.size := by rw [hBm]; exact hb2.size
        clear hk1 hv1 hV1 hb1 hb2 d0 e0 hBm
        go_wp2
        go_loopw [4] (fun x wi => ∃ j : Nat, j ≤ len ∧ x = .int .i64 j ∧ BookAt wi bb (.slice (some ⟨ga, 0, none⟩) n ca) w0 v1 w1 ∧ wi.ownsRow B 43 1 (.slice (some ⟨ga, 0, none⟩) n ca) n ((List.range n).map V) ∧
            wi.ownsRow Bm 3 1 (.slice a2 len c2) len (cellsI (marksI k 0 len)) ∧
            Lists cellsI 3 1 wi B n V (fun i => if i = k then (List.range j).map (markI k 0) ++ (X k).drop j else if i < k then marksI i 0 (X i).length else X i) ∧ Below B w wi) (fun x _ => len - (intOf x).toNat)
        case atStart => exact ⟨0, Nat.zero_le _, rfl, hk2, hv2, hm, hV2.congr (fun i _ => by by_cases e : i = k <;> simp [e]), hb3⟩
        case round =>
          obtain ⟨j, hj, rfl, hk4, hv4, hm4, hV4, hb4⟩ := hrel
          clear hk2 hv2 hV2 hm hb3 d2
          by_cases hjl : j < len
          · cases a1 with
            | none => exact absurd (z1 rfl).1 (by rw [← HL.out]; omega)
            | some d1 =>
            cases a2 with
            | none => exact absurd (z2 rfl).1 (by omega)
            | some d2 =>
            obtain ⟨g, rfl, hg0, hg1⟩ := g1 d1 rfl
            obtain ⟨g', rfl, hg0', _⟩ := g2 d2 rfl
            clear g1 g2 z1 z2
            have d0 := hk4.c0
            have e0 := own_cellV hv4 k hlt
            rw [F1.out, ← HL.out] at e0
            have e1 := own_cellI hm4 j hjl
            have hl' : ((List.range j).map (markI k 0) ++ (X k).drop j).length = len := by
              rw [HL.out]; simp; have := HL.out; omega
            have rk : wr.ownsRow B 3 1 (.slice (some ⟨g, 0, none⟩) len c1) len (cellsI ((List.range j).map (markI k 0) ++ (X k).drop j)) := by
              have := hV4.row k hlt
              rw [F1.out] at this
              simp only [if_true] at this
              rw [hl', ← HL.out] at this
              exact this
            have hc : wr.cell? ⟨g, j, none⟩ = some (.int .i64 (((List.range j).map (markI k 0) ++ (X k).drop j).getD j 0)) := by
              have := rk.cellAt j (by omega)
              rw [this, cellsI_at _ _ (by omega)]
            have hf := rk.frozenAt j
            go_wp2
            go_still_tail 13, (by kernel_rfl)
            change wpList _ _ _ _ _ wr.drew
            go_wp2
            go_roundw
            case rel =>
              have hz : (marksI k 0 len)[j]?.getD 0 = markI k 0 j := by simp [marksI, hjl]
              rw [hz]
              have hS := listsI_store hV4 hlt (k := k) (by rw [F1.out, ← HL.out]) (by simp only [if_true]; exact hl') j (markI k 0 j)
              refine ⟨j + 1, hjl, by go_num, hk4.grown hS.2 ?_, hv4.kept hS.2 ?_, hm4.kept hS.2 ?_, hS.1.congr ?_, hb4.grown hS.2 ?_ ?_⟩
              · exact hk4.ne rk (by decide)
              · exact own_rowV_ne hv4 rk rfl
              · right; simp [Value.ownBlock]; omega
              · intro i hi
                by_cases e : i = k
                · simp only [e, if_true]
                  exact set_step (markI k 0) (X k) j (by rw [← HL.out]; exact hjl)
                · simp only [e, if_false]
              · exact Nat.le_trans hB hb4.size
              · intro q hq; cases hq; exact hg0
            case measure => simp [intOf]; omega
          · obtain rfl : j = len := by omega
            go_wp2
            go_roundw
            case rel =>
              refine ⟨k + 1, hlt, by go_num, hk4, hv4, hV4.congr ?_, hb4⟩
              intro i hi
              by_cases e : i = k
              · subst e
                simp only [if_true, Nat.lt_succ_self]
                rw [HL.out, List.drop_length, List.append_nil]
                rfl
              · by_cases e2 : i < k
                · simp [e, e2, Nat.lt_succ_of_lt e2]
                · simp only [e, e2, if_false]
                  rw [if_neg (by omega)]
            case measure => simp [intOf]; omega
      · obtain rfl : k = n := by omega
        go_wp2
        go_end0
        exact ⟨rfl, hk1, hv1, hV1.congr (fun i hi => by simp [hi]), hb1⟩
end Go.Proofs.Ytdddbljkhhbdlaa
