/-
The contract of rng's shuffled: an order of n things.
-/
import Derived.Test.YtdddbljkhhbdlaaMixed
import Derived.Test.YtdddbljkhhbdlaaBelow
import Derived.Test.YtdddbljkhhbdlaaPut
import Derived.BigRegion
namespace Go.Proofs.Ytdddbljkhhbdlaa
open Go.RowKit

theorem cell?_setCell_some {w : World} {p q : Addr} {x v : Value} (h : w.cell? q = some v) : ∃ v', (w.setCell p x).cell? q = some v' := by
  by_cases e : p = q
  · subst e; exact ⟨x, World.cell?_setCell_same w p x h⟩
  · exact ⟨v, (World.cell?_setCell_other w p q x e).trans h⟩
theorem info3 : (Try.prog.info? 3).map (fun i => (i.zero, i.size, i.bytes)) = some (some (.int .i64 0), 1, 8) := by kernel_rfl
theorem grownBy_some {a b : World} {r : Option Nat} (h : a.grownBy b none) : a.grownBy b r := ⟨h.os, h.tape, h.output, h.size, fun i hi _ => h.block i hi (by simp)⟩

theorem made_ints (n : Nat) : (madeCells (Value.int IntKind.i64 0).cells (n * 1)).toList = cellsI (List.replicate n 0) := by
  rw [Nat.mul_one]
  have e : (Value.int IntKind.i64 0).cells = #[.int .i64 0] := rfl
  rw [e, toList_madeCells_one]
  simp [cellsI]
theorem grownBy_new {a b : World} {r : Option Nat} (h : a.grownBy b r) {g : Nat} (hg : a.heap.size ≤ g) (j : Nat) (v : Value) : a.grownBy (b.setCell ⟨g, j, none⟩ v) r :=
  ⟨h.os, h.tape, h.output, by simpa [World.setCell] using h.size, fun i hi hne => (heap_setCell b g j v i (by omega)).trans (h.block i hi hne)⟩

theorem below_at (w : World) (g : Nat) (s t a : Int) (x : Int) (n : Nat) (hx : x = n) (h0 : 0 < n) (h1 : n ≤ 100000) (hd : DrawAt w g s t a) :
    Calls Try.prog 180 #[.pointer (some ⟨g, 0, none⟩), .int .i64 x] w fun e w' => ∃ j b, e = .returned (.int .i64 (j : Nat)) ∧ Takes s t n a j b ∧ DrawAt w' g s t b ∧ w.grownBy w' (some g) := by
  subst hx
  exact below_any w g s t a n h0 h1 hd

theorem own_drew {w : World} {b : Nat} {e : TypeId} {s : Nat} {v : Value} {n : Nat} {xs : List Value} (h : w.ownsRow b e s v n xs) : w.drew.ownsRow b e s v n xs := h

set_option maxRecDepth 100000 in
set_option maxHeartbeats 2000000 in
theorem shuffled_any (w : World) (g : Nat) (s t a : Int) (n : Nat) (h0 : 0 < n) (h1 : n ≤ 10000) (hd : DrawAt w g s t a) :
    Calls Try.prog 157 #[.pointer (some ⟨g, 0, none⟩), .int .i64 n] w fun e w' => ∃ b l, e = .returned (.slice (some ⟨w.heap.size, 0, none⟩) n n) ∧ Mixed s t n a (n - 1) b l ∧ DrawAt w' g s t b ∧
      w'.ownsRow w.heap.size 3 1 (.slice (some ⟨w.heap.size, 0, none⟩) n n) n (cellsI l) ∧ w.grownBy w' (some g) := by
  obtain ⟨i0, hi, hz0, hz1, hz2⟩ := info_parts info3
  have hgw := hd.lt
  go_enter Try.func157, Try.ntmps157
  go_wp2_with (refine wpList_make_full w rfl _ _ _ rfl w.heap.size 3 i0 _ 1 (by kernel_rfl) hi hz0 hz1 .i64 .i64 (n : Int) (n : Int) n rfl rfl rfl rfl (by rw [hz2]; omega) (by unfold maxLen; omega) (Nat.le_refl _) ?_; intro w1 hown hg1)
  rw [made_ints] at hown
  have hg1' : w.grownBy w1 (some g) := grownBy_some hg1
  have hd1 := hd.grown hg1 (by simp)
  clear hd hg1
  go_loopw [6, 14] (fun _ i wr => ∃ k : Nat, k ≤ n ∧ i = .int .i64 k ∧ wr.ownsRow w.heap.size 3 1 (.slice (some ⟨w.heap.size, 0, none⟩) n n) n (cellsI ((List.range k).map (fun (i : Nat) => (i : Int)) ++ (List.replicate n (0 : Int)).drop k)) ∧ DrawAt wr g s t a ∧ w.grownBy wr (some g)) (fun _ i _ => n - (intOf i).toNat)
  case atStart => exact ⟨0, Nat.zero_le _, rfl, by simpa using hown, hd1, hg1'⟩
  case round =>
    obtain ⟨k, hk, rfl, hr, hdr, hgr⟩ := hrel
    by_cases hlt : k < n
    · have hl : ((List.range k).map (fun (i : Nat) => (i : Int)) ++ (List.replicate n (0 : Int)).drop k).length = n := by simp; omega
      have hc := hr.cellAt k (by omega)
      rw [cellsI_at _ _ (by omega)] at hc
      have hf := hr.frozenAt k
      go_wp2
      go_roundw
      case rel =>
        have hS := hr.stored k (.int .i64 k)
        rw [cellsI_set, set_step _ _ _ (by simp; omega)] at hS
        refine ⟨k + 1, hlt, by go_num, hS.1, hdr.grown hS.2 ?_, ?_⟩
        · simp; omega
        · exact grownBy_new hgr (Nat.le_refl _) _ _
      case measure => simp [intOf]; omega
    · obtain rfl : k = n := by omega
      clear hown hd1 hg1'
      have hr2 : wr.ownsRow w.heap.size 3 1 (.slice (some ⟨w.heap.size, 0, none⟩) k k) k (cellsI (idL k)) := by
        have := hr
        rw [List.drop_of_length_le (by simp), List.append_nil] at this
        exact this
      clear hr
      go_wp2
      go_loopw [7, 8, 9, 25] (fun _ _ _ i wr => ∃ (m : Nat) (b : Int) (l : List Int), m ≤ k - 1 ∧ i = .int .i64 m ∧ Mixed s t k a m b l ∧ wr.ownsRow w.heap.size 3 1 (.slice (some ⟨w.heap.size, 0, none⟩) k k) k (cellsI l) ∧ DrawAt wr g s t b ∧ w.grownBy wr (some g)) (fun _ _ _ i _ => k - (intOf i).toNat)
      case atStart => exact ⟨0, a, idL k, Nat.zero_le _, rfl, .zero, hr2, hdr, hgr⟩
      case round =>
        obtain ⟨m, b, l, hm, rfl, hM, hr, hd2, hg2⟩ := hrel
        clear hr2 hdr hgr
        by_cases hml : m < k - 1
        · go_wp2_with fail
          refine (below_at _ g s t b _ (k - m) (by omega) (by omega) (by omega) hd2).mono ?_
          rintro e w2 ⟨j, c, rfl, hT, hd3, hg3⟩
          have hll := hM.length
          have hjl := hT.lt (by omega)
          have hr3 := hr.kept hg3 (.inr (by simp [Value.ownBlock]; omega))
          have hg4 := grownBy_trans hg2 hg3
          have hgj : (j : Int) < k := by omega
          clear hr hd2 hg2 hg3
          obtain ⟨i, hik⟩ : ∃ i : Nat, (i : Int) = (k : Int) - 1 - m := ⟨k - 1 - m, by omega⟩
          have hi1 : i < k := by omega
          have hi2 : k - 1 - m = i := by omega
          have hi3 : (i : Int) < k := by omega
          have hc := hr3.cellAt i (by omega)
          rw [cellsI_at _ _ (by omega)] at hc
          have hf := hr3.frozenAt i
          have hc2 := hr3.cellAt j (by omega)
          rw [cellsI_at _ _ (by omega)] at hc2
          have hf2 := hr3.frozenAt j
          obtain ⟨x, hx⟩ : ∃ x, x = l.getD i 0 := ⟨_, rfl⟩
          obtain ⟨y, hy⟩ : ∃ y, y = l.getD j 0 := ⟨_, rfl⟩
          rw [← hx] at hc
          rw [← hy] at hc2
          have HX := Lib.hid hx
          have HY := Lib.hid hy
          clear hx hy
          obtain ⟨v', hy'⟩ := cell?_setCell_some (w := w2) (p := ⟨w.heap.size, i, none⟩) (x := .int .i64 y) (q := ⟨w.heap.size, j, none⟩) (v := .int .i64 y) (by exact hc2)
          go_wp2_with fail
          rw [← hik]
          have HI := Lib.hid hik
          have HI2 := Lib.hid hi2
          clear hik hi2
          go_region
          go_wp2
          go_roundw
          case rel =>
            have hS1 := hr3.stored i (.int .i64 y)
            have hS2 := hS1.1.stored j (.int .i64 x)
            rw [cellsI_set, cellsI_set, HX.out, HY.out] at hS2
            rw [HX.out, HY.out]
            refine ⟨m + 1, c, swapL l i j, by omega, by go_num, ?_, ?_, ?_, ?_⟩
            · have := Mixed.step m b l j c hM (by omega) hT
              rw [HI2.out] at this
              exact this
            · exact own_drew hS2.1
            · have hd4 := (hd3.grown (grownBy_setCell w2 w.heap.size i (.int .i64 (l.getD j 0))) (by simp; omega)).grown (grownBy_setCell _ w.heap.size j (.int .i64 (l.getD i 0))) (by simp; omega)
              exact ⟨hd4.block⟩
            · have := grownBy_new (grownBy_new hg4 (Nat.le_refl _) i (.int .i64 (l.getD j 0))) (Nat.le_refl _) j (.int .i64 (l.getD i 0))
              exact ⟨this.os, this.tape, this.output, this.size, this.block⟩
          case measure => simp [intOf]; omega
        · obtain rfl : m = k - 1 := by omega
          go_wp2
          go_ret
          exact ⟨b, l, rfl, hM, hd2, hr, hg2⟩
end Go.Proofs.Ytdddbljkhhbdlaa
