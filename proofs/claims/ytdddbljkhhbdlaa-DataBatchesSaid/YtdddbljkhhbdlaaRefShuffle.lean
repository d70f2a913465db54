/-
The contracts of the document's own Shuffle, Order and Batches.
-/
import Derived.Test.YtdddbljkhhbdlaaRefBelow
import Derived.Deep.Cut
namespace Go.Proofs.Ytdddbljkhhbdlaa
open Go.RowKit

theorem refbelow_at (w : World) (s t a x : Int) (n : Nat) (hx : x = n) (h0 : 0 < n) (h1 : n ≤ 100000) :
    Calls Try.prog 158 #[drawV s t a, .int .i64 x] w fun e w' => ∃ j b, e = .returned (.tuple #[.int .i64 (j : Nat), drawV s t b]) ∧ Takes s t n a j b ∧ Below w.heap.size w w' := by
  subst hx
  exact refbelow_any w s t a n h0 h1

set_option maxRecDepth 100000 in
set_option maxHeartbeats 4000000 in
theorem refshuffle_any (w : World) (s t a : Int) (n : Nat) (h0 : 0 < n) (h1 : n ≤ 10000) :
    Calls Try.prog 112 #[drawV s t a, .int .i64 n] w fun e w' => ∃ v b l, e = .returned (.tuple #[v, drawV s t b]) ∧ Mixed s t n a (n - 1) b l ∧
      w'.ownsRow w.heap.size 3 1 v n (cellsI l) ∧ Below w.heap.size w w' := by
  unfold drawV
  go_enter Try.func112, Try.ntmps112
  go_wp2
  obtain ⟨w1, hw1, hd, hd2, hb1, hs1⟩ := boxes141 w s t a 0 0 0
  rw [← hw1]
  clear hw1
  go_loopw [6, 7, 20] (fun l i _ wr => ∃ k : Nat, k ≤ n ∧ i = .int .i64 k ∧ wr.ownsRow (w.heap.size + 2) 3 1 l k (cellsI (idL k)) ∧ DrawAt wr w.heap.size s t a ∧ DrawAt wr (w.heap.size + 1) 0 0 0 ∧ w.heap.size + 2 ≤ wr.heap.size ∧ Below w.heap.size w wr) (fun _ i _ _ => n - (intOf i).toNat)
  case atStart => exact ⟨0, Nat.zero_le _, rfl, World.ownsRow_nil _ _ _ _, hd, hd2, by omega, hb1⟩
  case round =>
    obtain ⟨k, hk, rfl, hr, hda, hdb, hsz, hb⟩ := hrel
    clear hd hd2 hb1 hs1
    by_cases hlt : k < n
    · have hidL : idL (k + 1) = idL k ++ [(k : Int)] := by simp [idL, List.range_succ]
      have H := Lib.hid hidL
      clear hidL
      go_wp2_with (at_builtin; refine wpList_app rfl _ _ _ rfl elem43 rfl (hr.alloc _) ⟨wr.heap.size, 0, none⟩ 1 1 [.int .i64 (k : Int)] rfl rfl (cell_one_new _ _ _) (fun x hx => by simp at hx; subst hx; rfl) (by unfold maxLen; omega) (by omega) (by simp; omega) ?_; intro v' w3 hA)
      have hown' : w3.ownsRow (w.heap.size + 2) 3 1 v' (k + 1) (cellsI (idL (k + 1))) := by
        have := hA.own
        rw [H.out, cellsI_append]
        exact this
      have hg := hA.grown
      have hb1 : Below w.heap.size w w3 := (hb.alloc (by omega) _).grown hg (by simp; omega) (fun j e => by have := (hr.lt j e).1; omega)
      have hda2 := (hda.below ((Below.refl _ wr).alloc (Nat.le_refl _) _)).grown hg (fun e => by have := (hr.lt _ e.symm).1; omega)
      have hdb2 := (hdb.below ((Below.refl _ wr).alloc (Nat.le_refl _) _)).grown hg (fun e => by have := (hr.lt _ e.symm).1; omega)
      have hsz2 : w.heap.size + 2 ≤ w3.heap.size := by have := hg.size; simp at this; omega
      clear hA hr hda hdb hb hg hsz
      go_wp2
      go_roundw
      case rel => exact ⟨k + 1, hlt, by go_num, hown', hda2, hdb2, hsz2, hb1⟩
      case measure => simp [intOf]; omega
    · obtain rfl : k = n := by omega
      obtain ⟨aa, ca, rfl, na, fa⟩ := own_form hr
      cases aa with
      | none => exact absurd (na rfl).1 (by omega)
      | some da =>
      obtain ⟨h, rfl, hh0, hh1⟩ := fa da rfl
      clear na fa
      go_wp2_with fail
      go_loopw [8, 9, 10, 11] (fun x _ _ _ wr => ∃ (m i : Nat) (b : Int) (l : List Int), Hid (i + 1 + m = k) ∧ x = .int .i64 i ∧ Mixed s t k a m b l ∧ wr.ownsRow (w.heap.size + 2) 3 1 (.slice (some ⟨h, 0, none⟩) k ca) k (cellsI l) ∧
        DrawAt wr w.heap.size s t b ∧ DrawAt wr (w.heap.size + 1) 0 0 0 ∧ w.heap.size + 2 ≤ wr.heap.size ∧ Below w.heap.size w wr) (fun x _ _ _ _ => (intOf x).toNat)
      case atStart => exact ⟨0, k - 1, a, idL k, (by show k - 1 + 1 + 0 = k; omega), by congr 1; omega, .zero, hr, hda, hdb, hsz, hb⟩
      case round =>
        obtain ⟨m, i, b, l, HI, rfl, hM, hr2, hd, hd2, hsz2, hb2⟩ := hrel
        clear hr hda hdb hsz hb
        by_cases hi0 : 0 < i
        · have c0 := hd.c0
          have c1 := hd.c1
          have c2 := hd.c2
          have hik : i < k := by have := HI.out; omega
          have hik' : (i : Int) < (k : Int) := by omega
          go_wp2_with fail
          refine (refbelow_at _ s t b _ (k - m) (by have := HI.out; omega) (by have := HI.out; omega) (by omega)).mono ?_
          rintro e w3 ⟨j, c, rfl, hT, hb3⟩
          have hll := hM.length
          have hjl : j < k := by have := hT.lt (by have := HI.out; omega); omega
          have hr3 := own_below hr2 hb3 (Nat.le_refl _)
          have hd3 := hd.below hb3
          have hd4 := hd2.below hb3
          have hb4 := hb2.trans (hb3.mono hb2.size)
          have hsz3 : w.heap.size + 2 ≤ w3.heap.size := Nat.le_trans hsz2 hb3.size
          clear hr2 hd hd2 hsz2 hb2 hb3 c0 c1 c2
          have ha : DrawAt (w3.alloc (.cells #[.int .i64 s, .int .i64 t, .int .i64 c] 141)) w.heap.size s t b := hd3.below ((Below.refl _ _).alloc (Nat.le_refl _) _)
          have c0 := ha.c0
          have c1 := ha.c1
          have c2 := ha.c2
          have f0 := ha.free 0
          have f1 := ha.free 1
          have f2 := ha.free 2
          have hne : w.heap.size ≠ w3.heap.size := by omega
          unfold drawV
          go_upto_region 11 with (fail)
          obtain ⟨w4, hw4, hd5, hg5⟩ := ha.put3' s t c
          rw [← hw4]
          have hd6 := (hd4.below ((Below.refl w3.heap.size w3).alloc (Nat.le_refl _) _)).grown hg5 (by simp)
          have hb5 := (hb4.alloc (by omega) (.cells #[.int .i64 s, .int .i64 t, .int .i64 c] 141)).grown hg5 (by simp [go_sem]; omega) (fun q hq => by cases hq; exact Nat.le_refl _)
          have hr5 := (own_below hr3 ((Below.refl w3.heap.size w3).alloc (Nat.le_refl _) (.cells #[.int .i64 s, .int .i64 t, .int .i64 c] 141)) (Nat.le_refl _)).kept hg5 (.inr (by simp [Value.ownBlock]; omega))
          have hsz5 : w.heap.size + 2 ≤ w4.heap.size := by have := hg5.size; simp [go_sem] at this; omega
          clear hw4 ha c0 c1 c2 f0 f1 f2 hd3 hd4 hb4 hg5 hr3 hsz3 hne
          have hc := hr5.cellAt i (by omega)
          rw [cellsI_at _ _ (by omega)] at hc
          have hf := hr5.frozenAt i
          have hc2 := hr5.cellAt j (by omega)
          rw [cellsI_at _ _ (by omega)] at hc2
          have hf2 := hr5.frozenAt j
          obtain ⟨x, hx⟩ : ∃ x, x = l.getD i 0 := ⟨_, rfl⟩
          obtain ⟨y, hy⟩ : ∃ y, y = l.getD j 0 := ⟨_, rfl⟩
          rw [← hx] at hc
          rw [← hy] at hc2
          have HX := Lib.hid hx
          have HY := Lib.hid hy
          clear hx hy
          have hjl' : (j : Int) < (k : Int) := by omega
          obtain ⟨v', hy'⟩ := cell?_setCell_some (w := w4) (p := ⟨h, i, none⟩) (x := .int .i64 y) (q := ⟨h, j, none⟩) (v := .int .i64 y) (by exact hc2)
          go_wp2
          go_roundw
          case rel =>
            have hS1 := hr5.stored i (.int .i64 y)
            have hS2 := hS1.1.stored j (.int .i64 x)
            rw [cellsI_set, cellsI_set, HX.out, HY.out] at hS2
            rw [HX.out, HY.out]
            have hM2 := Mixed.step m b l j c hM (by have := HI.out; omega) hT
            rw [show k - 1 - m = i by have := HI.out; omega] at hM2
            refine ⟨m + 1, i - 1, c, swapL l i j, (by have := HI.out; show i - 1 + 1 + (m + 1) = k; omega), by congr 1; omega, hM2, hS2.1, ?_, ?_, ?_, ?_⟩
            · exact (hd5.grown (grownBy_setCell w4 h i (.int .i64 (l.getD j 0))) (by simp; omega)).grown (grownBy_setCell _ h j (.int .i64 (l.getD i 0))) (by simp; omega)
            · exact (hd6.grown (grownBy_setCell w4 h i (.int .i64 (l.getD j 0))) (by simp; omega)).grown (grownBy_setCell _ h j (.int .i64 (l.getD i 0))) (by simp; omega)
            · simpa [World.setCell] using hsz5
            · exact (hb5.grown (grownBy_setCell w4 h i (.int .i64 (l.getD j 0))) hb5.size (fun q hq => by cases hq; omega)).grown (grownBy_setCell _ h j (.int .i64 (l.getD i 0))) (by simpa [World.setCell] using hb5.size) (fun q hq => by cases hq; omega)
          case measure => simp [intOf]; omega
        · obtain rfl : i = 0 := by omega
          have hmk : m = k - 1 := by have := HI.out; omega
          have c0 := hd.c0
          have c1 := hd.c1
          have c2 := hd.c2
          have e0 := hd2.c0
          have e1 := hd2.c1
          have e2 := hd2.c2
          have f0 := hd2.free 0
          have f1 := hd2.free 1
          have f2 := hd2.free 2
          go_wp2_with fail
          go_region
          go_wp2
          obtain ⟨w5, hw5, hd7, hg7⟩ := hd2.put3 s t b
          rw [← hw5]
          clear hw5 e0 e1 e2 f0 f1 f2 c0 c1 c2
          have e0 := hd7.c0
          have e1 := hd7.c1
          have e2 := hd7.c2
          refine bodyPost_ret (by simp [results, Try.results112, go_sem, e0, e1, e2]; try rfl) rfl ?_
          rw [hmk] at hM
          exact ⟨_, b, l, rfl, hM, own_mono (hr2.kept hg7 (.inr (by simp [Value.ownBlock]; omega))) (by omega), hb2.grown hg7 hb2.size (fun q hq => by cases hq; omega)⟩
end Go.Proofs.Ytdddbljkhhbdlaa
