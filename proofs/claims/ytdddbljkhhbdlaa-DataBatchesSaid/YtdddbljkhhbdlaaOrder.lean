/-
The contracts of rng.Shuffle, data.Order and data.Batches.
-/
import Derived.Test.YtdddbljkhhbdlaaShuffled
import Derived.Handy
namespace Go.Proofs.Ytdddbljkhhbdlaa
open Go.RowKit

theorem box141 (w : World) (s t a : Int) : DrawAt (w.alloc (.cells #[.int .i64 s, .int .i64 t, .int .i64 a] 141)) w.heap.size s t a :=
  ⟨heap_alloc_new w _⟩
theorem boxes141 (w : World) (s t a x y z : Int) : ∃ w1, w1 = (w.alloc (.cells #[.int .i64 s, .int .i64 t, .int .i64 a] 141)).alloc (.cells #[.int .i64 x, .int .i64 y, .int .i64 z] 141) ∧
    DrawAt w1 w.heap.size s t a ∧ DrawAt w1 (w.heap.size + 1) x y z ∧ Below w.heap.size w w1 ∧ w1.heap.size = w.heap.size + 2 := by
  have e : (w.alloc (.cells #[.int .i64 s, .int .i64 t, .int .i64 a] 141)).heap.size = w.heap.size + 1 := by simp [go_sem]
  refine ⟨_, rfl, (box141 w s t a).below ((Below.refl _ _).alloc (Nat.le_refl _) _), ?_, ((Below.refl _ w).alloc (Nat.le_refl _) _).alloc (by omega) _, by simp [go_sem]⟩
  have := box141 (w.alloc (.cells #[.int .i64 s, .int .i64 t, .int .i64 a] 141)) x y z
  rw [e] at this
  exact this

theorem DrawAt.put3 {w : World} {g : Nat} {x y z : Int} (h : DrawAt w g x y z) (s t a : Int) : ∃ w1, w1 = (((w.setCell ⟨g, 0, none⟩ (.int .i64 s)).setCell ⟨g, 1, none⟩ (.int .i64 t)).setCell ⟨g, 2, none⟩ (.int .i64 a)).drew ∧
    DrawAt w1 g s t a ∧ w.grownBy w1 (some g) := by
  refine ⟨_, rfl, ⟨?_⟩, ?_⟩
  · show (((w.setCell ⟨g, 0, none⟩ (.int .i64 s)).setCell ⟨g, 1, none⟩ (.int .i64 t)).setCell ⟨g, 2, none⟩ (.int .i64 a)).heap[g]? = _
    simp only [World.setCell, Array.getElem?_modify, if_true, h.block, Option.map_some]
    rfl
  · have := grownBy_trans (grownBy_trans (grownBy_setCell w g 0 (.int .i64 s)) (grownBy_setCell _ g 1 (.int .i64 t))) (grownBy_setCell _ g 2 (.int .i64 a))
    exact ⟨this.os, this.tape, this.output, this.size, this.block⟩

set_option maxRecDepth 100000 in
set_option maxHeartbeats 2000000 in
theorem shuffle_any (w : World) (s t a : Int) (n : Nat) (h0 : 0 < n) (h1 : n ≤ 10000) :
    Calls Try.prog 111 #[drawV s t a, .int .i64 n] w fun e w' => ∃ v b l, e = .returned (.tuple #[v, drawV s t b, .int .i64 0]) ∧ Mixed s t n a (n - 1) b l ∧
      w'.ownsRow w.heap.size 3 1 v n (cellsI l) ∧ Below w.heap.size w w' := by
  unfold drawV
  go_enter Try.func111, Try.ntmps111
  go_wp2_with fail
  obtain ⟨w1, hw1, hd, hd2, hb1, hs1⟩ := boxes141 w s t a 0 0 0
  rw [← hw1]
  clear hw1
  refine (shuffled_any w1 _ s t a n h0 h1 hd).mono ?_
  rintro e w2 ⟨b, l, rfl, hM, hd3, hr, hg⟩
  have hd4 := hd2.grown hg (by simp)
  have hb2 := hb1.grown hg (by omega) (fun q hq => by cases hq; exact Nat.le_refl _)
  have hr2 := own_mono hr (b' := w.heap.size) (by omega)
  clear hd hd2 hb1 hr hg
  have c0 := hd3.c0
  have c1 := hd3.c1
  have c2 := hd3.c2
  have e0 := hd4.c0
  have e1 := hd4.c1
  have e2 := hd4.c2
  have f0 := hd4.free 0
  have f1 := hd4.free 1
  have f2 := hd4.free 2
  go_wp2
  go_region
  go_wp2
  obtain ⟨w3, hw3, hd5, hg5⟩ := hd4.put3 s t b
  rw [← hw3]
  clear hw3 e0 e1 e2 f0 f1 f2 c0 c1 c2
  have e0 := hd5.c0
  have e1 := hd5.c1
  have e2 := hd5.c2
  refine bodyPost_ret (by simp [results, Try.results111, go_sem, e0, e1, e2]; try rfl) rfl ?_
  rw [hs1] at hr2
  exact ⟨_, b, l, rfl, hM, hr2.kept hg5 (.inr (by simp [Value.ownBlock])), hb2.grown hg5 (by have := hb2.size; omega) (fun q hq => by cases hq; omega)⟩

set_option maxHeartbeats 1000000 in
theorem order_bad (n s ep : Int) (w : World) (h : n < 1 ∨ ep < 0) :
    Calls Try.prog 42 #[.int .i64 n, .int .i64 s, .int .i64 ep] w fun e w' => e = .returned (.tuple #[.slice none 0 0, .int .i64 1]) ∧ w = w' := by
  by_cases hn : n < 1
  · go_enter Try.func42, Try.ntmps42
    go_wp2
    go_ret2
    exact ⟨rfl, rfl⟩
  · have hp : ep < 0 := by omega
    have hn' : 1 ≤ n := by omega
    clear h hn
    go_enter Try.func42, Try.ntmps42
    go_wp2
    go_ret2
    exact ⟨rfl, rfl⟩
set_option maxHeartbeats 1000000 in
theorem order_long (n s ep : Int) (w : World) (h : 4096 < n) (h0 : 0 ≤ ep) :
    Calls Try.prog 42 #[.int .i64 n, .int .i64 s, .int .i64 ep] w fun e w' => e = .returned (.tuple #[.slice none 0 0, .int .i64 2]) ∧ w = w' := by
  go_enter Try.func42, Try.ntmps42
  go_wp2
  go_ret2
  exact ⟨rfl, rfl⟩
set_option maxRecDepth 100000 in
set_option maxHeartbeats 2000000 in
theorem order_ok (n : Nat) (s ep : Int) (w : World) (h0 : 0 < n) (h1 : n ≤ 4096) (he0 : 0 ≤ ep) (he1 : ep ≤ 9223372036854775807) :
    Calls Try.prog 42 #[.int .i64 n, .int .i64 s, .int .i64 ep] w fun e w' => ∃ v b l, e = .returned (.tuple #[v, .int .i64 0]) ∧ Mixed s (-1 - ep) n 0 (n - 1) b l ∧
      w'.ownsRow w.heap.size 3 1 v n (cellsI l) ∧ Below w.heap.size w w' := by
  go_enter Try.func42, Try.ntmps42
  go_wp2_with fail
  refine (shuffle_any _ s (-1 - ep) 0 n h0 (by omega)).mono ?_
  rintro e w2 ⟨v, b, l, rfl, hM, hr, hb⟩
  obtain ⟨aa, ca, rfl, na, fa⟩ := own_form hr
  unfold drawV
  go_wp2
  go_ret2
  exact ⟨_, b, l, rfl, hM, own_below hr ((Below.refl _ _).alloc (Nat.le_refl _) _) (Nat.le_refl _), hb.alloc hb.size _⟩
set_option maxHeartbeats 1000000 in
theorem batches_bad (n k : Int) (w : World) (h : n < 1 ∨ k < 1) :
    Calls Try.prog 44 #[.int .i64 n, .int .i64 k] w fun e w' => e = .returned (.tuple #[.int .i64 0, .int .i64 1]) ∧ w = w' := by
  by_cases hn : n < 1
  · go_enter Try.func44, Try.ntmps44
    go_wp2
    go_ret2
    exact ⟨rfl, rfl⟩
  · have hp : k < 1 := by omega
    have hn' : 1 ≤ n := by omega
    clear h hn
    go_enter Try.func44, Try.ntmps44
    go_wp2
    go_ret2
    exact ⟨rfl, rfl⟩
set_option maxHeartbeats 1000000 in
theorem batches_long (n k : Int) (w : World) (h0 : 1 ≤ n) (h1 : 1 ≤ k) (h : 4096 < n ∨ 256 < k) :
    Calls Try.prog 44 #[.int .i64 n, .int .i64 k] w fun e w' => e = .returned (.tuple #[.int .i64 0, .int .i64 2]) ∧ w = w' := by
  by_cases hn : 4096 < n
  · go_enter Try.func44, Try.ntmps44
    go_wp2
    go_ret2
    exact ⟨rfl, rfl⟩
  · have hp : 256 < k := by omega
    have hn' : n ≤ 4096 := by omega
    clear h hn
    go_enter Try.func44, Try.ntmps44
    go_wp2
    go_ret2
    exact ⟨rfl, rfl⟩
set_option maxHeartbeats 1000000 in
theorem batches_ok (n k : Nat) (w : World) (h0 : 0 < n) (h1 : 0 < k) (h2 : n ≤ 4096) (h3 : k ≤ 256) :
    Calls Try.prog 44 #[.int .i64 n, .int .i64 k] w fun e w' => e = .returned (.tuple #[.int .i64 ((n + k - 1) / k : Nat), .int .i64 0]) ∧ w = w' := by
  have e : ((n : Int) + k - 1) = ((n + k - 1 : Nat) : Int) := by omega
  go_enter Try.func44, Try.ntmps44
  go_wp2
  go_ret2
  refine ⟨?_, rfl⟩
  have hq : (n + k - 1) / k ≤ n + k - 1 := Nat.div_le_self _ _
  have hw : wrap64 (((n + k - 1 : Nat) : Int) / (k : Int)) = (((n + k - 1) / k : Nat) : Int) := by
    rw [← Int.natCast_ediv]
    obtain ⟨q, hqq⟩ : ∃ q, q = (n + k - 1) / k := ⟨_, rfl⟩
    rw [← hqq] at hq ⊢
    exact wrap64_small _ (by omega) (by omega)
  rw [hw]
  rfl
end Go.Proofs.Ytdddbljkhhbdlaa
