/-
The contract of data.Batch: some rows of an epoch's order, rising.
-/
import Derived.Test.YtdddbljkhhbdlaaOrder
import Derived.Test.YtdddbljkhhbdlaaShelf
import Derived.Sort.OwnSortedInts
namespace Go.Proofs.Ytdddbljkhhbdlaa
open Go.RowKit

/-- Rising. -/
def sortI (l : List Int) : List Int := l.mergeSort fun x y => decide (x ≤ y)
theorem sortI_length (l : List Int) : (sortI l).length = l.length := List.length_mergeSort l

theorem sort_own (w : World) (B n cap : Nat) (a : Option Addr) (l : List Int) (h0 : 0 < n) (h1 : n ≤ 100000) (h : w.ownsRow B 3 1 (.slice a n cap) n (cellsI l)) :
    Calls Try.prog 114 #[.slice a n cap] w fun e w' => e = .returned (.tuple #[]) ∧ w'.ownsRow B 3 1 (.slice a n cap) n (cellsI (sortI l)) ∧ Below B w w' := by
  have hl : l.length = n := by simpa [cellsI] using h.1
  rcases h.2 with ⟨e0, _⟩ | ⟨g, cap', cur, hv, hb, hg, hn, hm, hs, ht⟩
  · simp only [Value.slice.injEq] at e0; omega
  · simp only [Value.slice.injEq, true_and] at hv
    obtain ⟨rfl, rfl⟩ := hv
    have ht' : cur.toList.take l.length = l.map (Value.int .i64) := by rw [hl]; rw [Nat.mul_one] at ht; exact ht
    have hlt : g < w.heap.size := (Array.getElem?_eq_some_iff.1 hg).1
    have hc := Try.slices_Sort_int g 0 cap l w (holds_of_blockI hg ht') hlt (by omega)
    rw [hl] at hc
    refine hc.mono ?_
    rintro e w' ⟨rfl, k, os, rfl⟩
    refine ⟨rfl, ?_, (Below.refl B w).grown (grownBy_sortedI _) (by omega) (fun q hq => by cases hq; exact hb)⟩
    have := ownsRow_sortedI (n := k) (os := os) (ts := sortI l) (ss := l) (by rw [sortI_length]) hb hg (by omega) hm hs
    rw [hl] at this
    exact this

set_option maxRecDepth 100000 in
set_option maxHeartbeats 2000000 in
theorem batch_ok (n k bi : Nat) (s ep : Int) (w : World) (h0 : 0 < n) (h1 : n ≤ 4096) (he0 : 0 ≤ ep) (he1 : ep ≤ 9223372036854775807) (hk0 : 0 < k) (hk1 : k ≤ 256) (hbi : bi < (n + k - 1) / k) :
    Calls Try.prog 46 #[.int .i64 n, .int .i64 k, .int .i64 s, .int .i64 ep, .int .i64 bi] w fun e w' => ∃ v b l, e = .returned (.tuple #[v, .int .i64 0]) ∧ Mixed s (-1 - ep) n 0 (n - 1) b l ∧
      w'.ownsRow w.heap.size 3 1 v (min ((bi + 1) * k) n - bi * k) (cellsI (sortI ((l.drop (bi * k)).take (min ((bi + 1) * k) n - bi * k)))) ∧ Below w.heap.size w w' := by
  have hup : (bi + 1) * k ≤ n + k - 1 := (Nat.le_div_iff_mul_le hk0).1 hbi
  have hlo : bi * k < n := by rw [Nat.add_mul] at hup; omega
  obtain ⟨lo, hlo1⟩ : ∃ lo, lo = bi * k := ⟨_, rfl⟩
  obtain ⟨up, hup1⟩ : ∃ up, up = (bi + 1) * k := ⟨_, rfl⟩
  have hle : lo < up := by rw [hlo1, hup1, Nat.add_mul]; omega
  have hbn : bi ≤ lo := by rw [hlo1]; exact Nat.le_mul_of_pos_right _ hk0
  have e1 : (bi : Int) * k = (lo : Int) := by rw [hlo1]; simp
  have e2 : ((bi : Int) + 1) * k = (up : Int) := by rw [hup1]; simp
  rw [← hlo1, ← hup1]
  rw [← hlo1] at hlo
  rw [← hup1] at hup
  have hq : (bi : Int) < (((n + k - 1) / k : Nat) : Int) := by exact_mod_cast hbi
  have hq9 : (n + k - 1) / k ≤ n + k - 1 := Nat.div_le_self _ _
  obtain ⟨all, hall⟩ : ∃ all, all = (n + k - 1) / k := ⟨_, rfl⟩
  rw [← hall] at hq hq9
  have HA := Lib.hid hall
  clear hall hlo1 hup1 hbi
  obtain ⟨m, hm⟩ : ∃ m, m = min up n - lo := ⟨_, rfl⟩
  have em : (min (up : Int) (n : Int)).toNat - lo = m := by omega
  rw [← hm]
  have hm0 : 0 < m := by omega
  have hm1 : lo + m ≤ n := by omega
  have EM := Lib.hid em
  clear hm em
  go_enter Try.func46, Try.ntmps46
  go_wp2_with fail
  refine (batches_ok n k _ h0 hk0 h1 hk1).mono ?_
  rintro e w1 ⟨rfl, rfl⟩
  rw [← HA.out]
  go_wp2_with fail
  refine (order_ok n s ep _ h0 h1 he0 he1).mono ?_
  rintro e w2 ⟨v, b, l, rfl, hM, hr, hb⟩
  obtain ⟨aa, ca, rfl, na, fa⟩ := own_form hr
  cases aa with
  | none => exact absurd (na rfl).1 (by omega)
  | some da =>
  obtain ⟨g, rfl, hg0, hg1⟩ := fa da rfl
  clear na fa
  have hnc : n ≤ ca := by
    rcases hr.2 with ⟨e0, _⟩ | ⟨g', cap', cur, hv, _, _, hn, _⟩
    · simp at e0
    · simp only [Value.slice.injEq, true_and] at hv
      omega
  go_wp2_with fail
  have hll := hM.length
  rw [EM.out]
  have hzl : ((l.drop lo).take m).length = m := by simp; omega
  have hcell : ∀ j, j < ((l.drop lo).take m).length → w2.cell? ⟨g, lo + j, none⟩ = some (.int .i64 (((l.drop lo).take m).getD j 0)) := by
    intro j hj
    rw [hr.cellAt (lo + j) (by omega), cellsI_at _ _ (by omega)]
    simp only [List.getD, List.getElem?_take, List.getElem?_drop]
    rw [if_pos (by omega)]
  refine (Try.slices_Clone_int g lo m m ((l.drop lo).take m) w2 (by omega) (by omega) hcell).mono ?_
  rintro e w3 ⟨v, rfl, hr3, _, hb3⟩
  rw [List.take_of_length_le (by omega)] at hr3
  obtain ⟨ab, cb, rfl, nb, fb⟩ := own_form hr3
  obtain ⟨zs, hzs⟩ : ∃ zs, zs = (l.drop lo).take m := ⟨_, rfl⟩
  rw [← hzs] at hr3
  have hb4 := hb.trans (hb3.mono hb.size)
  have hr4 := own_mono hr3 hb.size
  clear nb fb hcell hb3 hr3
  go_wp2_with fail
  refine (sort_own _ w.heap.size m cb ab zs hm0 (by omega) hr4).mono ?_
  rintro e w4 ⟨rfl, hr5, hb5⟩
  go_wp2
  go_ret2
  exact ⟨_, b, l, rfl, hM, by rw [← hzs]; exact hr5, hb4.trans hb5⟩

set_option maxRecDepth 100000 in
set_option maxHeartbeats 2000000 in
theorem batch_index (n k : Nat) (bi : Int) (s ep : Int) (w : World) (h0 : 0 < n) (h1 : n ≤ 4096) (he0 : 0 ≤ ep) (he1 : ep ≤ 9223372036854775807) (hk0 : 0 < k) (hk1 : k ≤ 256) (hbi : bi < 0 ∨ (((n + k - 1) / k : Nat) : Int) ≤ bi) :
    Calls Try.prog 46 #[.int .i64 n, .int .i64 k, .int .i64 s, .int .i64 ep, .int .i64 bi] w fun e w' => e = .returned (.tuple #[.slice none 0 0, .int .i64 5]) ∧ Below w.heap.size w w' := by
  obtain ⟨all, hall⟩ : ∃ all, all = (n + k - 1) / k := ⟨_, rfl⟩
  rw [← hall] at hbi
  have HA := Lib.hid hall
  clear hall
  go_enter Try.func46, Try.ntmps46
  go_wp2_with fail
  refine (batches_ok n k _ h0 hk0 h1 hk1).mono ?_
  rintro e w1 ⟨rfl, rfl⟩
  rw [← HA.out]
  go_wp2_with fail
  refine (order_ok n s ep _ h0 h1 he0 he1).mono ?_
  rintro e w2 ⟨v, b, l, rfl, hM, hr, hb⟩
  obtain ⟨aa, ca, rfl, na, fa⟩ := own_form hr
  clear na fa hM hr
  by_cases h : bi < 0
  · clear hbi
    go_wp2
    go_ret2
    exact ⟨rfl, hb⟩
  · have h' : (all : Int) ≤ bi := by omega
    have h'' : 0 ≤ bi := by omega
    clear hbi h
    go_wp2
    go_ret2
    exact ⟨rfl, hb⟩

set_option maxRecDepth 100000 in
set_option maxHeartbeats 2000000 in
theorem batch_epoch (n k : Nat) (bi : Int) (s ep : Int) (w : World) (h0 : 0 < n) (h1 : n ≤ 4096) (he0 : ep < 0) (hk0 : 0 < k) (hk1 : k ≤ 256) :
    Calls Try.prog 46 #[.int .i64 n, .int .i64 k, .int .i64 s, .int .i64 ep, .int .i64 bi] w fun e w' => e = .returned (.tuple #[.slice none 0 0, .int .i64 1]) ∧ w = w' := by
  obtain ⟨all, hall⟩ : ∃ all, all = (n + k - 1) / k := ⟨_, rfl⟩
  have HA := Lib.hid hall
  clear hall
  go_enter Try.func46, Try.ntmps46
  go_wp2_with fail
  refine (batches_ok n k _ h0 hk0 h1 hk1).mono ?_
  rintro e w1 ⟨rfl, rfl⟩
  rw [← HA.out]
  go_wp2_with fail
  refine (order_bad n s ep _ (.inr he0)).mono ?_
  rintro e w2 ⟨rfl, rfl⟩
  go_wp2
  go_ret2
  exact ⟨rfl, rfl⟩
set_option maxRecDepth 100000 in
set_option maxHeartbeats 2000000 in
theorem batch_bad (n k bi s ep : Int) (w : World) (h : n < 1 ∨ k < 1) :
    Calls Try.prog 46 #[.int .i64 n, .int .i64 k, .int .i64 s, .int .i64 ep, .int .i64 bi] w fun e w' => e = .returned (.tuple #[.slice none 0 0, .int .i64 1]) ∧ w = w' := by
  go_enter Try.func46, Try.ntmps46
  go_wp2_with fail
  refine (batches_bad n k _ h).mono ?_
  rintro e w1 ⟨rfl, rfl⟩
  go_wp2
  go_ret2
  exact ⟨rfl, rfl⟩
set_option maxRecDepth 100000 in
set_option maxHeartbeats 2000000 in
theorem batch_long (n k bi s ep : Int) (w : World) (h0 : 1 ≤ n) (h1 : 1 ≤ k) (h : 4096 < n ∨ 256 < k) :
    Calls Try.prog 46 #[.int .i64 n, .int .i64 k, .int .i64 s, .int .i64 ep, .int .i64 bi] w fun e w' => e = .returned (.tuple #[.slice none 0 0, .int .i64 2]) ∧ w = w' := by
  go_enter Try.func46, Try.ntmps46
  go_wp2_with fail
  refine (batches_long n k _ h0 h1 h).mono ?_
  rintro e w1 ⟨rfl, rfl⟩
  go_wp2
  go_ret2
  exact ⟨rfl, rfl⟩
end Go.Proofs.Ytdddbljkhhbdlaa
