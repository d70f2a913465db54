/-
The iterator over a matrix's rows: tensor.Rows.
-/
import Derived.RangeFuncNested
import Derived.RangeFuncBound
import Derived.RangeFuncCalls
import Derived.RangeFuncLeaves
import Derived.Shelf.Abstract
import Derived.Shelf.RegionOpen
import Derived.WalkKit
import Derived.OwnWalkIn
import Derived.TacticsInMore
import Derived.LoopNIn
import Derived.LoopIn
import Derived.Test.YtdddbljkhhbdlaaStop
namespace Go.Proofs.Ytdddbljkhhbdlaa
open Go.RowKit Go.Shelf
attribute [local go_sem] Oper.semAt_some

theorem take_finRange (R k : Nat) (h : k < R) : (List.finRange R).take (k + 1) = (List.finRange R).take k ++ [⟨k, h⟩] := by
  rw [List.take_add_one]
  congr 1
  simp [h]

set_option maxRecDepth 100000 in
set_option maxHeartbeats 2000000 in
theorem rows_in (F : Fence) (n : Nat) (h100 : F.fn 100) (hro : F.round = none) (r c wd : Int) (v : Value) (w : World) :
    CallsIn F n Try.prog 100 #[matV r c wd v] w fun e w' => e = .returned (.func (.func 151) #[] #[.pointer (some ⟨w.heap.size, 0, none⟩)]) ∧ w' = w.alloc (.cells #[.int .i64 r, .int .i64 c, .int .i64 wd, v] 45) := by
  unfold matV
  refine callsIn_of_wp Try.func100 rfl h100 ?_ hro
  simp only [Try.ntmps100, List.size_toArray, List.length_cons, List.length_nil, Nat.reduceAdd, Nat.reduceSub, Array.replicate_succ, Array.replicate_zero, List.push_toArray, List.append_toArray, List.nil_append, List.cons_append]
  gi_wp2
  go_ret
  exact ⟨rfl, rfl⟩

set_option maxRecDepth 100000 in
set_option maxHeartbeats 2000000 in
theorem rows1_in (F : Fence) (n : Nat) (h151 : F.fn 151) (hro : F.round = none) (hn : 1 ≤ n) (l Bm n₀ b off cp R C : Nat) (wd : Int) (hR1 : R ≤ 4096) (hC0 : 0 < C) (hC1 : C ≤ 4096) (hRC : R * C ≤ 4096) (hcp : R * C ≤ cp) (hB : Bm < n₀)
    (J Jx : List (Fin R) → World → Prop)
    (hY : ∀ pre (x : Fin R) W, J pre W → pre.length < R → YieldAt F (n - 1) Try.prog l #[.int .i64 (x.val : Nat), .slice (some ⟨b, off + x.val * C, none⟩) C C] W fun e W' =>
      (e = .returned (.bool true) ∧ J (pre ++ [x]) W' ∧ Below n₀ W W') ∨ (e = .returned (.bool false) ∧ Jx (pre ++ [x]) W'))
    (W : World) (hM : MatAt W Bm R C wd (.slice (some ⟨b, off, none⟩) (R * C) cp)) (h0 : J [] W) :
    CallsIn F n Try.prog 151 #[.func (.yield l) #[] #[], .pointer (some ⟨Bm, 0, none⟩)] W fun e W' => (∃ v, e = .returned v) ∧
      ((∃ ys, ys = List.finRange R ∧ J ys W') ∨ (∃ pre, (∃ k, k ≤ R ∧ pre = (List.finRange R).take k) ∧ Jx pre W')) := by
  refine callsIn_of_wp Try.func151 rfl h151 ?_ hro
  simp only [Try.ntmps151, List.size_toArray, List.length_cons, List.length_nil, Nat.reduceAdd, Nat.reduceSub, Array.replicate_succ, Array.replicate_zero, List.push_toArray, List.append_toArray, List.nil_append, List.cons_append]
  have c0 := hM.c0
  gi_wp2
  gi_loopw [3, 4, 7] (fun _ _ i wr => ∃ k : Nat, k ≤ R ∧ i = .int .i64 k ∧ J ((List.finRange R).take k) wr ∧ Below n₀ W wr) (fun _ _ i _ => R - (intOf i).toNat)
  case atStart => exact ⟨0, Nat.zero_le _, rfl, by simpa using h0, Below.refl _ _⟩
  case round =>
    obtain ⟨k, hk, rfl, hJs, hnx⟩ := hrel
    have hM2 : MatAt wr Bm R C wd (.slice (some ⟨b, off, none⟩) (R * C) cp) := ⟨(hnx.block Bm hB).trans hM.block⟩
    by_cases hlt : k < R
    · have d1 := hM2.c1
      have d3 := hM2.c3
      obtain ⟨fn, tmps, assign, body, hy, hRn⟩ := hY _ ⟨k, hlt⟩ wr hJs (by simp; omega)
      dsimp only at hy
      obtain ⟨fr, hfr⟩ : ∃ fr, fr = k * C := ⟨_, rfl⟩
      have hfr1 : fr + C ≤ R * C := by
        have : (k + 1) * C ≤ R * C := Nat.mul_le_mul_right C hlt
        rw [Nat.add_mul] at this
        omega
      obtain ⟨len, hlen⟩ : ∃ len, len = R * C := ⟨_, rfl⟩
      rw [← hfr] at hy
      rw [← hlen] at d3 hfr1
      have e1 : (k : Int) * (C : Int) = (fr : Int) := by rw [hfr]; simp
      have hl1 : len ≤ 4096 := by rw [hlen]; exact hRC
      have hl2 : len ≤ cp := by rw [hlen]; exact hcp
      clear hfr hlen
      have hne : ¬ fr + C = fr := by omega
      gi_wp2
      refine hRn.mono ?_
      rintro e W3 (⟨rfl, hJ3, hk3⟩ | ⟨rfl, hJx3⟩)
      · gi_wp2
        go_roundw
        case rel => exact ⟨k + 1, by omega, by simp, by rw [take_finRange R k hlt]; exact hJ3, hnx.trans hk3⟩
        case measure => simp [intOf]; omega
      · gi_wp2
        refine bodyPost_ret (results_none rfl _ _ _) rfl ?_
        exact ⟨⟨_, rfl⟩, .inr ⟨_, ⟨k + 1, by omega, (take_finRange R k hlt).symm⟩, hJx3⟩⟩
    · obtain rfl : k = R := by omega
      gi_wp2
      go_end0
      exact ⟨⟨_, rfl⟩, .inl ⟨_, rfl, by rw [List.take_of_length_le (by simp)] at hJs; exact hJs⟩⟩
theorem rows_stops (F : Fence) (n : Nat) (h151 : F.fn 151) (hro : F.round = none) (hn : 1 ≤ n) (Bm n₀ b off cp R C : Nat) (wd : Int) (hR1 : R ≤ 4096) (hC0 : 0 < C) (hC1 : C ≤ 4096) (hRC : R * C ≤ 4096) (hcp : R * C ≤ cp) (hB : Bm < n₀)
    (w : World) (hM : MatAt w Bm R C wd (.slice (some ⟨b, off, none⟩) (R * C) cp)) :
    SeqStopsK F n Try.prog 151 #[.pointer (some ⟨Bm, 0, none⟩)] (fun x : Fin R => #[.int .i64 (x.val : Nat), .slice (some ⟨b, off + x.val * C, none⟩) C C]) (Below n₀) (fun ys => ys = List.finRange R) (fun pre => ∃ k, k ≤ R ∧ pre = (List.finRange R).take k) R w :=
  fun l J Jx W hW _ _ hY h0 => rows1_in F n h151 hro hn l Bm n₀ b off cp R C wd hR1 hC0 hC1 hRC hcp hB J Jx hY W ⟨(hW.block Bm hM.lt).trans hM.block⟩ h0
end Go.Proofs.Ytdddbljkhhbdlaa
