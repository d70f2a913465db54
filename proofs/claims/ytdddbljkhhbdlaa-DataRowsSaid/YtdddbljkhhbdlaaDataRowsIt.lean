/-
The iterator over a matrix's rows: data.rows.
-/
import Derived.RangeFuncNested
import Derived.RangeFuncBound
import Derived.RangeFuncCalls
import Derived.RangeFuncLeaves
import Derived.Shelf.Abstract
import Derived.Shelf.RegionOpen
import Derived.WalkKit
import Derived.OwnWalkIn
import Derived.TacticsInMore
import Derived.LoopNIn
import Derived.LoopIn
import Derived.Sort.QuietIn
import Derived.Test.YtdddbljkhhbdlaaRowsIt
namespace Go.Proofs.Ytdddbljkhhbdlaa
open Go.RowKit Go.Shelf
attribute [local go_sem] Oper.semAt_some

set_option maxRecDepth 100000 in
set_option maxHeartbeats 2000000 in
theorem drows_in (F : Fence) (n : Nat) (h84 : F.fn 84) (hro : F.round = none) (r c wd : Int) (v : Value) (w : World) :
    CallsIn F n Try.prog 84 #[matV r c wd v] w fun e w' => e = .returned (.func (.func 132) #[] #[.pointer (some ⟨w.heap.size, 0, none⟩)]) ∧ w' = w.alloc (.cells #[.int .i64 r, .int .i64 c, .int .i64 wd, v] 45) := by
  unfold matV
  refine callsIn_of_wp Try.func84 rfl h84 ?_ hro
  simp only [Try.ntmps84, List.size_toArray, List.length_cons, List.length_nil, Nat.reduceAdd, Nat.reduceSub, Array.replicate_succ, Array.replicate_zero, List.push_toArray, List.append_toArray, List.nil_append, List.cons_append]
  gi_wp2
  go_ret
  exact ⟨rfl, rfl⟩

set_option maxRecDepth 100000 in
set_option maxHeartbeats 2000000 in
theorem drows1_in (n : Nat) (hn : 1 ≤ n) (l Bm n₀ b off cp R C : Nat) (wd : Int) (hR1 : R ≤ 4096) (hC0 : 0 < C) (hC1 : C ≤ 4096) (hRC : R * C ≤ 4096) (hcp : R * C ≤ cp) (hB : Bm < n₀)
    (J Jx : List (Fin R) → World → Prop) (hJd : ∀ s A q, J s A → J s (World.drewN A q))
    (hY : ∀ pre (x : Fin R) W, J pre W → pre.length < R → YieldAt Fence.wide (n - 1) Try.prog l #[.int .i64 (x.val : Nat), .slice (some ⟨b, off + x.val * C, none⟩) C C] W fun e W' =>
      (e = .returned (.bool true) ∧ J (pre ++ [x]) W' ∧ Below n₀ W W') ∨ (e = .returned (.bool false) ∧ Jx (pre ++ [x]) W'))
    (W : World) (hM : MatAt W Bm R C wd (.slice (some ⟨b, off, none⟩) (R * C) cp)) (h0 : J [] W) :
    CallsIn Fence.wide n Try.prog 132 #[.func (.yield l) #[] #[], .pointer (some ⟨Bm, 0, none⟩)] W fun e W' => (∃ v, e = .returned v) ∧
      ((∃ ys, ys = List.finRange R ∧ J ys W') ∨ (∃ pre, (∃ k, k ≤ R ∧ pre = (List.finRange R).take k) ∧ Jx pre W')) := by
  refine callsIn_of_wp Try.func132 rfl trivial ?_ rfl
  simp only [Try.ntmps132, List.size_toArray, List.length_cons, List.length_nil, Nat.reduceAdd, Nat.reduceSub, Array.replicate_succ, Array.replicate_zero, List.push_toArray, List.append_toArray, List.nil_append, List.cons_append]
  have c0 := hM.c0
  gi_wp2
  gi_loopw [3, 4, 5, 8] (fun _ _ _ i wr => ∃ k : Nat, k ≤ R ∧ i = .int .i64 k ∧ J ((List.finRange R).take k) wr ∧ Below n₀ W wr) (fun _ _ _ i _ => R - (intOf i).toNat)
  case atStart => exact ⟨0, Nat.zero_le _, rfl, by simpa using h0, Below.refl _ _⟩
  case round =>
    obtain ⟨k, hk, rfl, hJs, hnx⟩ := hrel
    have hM2 : MatAt wr Bm R C wd (.slice (some ⟨b, off, none⟩) (R * C) cp) := ⟨(hnx.block Bm hB).trans hM.block⟩
    by_cases hlt : k < R
    · have d1 := hM2.c1
      have d3 := hM2.c3
      obtain ⟨fr, hfr⟩ : ∃ fr, fr = k * C := ⟨_, rfl⟩
      have hfr1 : fr + C ≤ R * C := by
        have : (k + 1) * C ≤ R * C := Nat.mul_le_mul_right C hlt
        rw [Nat.add_mul] at this
        omega
      obtain ⟨len, hlen⟩ : ∃ len, len = R * C := ⟨_, rfl⟩
      rw [← hlen] at d3 hfr1
      have e1 : (k : Int) * (C : Int) = (fr : Int) := by rw [hfr]; simp
      have hl1 : len ≤ 4096 := by rw [hlen]; exact hRC
      have hl2 : len ≤ cp := by rw [hlen]; exact hcp
      have HFR := Lib.hid hfr
      clear hfr hlen
      have hne : ¬ fr + C = fr := by omega
      have q2 : ((k : Int) + 1) * (C : Int) = (fr : Int) + (C : Int) := by rw [Int.add_mul, e1]; simp
      have q3 : IntKind.i64.wrap (fr : Int) = (fr : Int) := i64_small _ (by omega) (by omega)
      have q4 : IntKind.i64.wrap ((k : Int) + 1) = (k : Int) + 1 := i64_small _ (by omega) (by omega)
      have q5 : IntKind.i64.wrap ((fr : Int) + (C : Int)) = (fr : Int) + (C : Int) := i64_small _ (by omega) (by omega)
      gi_wp2
      gi_quiet (fail)
      obtain ⟨fn, tmps, assign, body, hy, hRn⟩ := hY _ ⟨k, hlt⟩ (wr.drewN nq) (hJd _ _ _ hJs) (by simp; omega)
      dsimp only at hy
      rw [← HFR.out] at hy
      have hd3 : (wr.drewN nq).cell? ⟨Bm, 3, none⟩ = some (.slice (some ⟨b, off, none⟩) len cp) := d3
      gi_wp2
      refine hRn.mono ?_
      rintro e W3 (⟨rfl, hJ3, hk3⟩ | ⟨rfl, hJx3⟩)
      · gi_wp2
        go_roundw
        case rel => exact ⟨k + 1, by omega, by simp, by rw [take_finRange R k hlt]; exact hJ3, (below_drewN hnx nq).trans hk3⟩
        case measure => simp [intOf]; omega
      · gi_wp2
        refine bodyPost_ret (results_none rfl _ _ _) rfl ?_
        exact ⟨⟨_, rfl⟩, .inr ⟨_, ⟨k + 1, by omega, (take_finRange R k hlt).symm⟩, hJx3⟩⟩
    · obtain rfl : k = R := by omega
      gi_wp2
      go_end0
      exact ⟨⟨_, rfl⟩, .inl ⟨_, rfl, by rw [List.take_of_length_le (by simp)] at hJs; exact hJs⟩⟩
theorem drows_stops (n : Nat) (hn : 1 ≤ n) (Bm n₀ b off cp R C : Nat) (wd : Int) (hR1 : R ≤ 4096) (hC0 : 0 < C) (hC1 : C ≤ 4096) (hRC : R * C ≤ 4096) (hcp : R * C ≤ cp) (hB : Bm < n₀)
    (w : World) (hM : MatAt w Bm R C wd (.slice (some ⟨b, off, none⟩) (R * C) cp)) :
    SeqStopsK Fence.wide n Try.prog 132 #[.pointer (some ⟨Bm, 0, none⟩)] (fun x : Fin R => #[.int .i64 (x.val : Nat), .slice (some ⟨b, off + x.val * C, none⟩) C C]) (Below n₀) (fun ys => ys = List.finRange R) (fun pre => ∃ k, k ≤ R ∧ pre = (List.finRange R).take k) R w :=
  fun l J Jx W hW hJ _ hY h0 => drows1_in n hn l Bm n₀ b off cp R C wd hR1 hC0 hC1 hRC hcp hB J Jx (fun s A q hs => hJ s A _ none hs (grownBy_drewN A q none) (fun r e => by cases e)) hY W ⟨(hW.block Bm hM.lt).trans hM.block⟩ h0
end Go.Proofs.Ytdddbljkhhbdlaa
