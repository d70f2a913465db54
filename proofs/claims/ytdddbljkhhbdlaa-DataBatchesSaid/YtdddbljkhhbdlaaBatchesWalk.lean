/-
The walk of DataBatches: whatever the arguments are, the call returns true.
-/
import Derived.Test.YtdddbljkhhbdlaaAlive
import Derived.Test.YtdddbljkhhbdlaaBoth
import Derived.Test.YtdddbljkhhbdlaaSame19
import Derived.Test.YtdddbljkhhbdlaaApart
import Derived.Test.YtdddbljkhhbdlaaAdd
namespace Go.Proofs.Ytdddbljkhhbdlaa
open Go.RowKit

theorem booksI_start (w : World) (B : Nat) (hB : B ≤ w.heap.size) (V W : Nat → Value) (X : Nat → List Int) :
    BooksI (w.alloc (.cells (bookCells (.slice none 0 0) (.slice none 0 0) (.slice none 0 0) (.slice none 0 0)) 40)) B w.heap.size 0 V W X :=
  ⟨⟨.slice none 0 0, .slice none 0 0, ⟨heap_alloc_new w _⟩, World.ownsRow_nil _ _ _ _, World.ownsRow_nil _ _ _ _, .inl rfl⟩, ⟨fun _ hi => absurd hi (Nat.not_lt_zero _), fun _ _ hi => absurd hi (Nat.not_lt_zero _)⟩,
    ⟨fun _ hi => absurd hi (Nat.not_lt_zero _), fun _ _ hi => absurd hi (Nat.not_lt_zero _)⟩, hB⟩

set_option maxRecDepth 100000 in
set_option maxHeartbeats 4000000 in
theorem batches_in (n k s ep bi : Int) (w : World) (hn : n ≤ 500 ∨ 4096 < n) (he : ep ≤ 9223372036854775807) :
    Calls Try.prog 10 #[.int .i64 n, .int .i64 k, .int .i64 s, .int .i64 ep, .int .i64 bi] w fun e w' => e = .returned (.bool true) ∧ Below w.heap.size w w' := by
  obtain ⟨er1, L1, hl1, ha1, hb1⟩ := order_both n s ep hn he
  obtain ⟨c, er2, ha2, hb2⟩ := batches_both n k
  obtain ⟨er3, L3, hl3, ha3, hb3⟩ := batch_both n k s ep bi he
  have A1 := Lib.hid ha1
  have B1 := Lib.hid hb1
  have A2 := Lib.hid ha2
  have B2 := Lib.hid hb2
  have A3 := Lib.hid ha3
  have B3 := Lib.hid hb3
  have HL1 := Lib.hid hl1
  have HL3 := Lib.hid hl3
  clear ha1 hb1 ha2 hb2 ha3 hb3 hl1 hl3
  have hg : (decide (500 < n) && decide (n ≤ 4096)) = false := by
    rcases hn with h | h
    · rw [decide_eq_false (by omega), Bool.false_and]
    · rw [decide_eq_false (p := n ≤ 4096) (by omega), Bool.and_false]
  clear he
  rcases hn with hn | hn
  all_goals
    clear hg
    go_enter Try.func10, Try.ntmps10
    go_wp2_with fail
    refine (alive_any _).mono ?_
    rintro e w1 ⟨rfl, hw1⟩
    go_wp2_with fail
    refine (A1.out _).mono ?_
    rintro e w2 ⟨va, rfl, ra, hw2⟩
    have hz1 := hw1.size
    have hz2 := hw2.size
    have hw2' := hw1.trans (hw2.mono hz1)
    go_wp2_with fail
    refine (B1.out _).mono ?_
    rintro e w3 ⟨vb, rfl, rb, hw3⟩
    have hz3 := hw3.size
    have ra3 := own_below ra hw3 (Nat.le_refl _)
    have hw3' := hw2'.trans (hw3.mono (by omega))
    go_wp2_with fail
    refine (A2.out _).mono ?_
    rintro e w4 ⟨rfl, rfl⟩
    go_wp2_with fail
    refine (B2.out _).mono ?_
    rintro e w5 ⟨rfl, rfl⟩
    go_wp2_with fail
    refine (A3.out _).mono ?_
    rintro e w6 ⟨vp, rfl, rp, hw6⟩
    have hz6 := hw6.size
    have ra6 := own_below ra3 hw6 (Nat.le_refl _)
    have rb6 := own_below rb hw6 (Nat.le_refl _)
    have hw6' := hw3'.trans (hw6.mono (by omega))
    go_wp2_with fail
    refine (B3.out _).mono ?_
    rintro e w7 ⟨vq, rfl, rq, hw7⟩
    have hz7 := hw7.size
    have ra7 := own_below ra6 hw7 (Nat.le_refl _)
    have rb7 := own_below rb6 hw7 (Nat.le_refl _)
    have rp7 := own_below rp hw7 (Nat.le_refl _)
    have hw7' := hw6'.trans (hw7.mono (by omega))
    go_wp2_with fail
    have hap : va.ownBlock = none ∨ va.ownBlock ≠ vp.ownBlock := by
      cases h : va.ownBlock with
      | none => exact .inl rfl
      | some j =>
        right
        intro e
        have q1 := (ra3.lt j h).2
        have q2 := (rp.lt j e.symm).1
        omega
    have HAP := Lib.hid hap
    clear ra rb rp ra3 ra6 rb6 hap hw1 hw2 hw3 hw6 hw7 hw2' hw3' hw6'
    have hz : w.heap.size ≤ w7.heap.size := hw7'.size
    refine (ints_add _ w.heap.size w7.heap.size 0 (fun _ => .slice none 0 0) (fun _ => .slice none 0 0) (fun _ => []) (by exact booksI_start w7 _ hz _ _ _) (by omega) va L1 (by exact (own_mono ra7 (by omega)).alloc _) (by have := HL1.out; omega) (fun _ hi => absurd hi (Nat.not_lt_zero _))).mono ?_
    rintro e w8 ⟨rfl, ca, hS8, hb8, hK8⟩
    have ra8 := hK8 _ _ _ _ _ _ (by decide) (by decide) (ra7.alloc _)
    have rb8 := hK8 _ _ _ _ _ _ (by decide) (by decide) (rb7.alloc _)
    have rp8 := hK8 _ _ _ _ _ _ (by decide) (by decide) (rp7.alloc _)
    have rq8 := hK8 _ _ _ _ _ _ (by decide) (by decide) (rq.alloc _)
    have hw8 : Below w.heap.size w w8 := (hw7'.alloc hz _).trans hb8
    clear ra7 rb7 rp7 rq hb8 hK8 hw7'
    go_wp2_with fail
    refine (ints_add _ w.heap.size w7.heap.size 1 _ _ _ hS8 (by omega) vp L3 (own_mono rp8 (by omega)) (by have := HL3.out; omega) (fun i hi => by have h0 : i = 0 := (by omega); subst h0; simpa using HAP.out)).mono ?_
    rintro e w9 ⟨rfl, cb, hS9, hb9, hK9⟩
    have ra9 := hK9 _ _ _ _ _ _ (by decide) (by decide) ra8
    have rb9 := hK9 _ _ _ _ _ _ (by decide) (by decide) rb8
    have rp9 := hK9 _ _ _ _ _ _ (by decide) (by decide) rp8
    have rq9 := hK9 _ _ _ _ _ _ (by decide) (by decide) rq8
    have hw9 := hw8.trans hb9
    clear ra8 rb8 rp8 rq8 hS8 hb9 hK9 hw8
    go_wp2_with fail
    refine (sameInts19_any L1 (by have := HL1.out; omega) va vb _ _ _ ra9 rb9).mono ?_
    rintro e w10 ⟨rfl, q1, rfl⟩
    go_wp2_with fail
    refine (sameInts19_any L3 (by have := HL3.out; omega) vp vq _ _ _ (by exact rp9) (by exact rq9)).mono ?_
    rintro e w11 ⟨rfl, q2, rfl⟩
    obtain ⟨⟨v1, u1, hk9, hv9, hu9, _⟩, hV9, hW9, _⟩ := hS9
    go_wp2_with fail
    have hz9 := hw9.size
    refine (apartInts_any (w9.drewN (q1 + q2)) _ v1 u1 ⟨hk9.block⟩ w.heap.size 2 (by omega) (by exact hz9) _ _ (fun i => if i = 1 then L3 else if i = 0 then L1 else []) (by exact hv9) (by exact hu9) ⟨hV9.row, hV9.apart⟩ ⟨hW9.row, hW9.apart⟩ (fun i hi => by
      by_cases h1 : i = 1
      · subst h1; have := HL3.out; simp; omega
      · have h0 : i = 0 := (by omega)
        subst h0
        have := HL1.out
        simp
        omega)).mono ?_
    rintro e w12 ⟨rfl, hb12⟩
    go_wp2
    go_ret
    exact ⟨rfl, (below_drewN hw9 (q1 + q2)).trans hb12⟩

set_option maxRecDepth 100000 in
set_option maxHeartbeats 4000000 in
theorem batches_out (n k s ep bi : Int) (w : World) (h0 : 500 < n) (h1 : n ≤ 4096) :
    Calls Try.prog 10 #[.int .i64 n, .int .i64 k, .int .i64 s, .int .i64 ep, .int .i64 bi] w fun e w' => e = .returned (.bool true) ∧ Below w.heap.size w w' := by
  go_enter Try.func10, Try.ntmps10
  go_wp2_with fail
  refine (alive_any _).mono ?_
  rintro e w1 ⟨rfl, hb⟩
  go_wp2_with fail
  refine (alive_any _).mono ?_
  rintro e w2 ⟨rfl, hb2⟩
  go_wp2
  go_ret
  exact ⟨rfl, hb.trans (hb2.mono hb.size)⟩

theorem batchesLaw_any (n k s ep bi : Int) (he : ep ≤ 9223372036854775807) (w : World) :
    Calls Try.prog 10 #[.int .i64 n, .int .i64 k, .int .i64 s, .int .i64 ep, .int .i64 bi] w fun e w' => e = .returned (.bool true) ∧ Below w.heap.size w w' := by
  by_cases h : n ≤ 500 ∨ 4096 < n
  · exact batches_in n k s ep bi w h he
  · exact batches_out n k s ep bi w (by omega) (by omega)
end Go.Proofs.Ytdddbljkhhbdlaa
