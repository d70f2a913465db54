/-
The contracts of the document's own Next and Below.
-/
import Derived.Test.YtdddbljkhhbdlaaOrder
namespace Go.Proofs.Ytdddbljkhhbdlaa
open Go.RowKit

theorem nextU (a : Int) : IntKind.i64.wrap (IntKind.u64.wrap (IntKind.u64.wrap a + 1)) = wrap64 (a + 1) := by
  rw [IntWalk.i64_left, wrapU_eq, wrapU_eq]
  unfold wrap64
  omega
theorem backU (x : Int) (h0 : 0 ≤ x) (h1 : x ≤ 18446744073709551615) : IntKind.u64.wrap (wrap64 x) = x := by
  rw [wrapU_eq]
  unfold wrap64
  omega

set_option maxRecDepth 100000 in
set_option maxHeartbeats 2000000 in
theorem refnext_any (w : World) (s t a : Int) :
    Calls Try.prog 181 #[drawV s t a] w fun e w' => e = .returned (.tuple #[.int .i64 (wrap64 (wordU s t a)), drawV s t (wrap64 (a + 1))]) ∧ Below w.heap.size w w' := by
  have hnu := nextU a
  unfold drawV
  go_enter Try.func181, Try.ntmps181
  go_wp2_with fail
  obtain ⟨w1, hw1, hd, hd2, hb1, hs1⟩ := boxes141 w s t a 0 0 0
  rw [← hw1]
  clear hw1
  refine (wordr_any s t a _).mono ?_
  rintro e w2 ⟨rfl, hb2⟩
  have hd3 := hd.below hb2
  have hd4 := hd2.below hb2
  have hb3 := hb1.trans (hb2.mono hb1.size)
  clear hd hd2 hb1 hb2
  have c0 := hd3.c0
  have c1 := hd3.c1
  have c2 := hd3.c2
  have f0 := hd3.free 2
  go_wp2_with fail
  obtain ⟨w3, hw3⟩ : ∃ w3, w3 = w2.setCell ⟨w.heap.size, 2, none⟩ (.int .i64 (wrap64 (a + 1))) := ⟨_, rfl⟩
  have hd5 := hd3.set (wrap64 (a + 1))
  have hg := grownBy_setCell w2 w.heap.size 2 (.int .i64 (wrap64 (a + 1)))
  rw [← hw3] at hd5 hg ⊢
  have hd6 := hd4.grown hg (by simp)
  have hb4 := hb3.grown hg hb3.size (fun q hq => by cases hq; exact Nat.le_refl _)
  clear hw3 c0 c1 c2 f0 hd3 hd4 hb3 hg
  have c0 := hd5.c0
  have c1 := hd5.c1
  have c2 := hd5.c2
  have e0 := hd6.c0
  have e1 := hd6.c1
  have e2 := hd6.c2
  have f0 := hd6.free 0
  have f1 := hd6.free 1
  have f2 := hd6.free 2
  go_region
  go_wp2
  obtain ⟨w4, hw4, hd7, hg7⟩ := hd6.put3 s t (wrap64 (a + 1))
  rw [← hw4]
  clear hw4 e0 e1 e2 f0 f1 f2 c0 c1 c2
  have e0 := hd7.c0
  have e1 := hd7.c1
  have e2 := hd7.c2
  refine bodyPost_ret (by simp [results, Try.results181, go_sem, e0, e1, e2]; try rfl) rfl ?_
  exact ⟨by rw [IntWalk.i64_left], hb4.grown hg7 hb4.size (fun q hq => by cases hq; omega)⟩

theorem DrawAt.put3' {w : World} {g : Nat} {x y z : Int} (h : DrawAt w g x y z) (s t a : Int) : ∃ w1, w1 = ((w.setCell ⟨g, 0, none⟩ (.int .i64 s)).setCell ⟨g, 1, none⟩ (.int .i64 t)).setCell ⟨g, 2, none⟩ (.int .i64 a) ∧
    DrawAt w1 g s t a ∧ w.grownBy w1 (some g) := by
  obtain ⟨w1, hw1, hd, hg⟩ := h.put3 s t a
  subst hw1
  exact ⟨_, rfl, ⟨hd.block⟩, ⟨hg.os, hg.tape, hg.output, hg.size, hg.block⟩⟩
theorem rest_eq (n : Nat) (h0 : 0 < n) (h1 : n ≤ 100000) : (IntKind.u64.wrap ((9223372036854775808 : Int) % n + (9223372036854775808 : Int) % n)).tmod n = (overU n : Nat) := by
  have a0 := Int.emod_nonneg (9223372036854775808 : Int) (b := (n : Int)) (by omega)
  have a1 := Int.emod_lt_of_pos (9223372036854775808 : Int) (b := (n : Int)) (by omega)
  rw [wrapU_eq]
  have e : ((9223372036854775808 : Int) % n + (9223372036854775808 : Int) % n) % 18446744073709551616 = (9223372036854775808 : Int) % n + (9223372036854775808 : Int) % n := by omega
  rw [e, Int.tmod_eq_emod_of_nonneg (by omega), ← Int.add_emod]
  unfold overU
  rfl
theorem negU (o : Nat) (h0 : 0 < o) (h1 : o ≤ 100000) : IntKind.u64.wrap (-(o : Int)) = 18446744073709551616 - (o : Int) := by
  rw [wrapU_eq]
  omega

set_option maxRecDepth 100000 in
set_option maxHeartbeats 2000000 in
theorem refbelow_any (w : World) (s t a : Int) (n : Nat) (h0 : 0 < n) (h1 : n ≤ 100000) :
    Calls Try.prog 158 #[drawV s t a, .int .i64 n] w fun e w' => ∃ j b, e = .returned (.tuple #[.int .i64 (j : Nat), drawV s t b]) ∧ Takes s t n a j b ∧ Below w.heap.size w w' := by
  have hre := rest_eq n h0 h1
  have ho1 := overU_lt n h0
  obtain ⟨o, hov⟩ : ∃ o, o = overU n := ⟨_, rfl⟩
  rw [← hov] at hre ho1
  have HO := Lib.hid hov
  clear hov
  have hn0 : ((n : Int) == 0) = false := by simp; omega
  unfold drawV
  go_enter Try.func158, Try.ntmps158
  go_wp2_with fail
  obtain ⟨w1, hw1, hd, hd2, hb1, hs1⟩ := boxes141 w s t a 0 0 0
  rw [← hw1]
  clear hw1
  go_quiet (fail)
  go_wp2
  clear hre
  have hd' : DrawAt (w1.drewN nq) w.heap.size s t a := ⟨hd.block⟩
  have hd2' : DrawAt (w1.drewN nq) (w.heap.size + 1) 0 0 0 := ⟨hd2.block⟩
  have hb1' := below_drewN hb1 nq
  obtain ⟨w2, hw2⟩ : ∃ w2, w2 = w1.drewN nq := ⟨_, rfl⟩
  rw [← hw2] at hd' hd2' hb1' ⊢
  clear hd hd2 hb1 hw2 hs1
  go_loopw [8, 9] (fun _ _ wr => ∃ a1, DrawAt wr w.heap.size s t a1 ∧ DrawAt wr (w.heap.size + 1) 0 0 0 ∧ (∀ j b, Takes s t n a1 j b → Takes s t n a j b) ∧ Below w.heap.size w wr) (fun _ _ wr => farAt s t w.heap.size wr)
  case atStart => exact ⟨a, hd', hd2', fun _ _ h => h, hb1'⟩
  case round =>
    obtain ⟨a1, hd, hd2, ht, hb⟩ := hrel
    clear hd' hd2' hb1'
    have c0 := hd.c0
    have c1 := hd.c1
    have c2 := hd.c2
    go_wp2_with fail
    refine (refnext_any _ s t a1).mono ?_
    rintro e w3 ⟨rfl, hb3⟩
    have hd3 := hd.below hb3
    have hd4 := hd2.below hb3
    have hb4 := hb.trans (hb3.mono hb.size)
    have hsz := hb4.size
    have hfar := farAt_eq hd
    have hls := hd4.lt
    clear c0 c1 c2 hd hd2 hb hb3
    have ha : DrawAt (w3.alloc (.cells #[.int .i64 s, .int .i64 t, .int .i64 (wrap64 (a1 + 1))] 141)) w.heap.size s t a1 := hd3.below ((Below.refl _ _).alloc (Nat.le_refl _) _)
    have c0 := ha.c0
    have c1 := ha.c1
    have c2 := ha.c2
    have f0 := ha.free 0
    have f1 := ha.free 1
    have f2 := ha.free 2
    have hne : w.heap.size ≠ w3.heap.size := by omega
    have hx := wordU_range s t a1
    obtain ⟨x, hxx⟩ : ∃ x, x = wordU s t a1 := ⟨_, rfl⟩
    rw [← hxx] at hx
    have hx0 := hx.1
    have hx1 := hx.2
    have hbx := backU x hx0 hx1
    have hte := taken_eq x n h0 h1 hx0
    clear hx
    have hcase : o = 0 ∨ (0 < o ∧ x < 18446744073709551616 - (o : Int)) ∨ (0 < o ∧ 18446744073709551616 - (o : Int) ≤ x) := by omega
    rcases hcase with rfl | ⟨hp, hlt⟩ | ⟨hp, hge⟩
    · have HX := Lib.hid hxx
      unfold drawV
      rw [← hxx]
      clear hxx
      go_wp2_with fail
      obtain ⟨w4, hw4, hd5, hg5⟩ := ha.put3' s t (wrap64 (a1 + 1))
      rw [← hw4]
      have hd6 := (hd4.below ((Below.refl w3.heap.size w3).alloc (Nat.le_refl _) _)).grown hg5 (by simp)
      have hb5 := (hb4.alloc hsz (.cells #[.int .i64 s, .int .i64 t, .int .i64 (wrap64 (a1 + 1))] 141)).grown hg5 (by simp [go_sem]; omega) (fun q hq => by cases hq; exact Nat.le_refl _)
      clear hw4 ha c0 c1 c2 f0 f1 f2 hd3 hd4 hb4 hg5
      have c0 := hd5.c0
      have c1 := hd5.c1
      have c2 := hd5.c2
      have e0 := hd6.c0
      have e1 := hd6.c1
      have e2 := hd6.c2
      have f0 := hd6.free 0
      have f1 := hd6.free 1
      have f2 := hd6.free 2
      go_region
      go_wp2
      obtain ⟨w5, hw5, hd7, hg7⟩ := hd6.put3 s t (wrap64 (a1 + 1))
      rw [← hw5]
      clear hw5 e0 e1 e2 f0 f1 f2 c0 c1 c2
      have e0 := hd7.c0
      have e1 := hd7.c1
      have e2 := hd7.c2
      rw [hte]
      refine bodyPost_ret (by simp [results, Try.results158, go_sem, e0, e1, e2]; try rfl) rfl ?_
      exact ⟨_, _, by rw [HX.out, Int.ofNat_toNat], ht _ _ (.done a1 (by rw [← HO.out, ← HX.out]; omega)), hb5.grown hg7 hb5.size (fun q hq => by cases hq; omega)⟩
    · have hno := negU o hp (by omega)
      have HX := Lib.hid hxx
      unfold drawV
      rw [← hxx]
      clear hxx
      go_wp2_with fail
      obtain ⟨w4, hw4, hd5, hg5⟩ := ha.put3' s t (wrap64 (a1 + 1))
      rw [← hw4]
      have hd6 := (hd4.below ((Below.refl w3.heap.size w3).alloc (Nat.le_refl _) _)).grown hg5 (by simp)
      have hb5 := (hb4.alloc hsz (.cells #[.int .i64 s, .int .i64 t, .int .i64 (wrap64 (a1 + 1))] 141)).grown hg5 (by simp [go_sem]; omega) (fun q hq => by cases hq; exact Nat.le_refl _)
      clear hw4 ha c0 c1 c2 f0 f1 f2 hd3 hd4 hb4 hg5
      have c0 := hd5.c0
      have c1 := hd5.c1
      have c2 := hd5.c2
      have e0 := hd6.c0
      have e1 := hd6.c1
      have e2 := hd6.c2
      have f0 := hd6.free 0
      have f1 := hd6.free 1
      have f2 := hd6.free 2
      go_region
      go_wp2
      obtain ⟨w5, hw5, hd7, hg7⟩ := hd6.put3 s t (wrap64 (a1 + 1))
      rw [← hw5]
      clear hw5 e0 e1 e2 f0 f1 f2 c0 c1 c2
      have e0 := hd7.c0
      have e1 := hd7.c1
      have e2 := hd7.c2
      rw [hte]
      refine bodyPost_ret (by simp [results, Try.results158, go_sem, e0, e1, e2]; try rfl) rfl ?_
      exact ⟨_, _, by rw [HX.out, Int.ofNat_toNat], ht _ _ (.done a1 (by rw [← HO.out, ← HX.out]; omega)), hb5.grown hg7 hb5.size (fun q hq => by cases hq; omega)⟩
    · have hno := negU o hp (by omega)
      have hw0 : wordU s t a1 ≠ 0 := by rw [← hxx]; omega
      have hfu : farU s t a1 ≠ 0 := fun e => hw0 (wordU_zero s t a1 e)
      have hnext := farU_next s t a1 hfu
      have HX := Lib.hid hxx
      unfold drawV
      rw [← hxx]
      clear hxx
      have hoz : ((o : Int) == 0) = false := by simp; omega
      have hdl : decide (x < 18446744073709551616 - (o : Int)) = false := decide_eq_false (by omega)
      go_wp2
      obtain ⟨w4, hw4, hd5, hg5⟩ := ha.put3' s t (wrap64 (a1 + 1))
      rw [← hw4]
      have hd6 := (hd4.below ((Below.refl w3.heap.size w3).alloc (Nat.le_refl _) _)).grown hg5 (by simp)
      have hb5 := (hb4.alloc hsz (.cells #[.int .i64 s, .int .i64 t, .int .i64 (wrap64 (a1 + 1))] 141)).grown hg5 (by simp [go_sem]; omega) (fun q hq => by cases hq; exact Nat.le_refl _)
      clear hw4 ha c0 c1 c2 f0 f1 f2 hd3 hd4 hb4 hg5
      go_roundw
      case rel => exact ⟨_, hd5, hd6, fun j b h => ht _ _ (.skip a1 j b (by rw [← HO.out, ← HX.out]; omega) h), hb5⟩
      case measure => rw [hfar, farAt_eq hd5]; exact hnext
end Go.Proofs.Ytdddbljkhhbdlaa
