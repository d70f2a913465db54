/-
The contract of StaysSet: a lent set that is what it was.
-/
import Derived.Test.YtdddbljkhhbdlaaLentSet
import Derived.Test.YtdddbljkhhbdlaaStays
namespace Go.Proofs.Ytdddbljkhhbdlaa
open Go.RowKit

theorem stays_any (B : Nat) (vx vl : Value) (xs : List Int) (w : World) (hx : LentAt w B vx xs) (hv : ReadI w vl xs) (hl : xs.length ≤ 100000) :
    Calls Try.prog 29 #[vx, vl] w fun e w' => e = .returned (.bool true) ∧ Below w.heap.size w w' := by
  obtain ⟨g, cap, rfl, hr⟩ := hx
  rcases hv with ⟨rfl, rfl⟩ | ⟨b, off, c, rfl, _, hcell⟩
  · exact stays_nil B g cap w hr
  · exact stays_some B g cap b off xs.length c xs w rfl hl hcell hr

set_option maxRecDepth 100000 in
set_option maxHeartbeats 1000000 in
theorem staysSet_any (B : Nat) (r c wd : Int) (u v : Value) (xs : List Int) (r2 c2 wd2 : Int) (u2 v2 : Value) (ys : List Int) (w : World)
    (hu : LentAt w B u xs) (hv : ReadI w v xs) (hu2 : LentAt w B u2 ys) (hv2 : ReadI w v2 ys) (hx : xs.length ≤ 100000) (hy : ys.length ≤ 100000) :
    Calls Try.prog 21 #[setV r c wd u r2 c2 wd2 u2, setV r c wd v r2 c2 wd2 v2] w fun e w' => e = .returned (.bool true) ∧ Below w.heap.size w w' := by
  have HU := Lib.hid hu
  have HV := Lib.hid hv
  have HU2 := Lib.hid hu2
  have HV2 := Lib.hid hv2
  clear hu hv hu2 hv2
  unfold setV
  go_enter Try.func21, Try.ntmps21
  go_wp2_with fail
  obtain ⟨w1, hw1, hM, hb1, hs1⟩ := boxSet w r c wd u r2 c2 wd2 u2
  rw [← hw1]
  obtain ⟨w2, hw2, hN, hb2, hs2⟩ := boxSet w1 r c wd v r2 c2 wd2 v2
  rw [hs1] at hN
  rw [← hw2]
  clear hw1 hw2
  have hM2 := hM.below hb2
  have hbw := hb1.trans (hb2.mono hb1.size)
  clear hM hb1 hb2
  have a0 := hM2.c0
  have a3 := hM2.c3
  have a4 := hM2.c4
  have a7 := hM2.c7
  have d0 := hN.c0
  have d3 := hN.c3
  have d4 := hN.c4
  have d7 := hN.c7
  refine (stays_any B u v xs w2 (HU.out.below hbw) (HV.out.below hbw) hx).mono ?_
  rintro e w3 ⟨rfl, hb3⟩
  have hM3 := hM2.below hb3
  have hN3 := hN.below hb3
  have hbw3 := hbw.trans (hb3.mono hbw.size)
  clear hM2 hN hbw hb3 a0 a3 a4 a7 d0 d3 d4 d7
  have a0 := hM3.c0
  have a3 := hM3.c3
  have a4 := hM3.c4
  have a7 := hM3.c7
  have d0 := hN3.c0
  have d3 := hN3.c3
  have d4 := hN3.c4
  have d7 := hN3.c7
  go_wp2_with fail
  refine (stays_any B u2 v2 ys w3 (HU2.out.below hbw3) (HV2.out.below hbw3) hy).mono ?_
  rintro e w4 ⟨rfl, hb4⟩
  have hM4 := hM3.below hb4
  have hN4 := hN3.below hb4
  have hbw4 := hbw3.trans (hb4.mono hbw3.size)
  clear hM3 hN3 hbw3 hb4 a0 a3 a4 a7 d0 d3 d4 d7
  have a0 := hM4.c0
  have a4 := hM4.c4
  have d0 := hN4.c0
  have d4 := hN4.c4
  go_wp2
  go_ret
  exact ⟨rfl, hbw4⟩
end Go.Proofs.Ytdddbljkhhbdlaa
