/-
The contract of rng's below: a number is taken, and the draw's place moves on.
-/
import Derived.Test.YtdddbljkhhbdlaaTakes
import Derived.Test.YtdddbljkhhbdlaaOwn2
namespace Go.Proofs.Ytdddbljkhhbdlaa
open Go.RowKit

/-- A draw lies in a block of its own. -/
structure DrawAt (w : World) (g : Nat) (s t a : Int) : Prop where
  block : w.heap[g]? = some (.cells #[.int .i64 s, .int .i64 t, .int .i64 a] 141 (0, 0))
theorem DrawAt.cell {w : World} {g : Nat} {s t a : Int} (h : DrawAt w g s t a) (j : Nat) (v : Value) (hv : #[Value.int .i64 s, .int .i64 t, .int .i64 a][j]? = some v) : w.cell? ⟨g, j, none⟩ = some v := by
  rw [cell_of_row w g j _ 141 (0, 0) h.block]; exact hv
theorem DrawAt.c0 {w : World} {g : Nat} {s t a : Int} (h : DrawAt w g s t a) : w.cell? ⟨g, 0, none⟩ = some (.int .i64 s) := h.cell 0 _ rfl
theorem DrawAt.c1 {w : World} {g : Nat} {s t a : Int} (h : DrawAt w g s t a) : w.cell? ⟨g, 1, none⟩ = some (.int .i64 t) := h.cell 1 _ rfl
theorem DrawAt.c2 {w : World} {g : Nat} {s t a : Int} (h : DrawAt w g s t a) : w.cell? ⟨g, 2, none⟩ = some (.int .i64 a) := h.cell 2 _ rfl
theorem DrawAt.free {w : World} {g : Nat} {s t a : Int} (h : DrawAt w g s t a) (j : Nat) : w.frozen? ⟨g, j, none⟩ = false := by
  simp [World.frozen?, h.block]
theorem DrawAt.lt {w : World} {g : Nat} {s t a : Int} (h : DrawAt w g s t a) : g < w.heap.size := (Array.getElem?_eq_some_iff.1 h.block).1
theorem DrawAt.grown {w w' : World} {g : Nat} {s t a : Int} {r : Option Nat} (h : DrawAt w g s t a) (hg : w.grownBy w' r) (hne : some g ≠ r) : DrawAt w' g s t a :=
  ⟨(hg.block g h.lt hne).trans h.block⟩
theorem DrawAt.below {w w' : World} {g : Nat} {s t a : Int} (h : DrawAt w g s t a) (hb : Below w.heap.size w w') : DrawAt w' g s t a :=
  ⟨(hb.block g h.lt).trans h.block⟩

theorem heap_setCell (w : World) (g j : Nat) (v : Value) (i : Nat) (hi : i ≠ g) : (w.setCell ⟨g, j, none⟩ v).heap[i]? = w.heap[i]? := by
  simp only [World.setCell, Array.getElem?_modify]
  rw [if_neg (fun e => hi e.symm)]
theorem grownBy_setCell (w : World) (g j : Nat) (v : Value) : w.grownBy (w.setCell ⟨g, j, none⟩ v) (some g) :=
  ⟨rfl, rfl, rfl, by simp [World.setCell], fun i _ hne => heap_setCell w g j v i (fun e => hne (by rw [e]))⟩
theorem DrawAt.set {w : World} {g : Nat} {s t a : Int} (h : DrawAt w g s t a) (b : Int) : DrawAt (w.setCell ⟨g, 2, none⟩ (.int .i64 b)) g s t b := by
  refine ⟨?_⟩
  simp only [World.setCell, Array.getElem?_modify, if_true, h.block, Option.map_some]
  rfl
/-- How far a draw in the memory is from a word that is nought. -/
def farAt (s t : Int) (g : Nat) (w : World) : Nat :=
  match w.cell? ⟨g, 2, none⟩ with
  | some (.int .i64 a) => farU s t a
  | _ => 0
theorem farAt_eq {w : World} {g : Nat} {s t a : Int} (h : DrawAt w g s t a) : farAt s t g w = farU s t a := by
  unfold farAt; rw [h.c2]
theorem grownBy_trans {a b c : World} {r : Option Nat} (h : a.grownBy b r) (h2 : b.grownBy c r) : a.grownBy c r :=
  ⟨h2.os.trans h.os, h2.tape.trans h.tape, h2.output.trans h.output, Nat.le_trans h.size h2.size, fun i hi hne => (h2.block i (Nat.lt_of_lt_of_le hi h.size) hne).trans (h.block i hi hne)⟩
theorem over_eq (n : Nat) (h0 : 0 < n) (h1 : n ≤ 100000) : (IntKind.u64.wrap (-(n : Int))).tmod n = (overU n : Nat) := by
  rw [wrapU_eq]
  have h : (-(n : Int)) % 18446744073709551616 = ((18446744073709551616 - n : Nat) : Int) := by omega
  rw [h, Int.tmod_eq_emod_of_nonneg (by omega), ← Int.natCast_emod]
  unfold overU
  rw [← Nat.mod_eq_sub_mod (by omega)]
theorem taken_eq (x : Int) (n : Nat) (h0 : 0 < n) (h1 : n ≤ 100000) (_ : 0 ≤ x) : wrap64 (x % n) = ((x % n).toNat : Nat) := by
  have h2 := Int.emod_nonneg x (b := (n : Int)) (by omega)
  have h3 := Int.emod_lt_of_pos x (b := (n : Int)) (by omega)
  rw [wrap64_small _ (by omega) (by omega)]
  omega

set_option maxRecDepth 100000 in
set_option maxHeartbeats 2000000 in
theorem below_any (w : World) (g : Nat) (s t a : Int) (n : Nat) (h0 : 0 < n) (h1 : n ≤ 100000) (hd : DrawAt w g s t a) :
    Calls Try.prog 180 #[.pointer (some ⟨g, 0, none⟩), .int .i64 n] w fun e w' => ∃ j b, e = .returned (.int .i64 (j : Nat)) ∧ Takes s t n a j b ∧ DrawAt w' g s t b ∧ w.grownBy w' (some g) := by
  have ho := over_eq n h0 h1
  have ho1 := overU_lt n h0
  obtain ⟨o, hov⟩ : ∃ o, o = overU n := ⟨_, rfl⟩
  rw [← hov] at ho ho1
  have HO := Lib.hid hov
  clear hov
  go_enter Try.func180, Try.ntmps180
  go_wp2
  clear ho
  go_loopw [7] (fun _ wr => ∃ a1, DrawAt wr g s t a1 ∧ (∀ j b, Takes s t n a1 j b → Takes s t n a j b) ∧ w.grownBy wr (some g)) (fun _ wr => farAt s t g wr)
  case atStart => exact ⟨a, hd, fun _ _ h => h, grownBy_refl _ _⟩
  case round =>
    obtain ⟨a1, hd1, ht, hg⟩ := hrel
    have d0 := hd1.c0
    have d1 := hd1.c1
    have d2 := hd1.c2
    go_wp2_with fail
    refine (word_any s t a1 _).mono ?_
    rintro e w2 ⟨rfl, hb2⟩
    have hd2 := hd1.below hb2
    have hg2 := grownBy_trans hg (grownBy_of_below hb2 (some g))
    clear d0 d1 d2
    have d2 := hd2.c2
    have hf := hd2.free 2
    have hx := wordU_range s t a1
    by_cases hacc : wordU s t a1 ≤ 18446744073709551615 - (o : Int)
    · obtain ⟨x, hxx⟩ : ∃ x, x = wordU s t a1 := ⟨_, rfl⟩
      rw [← hxx] at hx hacc ⊢
      have HX := Lib.hid hxx
      clear hxx
      have hx0 := hx.1
      have hx1 := hx.2
      have hte := taken_eq x n h0 h1 hx0
      clear hx
      go_wp2
      rw [hte]
      go_ret
      refine ⟨_, _, ?_, ht _ _ (.done a1 (by rw [← HX.out, ← HO.out]; exact hacc)), hd2.set _, grownBy_trans hg2 (grownBy_setCell _ _ _ _)⟩
      rw [← HX.out]
      rfl
    · have hw0 : wordU s t a1 ≠ 0 := by omega
      have hfar : farU s t a1 ≠ 0 := fun e => hw0 (wordU_zero s t a1 e)
      have hnext := farU_next s t a1 hfar
      go_wp2
      go_roundw
      case rel => exact ⟨_, hd2.set _, fun j b h => ht _ _ (.skip a1 j b (by rw [← HO.out]; omega) h), grownBy_trans hg2 (grownBy_setCell _ _ _ _)⟩
      case measure => rw [farAt_eq hd1, farAt_eq (hd2.set _)]; exact hnext
end Go.Proofs.Ytdddbljkhhbdlaa
