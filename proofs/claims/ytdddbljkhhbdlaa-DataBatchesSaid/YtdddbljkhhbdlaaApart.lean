/-
Apart, of a book of lists of numbers: it answers true.
-/
import Derived.Test.YtdddbljkhhbdlaaPut
import Derived.Test.YtdddbljkhhbdlaaMarked
import Derived.Test.YtdddbljkhhbdlaaGrow
import Derived.Test.YtdddbljkhhbdlaaNone
namespace Go.Proofs.Ytdddbljkhhbdlaa
open Go.RowKit

theorem GrowI.rowAt {w : World} {B n k : Nat} {O v0 : Value} {V V' : Nat → Value} {N : Nat → Nat} (h : GrowI w B n k O v0 V V' N) : ∀ i, i < n → w.ownsRow B 3 1 (V i) (N i) (cellsI (marksI i 0 (N i))) := fun i hi => by
  have := h.base.row i hi
  rw [marksI_length] at this
  exact this

set_option maxRecDepth 100000 in
set_option maxHeartbeats 4000000 in
theorem apartInts_any (w : World) (bb : Nat) (v0 w0 : Value) (hk : BookAt w bb v0 w0 (.slice none 0 0) (.slice none 0 0)) (B n : Nat) (hn : n ≤ 400) (hB : B ≤ w.heap.size) (V W : Nat → Value) (X : Nat → List Int)
    (hv : w.ownsRow B 43 1 v0 n ((List.range n).map V)) (hw : w.ownsRow B 43 1 w0 n ((List.range n).map W))
    (hV : Lists cellsI 3 1 w B n V X) (hW : Lists cellsI 3 1 w B n W X) (hX : ∀ i, i < n → (X i).length ≤ 90000) :
    Calls Try.prog 16 #[.pointer (some ⟨bb, 0, none⟩)] w fun e w' => e = .returned (.bool true) ∧ Below B w w' := by
  have HX := Lib.hid hX
  clear hX
  have d0 := hk.c0
  have d2 := hk.c2
  have d4 := hk.c4
  have d6 := hk.c6
  have d8 := hk.c8
  have d10 := hk.c10
  have d12 := hk.c12
  have d14 := hk.c14
  have tok1 : True := trivial
  go_enter Try.func16, Try.ntmps16
  go_wp2_with (first
    | (go_at_call 50; refine (stillInts_any _ _ _ _ _ _ hk B n hn V W X hv hw hV hW (fun i hi => Nat.le_trans (HX.out i hi) (by decide))).mono ?_; rintro e w' ⟨rfl, q, rfl⟩)
    | (go_at_call 58; refine (putInts_any _ _ _ _ _ _ (by exact hk.below (below_drewN (Below.refl _ _) _)) B n hn (by exact hB) V X (by exact hv) (by exact hV.below (below_drewN (Below.refl _ _) _)) (fun i hi => Nat.le_trans (HX.out i hi) (by decide))).mono ?_; rintro e w2 ⟨rfl, hk2, hv2, hV2, hb2⟩; have e0 := hk2.c0; have e2 := hk2.c2; have e4 := hk2.c4; have e6 := hk2.c6; have e8 := hk2.c8; have e10 := hk2.c10; have e12 := hk2.c12; have e14 := hk2.c14; have hB2 : B ≤ w2.heap.size := Nat.le_trans hB hb2.size)
    | (go_at_call 66; refine (growInts_any _ _ _ _ _ _ hk2 B n hn hB2 V (fun i => (X i).length) hv2 hV2 (fun i hi => Nat.le_trans (HX.out i hi) (by decide))).mono ?_; rintro e w3 ⟨O, V', rfl, hG, hk3, hb3⟩; have f0 := hk3.c0; have f2 := hk3.c2; have f4 := hk3.c4; have f6 := hk3.c6; have f8 := hk3.c8; have f10 := hk3.c10; have f12 := hk3.c12; have f14 := hk3.c14)
    | (go_at_call 74; have _t := tok1; refine (markedInts_any _ B n hn _ V (fun i => (X i).length) hG.top hG.rowAt (fun i hi => Nat.le_trans (HX.out i hi) (by decide))).mono ?_; rintro e w4 ⟨rfl, hb4⟩; clear tok1; have hG4 := hG.below hb4; have hk4 := hk3.below hb4; have g0 := hk4.c0; have g2 := hk4.c2; have g4 := hk4.c4; have g6 := hk4.c6; have g8 := hk4.c8; have g10 := hk4.c10; have g12 := hk4.c12; have g14 := hk4.c14)
    | (go_at_call 74; refine (markedInts_any _ B n hn _ V' (fun i => (X i).length + 96) hG4.out hG4.rows (fun i hi => Nat.le_trans (Nat.add_le_add_right (HX.out i hi) 96) (by decide))).mono ?_; rintro e w5 ⟨rfl, hb5⟩; have hk5 := hk4.below hb5; have h0 := hk5.c0; have h2 := hk5.c2; have h4 := hk5.c4; have h6 := hk5.c6; have h8 := hk5.c8; have h10 := hk5.c10; have h12 := hk5.c12; have h14 := hk5.c14)
    | (go_at_call 51; refine (stillPairs_none _ _ (by first | exact f2 | exact e2 | exact d2)).mono ?_; rintro e w' ⟨rfl, rfl⟩)
    | (go_at_call 59; refine (putPairs_none _ _ (by first | exact f2 | exact e2 | exact d2)).mono ?_; rintro e w' ⟨rfl, rfl⟩)
    | (go_at_call 67; refine (growPairs_none _ _ (by first | exact f2 | exact e2 | exact d2)).mono ?_; rintro e w' ⟨rfl, rfl⟩)
    | (go_at_call 75; refine (markedPairs_none _).mono ?_; rintro e w' ⟨rfl, rfl⟩)
    | (go_at_call 52; refine (stillBools_none _ _ (by first | exact f4 | exact e4 | exact d4)).mono ?_; rintro e w' ⟨rfl, rfl⟩)
    | (go_at_call 60; refine (putBools_none _ _ (by first | exact f4 | exact e4 | exact d4)).mono ?_; rintro e w' ⟨rfl, rfl⟩)
    | (go_at_call 68; refine (growBools_none _ _ (by first | exact f4 | exact e4 | exact d4)).mono ?_; rintro e w' ⟨rfl, rfl⟩)
    | (go_at_call 76; refine (markedBools_none _).mono ?_; rintro e w' ⟨rfl, rfl⟩)
    | (go_at_call 53; refine (stillTraces_none _ _ (by first | exact f6 | exact e6 | exact d6)).mono ?_; rintro e w' ⟨rfl, rfl⟩)
    | (go_at_call 61; refine (putTraces_none _ _ (by first | exact f6 | exact e6 | exact d6)).mono ?_; rintro e w' ⟨rfl, rfl⟩)
    | (go_at_call 69; refine (growTraces_none _ _ (by first | exact f6 | exact e6 | exact d6)).mono ?_; rintro e w' ⟨rfl, rfl⟩)
    | (go_at_call 77; refine (markedTraces_none _).mono ?_; rintro e w' ⟨rfl, rfl⟩)
    | (go_at_call 54; refine (stillMats_none _ _ (by first | exact f8 | exact e8 | exact d8)).mono ?_; rintro e w' ⟨rfl, rfl⟩)
    | (go_at_call 62; refine (putMats_none _ _ (by first | exact f8 | exact e8 | exact d8)).mono ?_; rintro e w' ⟨rfl, rfl⟩)
    | (go_at_call 70; refine (growMats_none _ _ (by first | exact f8 | exact e8 | exact d8)).mono ?_; rintro e w' ⟨rfl, rfl⟩)
    | (go_at_call 78; refine (markedMats_none _).mono ?_; rintro e w' ⟨rfl, rfl⟩)
    | (go_at_call 55; refine (stillNodes_none _ _ (by first | exact f10 | exact e10 | exact d10)).mono ?_; rintro e w' ⟨rfl, rfl⟩)
    | (go_at_call 63; refine (putNodes_none _ _ (by first | exact f10 | exact e10 | exact d10)).mono ?_; rintro e w' ⟨rfl, rfl⟩)
    | (go_at_call 71; refine (growNodes_none _ _ (by first | exact f10 | exact e10 | exact d10)).mono ?_; rintro e w' ⟨rfl, rfl⟩)
    | (go_at_call 79; refine (markedNodes_none _).mono ?_; rintro e w' ⟨rfl, rfl⟩)
    | (go_at_call 56; refine (stillAccs_none _ _ (by first | exact f12 | exact e12 | exact d12)).mono ?_; rintro e w' ⟨rfl, rfl⟩)
    | (go_at_call 64; refine (putAccs_none _ _ (by first | exact f12 | exact e12 | exact d12)).mono ?_; rintro e w' ⟨rfl, rfl⟩)
    | (go_at_call 72; refine (growAccs_none _ _ (by first | exact f12 | exact e12 | exact d12)).mono ?_; rintro e w' ⟨rfl, rfl⟩)
    | (go_at_call 80; refine (markedAccs_none _).mono ?_; rintro e w' ⟨rfl, rfl⟩)
    | (go_at_call 57; refine (stillMails_none _ _ (by first | exact f14 | exact e14 | exact d14)).mono ?_; rintro e w' ⟨rfl, rfl⟩)
    | (go_at_call 65; refine (putMails_none _ _ (by first | exact f14 | exact e14 | exact d14)).mono ?_; rintro e w' ⟨rfl, rfl⟩)
    | (go_at_call 73; refine (growMails_none _ _ (by first | exact f14 | exact e14 | exact d14)).mono ?_; rintro e w' ⟨rfl, rfl⟩)
    | (go_at_call 81; refine (markedMails_none _).mono ?_; rintro e w' ⟨rfl, rfl⟩))
  go_ret
  have hB3 : B ≤ w3.heap.size := Nat.le_trans hB2 hb3.size
  have hB4 : B ≤ w4.heap.size := Nat.le_trans hB3 hb4.size
  exact ⟨rfl, ((((below_drewN (Below.refl B w) q).trans hb2).trans hb3).trans (hb4.mono hB3)).trans (hb5.mono hB4)⟩
end Go.Proofs.Ytdddbljkhhbdlaa
