/-
markedInts: lists that hold their marks are found to hold them.
-/
import Derived.Test.YtdddbljkhhbdlaaBook
import Derived.Deep.RegionHeld3
import Derived.Deep.DeepMust
namespace Go.Proofs.Ytdddbljkhhbdlaa
open Go.RowKit

set_option maxRecDepth 100000 in
set_option maxHeartbeats 2000000 in
theorem markedInts_any (w : World) (B n : Nat) (hn : n ≤ 400) (v : Value) (V : Nat → Value) (N : Nat → Nat)
    (hv : w.ownsRow B 43 1 v n ((List.range n).map V))
    (hV : ∀ i, i < n → w.ownsRow B 3 1 (V i) (N i) (cellsI (marksI i 0 (N i)))) (hN : ∀ i, i < n → N i ≤ 100000) :
    Calls Try.prog 74 #[v] w fun e w' => e = .returned (.bool true) ∧ Below w.heap.size w w' := by
  have HV := Lib.hid hV
  have HN := Lib.hid hN
  clear hV hN
  obtain ⟨aa, ca, rfl, na, fa⟩ := own_form hv
  by_cases h0 : n = 0
  · subst h0
    clear na fa hv HV HN
    go_enter Try.func74, Try.ntmps74
    go_wp2
    refine wp_loop_rounds 1 ?_
    rw [rounds_succ]
    go_wp2
    go_ret
    exact ⟨rfl, Below.refl _ _⟩
  · cases aa with
    | none => exact absurd (na rfl).1 h0
    | some da =>
    obtain ⟨ga, rfl, _, _⟩ := fa da rfl
    clear fa na
    go_enter Try.func74, Try.ntmps74
    go_wp2
    go_loopw [3] (fun i wr => ∃ k : Nat, k ≤ n ∧ i = .int .i64 k ∧ Below w.heap.size w wr) (fun i _ => n - (intOf i).toNat)
    case atStart => exact ⟨0, Nat.zero_le _, rfl, Below.refl _ _⟩
    case round =>
      obtain ⟨k, hkn, rfl, hb⟩ := hrel
      by_cases hlt : k < n
      · have e0 := own_cellV (own_below hv hb (Nat.le_refl _)) k hlt
        have rk := own_below (HV.out k hlt) hb (Nat.le_refl _)
        have hx := HN.out k hlt
        obtain ⟨len, hlen⟩ : ∃ len, len = N k := ⟨_, rfl⟩
        rw [← hlen] at rk hx
        obtain ⟨a1, c1, f1, _, _⟩ := own_form rk
        rw [f1] at e0 rk
        clear f1 hlen
        have hml := marksI_length k 0 len
        have HM := Lib.hid hml
        clear hml
        go_wp2
        go_region_held3 (fun w' => w'.cell? ⟨ga, k, none⟩ = some (.slice a1 len c1)) (first | exact e0 | exact e2)
          (first
            | (go_at_call 122; go_must (refine (markInts_any (k : Int) 0 (len : Int) _ (by omega) (by omega) (by omega) (by omega) (by omega) (by omega)).mono ?_; rintro e w2 ⟨m, rfl, hm, hb2⟩; simp only [Int.toNat_natCast, Int.toNat_zero] at hm; have rk2 := own_below (by exact rk) hb2 (Nat.le_refl _); have e2 := (hb2.cell (p := ⟨ga, k, none⟩) (by exact World.block_lt_of_cell? _ _ e0)).trans (by exact e0)))
            | (go_at_call 89; go_must (refine (sameInts_any (marksI k 0 len) (by rw [HM.out]; omega) _ _ _ _ _ (by rw [HM.out]; exact rk2) (by rw [HM.out]; exact hm)).mono ?_; rintro e w3 ⟨rfl, q, rfl⟩)))
        have hb3 : Below w.heap.size w (w2.drewN q) := below_drewN (hb.drew.trans (hb2.mono hb.size)) q
        clear hb2
        go_wp2
        go_roundw
        case rel => exact ⟨k + 1, hlt, by go_num, hb3⟩
        case measure => simp [intOf]; omega
      · obtain rfl : k = n := by omega
        go_wp2
        go_ret
        exact ⟨rfl, hb⟩
end Go.Proofs.Ytdddbljkhhbdlaa
