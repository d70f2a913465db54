/-
The book's pairs in memory, and the contract of stillPairs.
-/
import Derived.Test.YtdddbljkhhbdlaaSameP
import Derived.Test.YtdddbljkhhbdlaaBook
namespace Go.Proofs.Ytdddbljkhhbdlaa
open Go.RowKit

set_option maxRecDepth 100000 in
set_option maxHeartbeats 1000000 in
theorem stillPairs_any (w : World) (bb : Nat) (v0 w0 v1 w1 : Value) (hk : BookAt w bb v0 w0 v1 w1) (B n : Nat) (hn : n ≤ 400) (V W : Nat → Value) (X : Nat → List (Int × Int))
    (hv : w.ownsRow B 23 1 v1 n ((List.range n).map V)) (hw : w.ownsRow B 23 1 w1 n ((List.range n).map W))
    (hV : Lists cellsP 29 2 w B n V X) (hW : Lists cellsP 29 2 w B n W X) (hX : ∀ i, i < n → (X i).length ≤ 1000000) :
    Calls Try.prog 51 #[.pointer (some ⟨bb, 0, none⟩)] w fun e w' => e = .returned (.bool true) ∧ ∃ q, w' = w.drewN q := by
  obtain ⟨aa, ca, rfl, na, fa⟩ := own_form hv
  obtain ⟨ab, cb, rfl, nb, fb⟩ := own_form hw
  have d0 := hk.c2
  have d1 := hk.c3
  have HX := Lib.hid hX
  clear hX
  by_cases h0 : n = 0
  · subst h0
    clear nb fb hv hw hV hW HX
    clear na fa
    go_enter Try.func51, Try.ntmps51
    go_wp2
    refine wp_loop_rounds 1 ?_
    rw [rounds_succ]
    go_wp2
    go_ret
    exact ⟨rfl, 0, rfl⟩
  · cases aa with
    | none => exact absurd (na rfl).1 h0
    | some da =>
    cases ab with
    | none => exact absurd (nb rfl).1 h0
    | some db =>
    obtain ⟨ga, rfl, _, _⟩ := fa da rfl
    obtain ⟨gb, rfl, _, _⟩ := fb db rfl
    clear fa fb na nb
    go_enter Try.func51, Try.ntmps51
    go_wp2
    go_loopw [3] (fun i wr => ∃ k q : Nat, k ≤ n ∧ i = .int .i64 k ∧ Hid (wr = w.drewN q)) (fun i _ => n - (intOf i).toNat)
    case atStart => exact ⟨0, 0, Nat.zero_le _, rfl, rfl⟩
    case round =>
      obtain ⟨k, q, hkn, rfl, HQ⟩ := hrel
      have d0' : wr.cell? ⟨bb, 2, none⟩ = some (.slice (some ⟨ga, 0, none⟩) n ca) := by rw [HQ.out]; exact d0
      have d1' : wr.cell? ⟨bb, 3, none⟩ = some (.slice (some ⟨gb, 0, none⟩) n cb) := by rw [HQ.out]; exact d1
      by_cases hlt : k < n
      · have rv := hV.row k hlt
        have rw_ := hW.row k hlt
        have e0 : wr.cell? ⟨ga, k, none⟩ = some (V k) := by rw [HQ.out]; exact own_cellV hv k hlt
        have e1 : wr.cell? ⟨gb, k, none⟩ = some (W k) := by rw [HQ.out]; exact own_cellV hw k hlt
        obtain ⟨a1, c1, f1, _, _⟩ := own_form rv
        obtain ⟨a2, c2, f2, _, _⟩ := own_form rw_
        have hx := HX.out k hlt
        have rv' : wr.ownsRow B 29 2 (V k) (X k).length (cellsP (X k)) := by rw [HQ.out]; exact rv
        have rw' : wr.ownsRow B 29 2 (W k) (X k).length (cellsP (X k)) := by rw [HQ.out]; exact rw_
        rw [f1] at e0 rv'
        rw [f2] at e1 rw'
        clear f1 f2 rv rw_ d0 d1
        go_wp2
        go_quiet ((go_at_call 115; exact Calls.quiet_of (samePairs_any (X k) hx _ _ B B _ rv' rw')))
        go_wp2
        go_roundw
        case rel => exact ⟨k + 1, q + nq, hlt, by go_num, by show wr.drewN nq = _; rw [HQ.out]; exact World.drewN_drewN _ _ _⟩
        case measure => simp [intOf]; omega
      · obtain rfl : k = n := by omega
        go_wp2
        go_ret
        exact ⟨rfl, q, HQ.out⟩
end Go.Proofs.Ytdddbljkhhbdlaa
