/-
The book's lists in memory, and the contract of stillInts.
-/
import Derived.Test.YtdddbljkhhbdlaaSame
namespace Go.Proofs.Ytdddbljkhhbdlaa
open Go.RowKit

/-- The book's sixteen lists: of numbers and of pairs whatever they are, all others nil. -/
def bookCells (v0 w0 v1 w1 : Value) : Array Value := #[v0, w0, v1, w1, .slice none 0 0, .slice none 0 0, .slice none 0 0, .slice none 0 0, .slice none 0 0, .slice none 0 0, .slice none 0 0, .slice none 0 0, .slice none 0 0, .slice none 0 0, .slice none 0 0, .slice none 0 0]
structure BookAt (w : World) (bb : Nat) (v0 w0 v1 w1 : Value) : Prop where
  block : w.heap[bb]? = some (.cells (bookCells v0 w0 v1 w1) 40 (0, 0))
theorem BookAt.cell {w : World} {bb : Nat} {v0 w0 v1 w1 : Value} (h : BookAt w bb v0 w0 v1 w1) (j : Nat) (v : Value) (hv : (bookCells v0 w0 v1 w1)[j]? = some v) : w.cell? ⟨bb, j, none⟩ = some v := by
  rw [cell_of_row w bb j _ 40 (0, 0) h.block]; exact hv
theorem BookAt.c0 {w : World} {bb : Nat} {v0 w0 v1 w1 : Value} (h : BookAt w bb v0 w0 v1 w1) : w.cell? ⟨bb, 0, none⟩ = some v0 := h.cell 0 _ rfl
theorem BookAt.c1 {w : World} {bb : Nat} {v0 w0 v1 w1 : Value} (h : BookAt w bb v0 w0 v1 w1) : w.cell? ⟨bb, 1, none⟩ = some w0 := h.cell 1 _ rfl
theorem BookAt.c2 {w : World} {bb : Nat} {v0 w0 v1 w1 : Value} (h : BookAt w bb v0 w0 v1 w1) : w.cell? ⟨bb, 2, none⟩ = some v1 := h.cell 2 _ rfl
theorem BookAt.c3 {w : World} {bb : Nat} {v0 w0 v1 w1 : Value} (h : BookAt w bb v0 w0 v1 w1) : w.cell? ⟨bb, 3, none⟩ = some w1 := h.cell 3 _ rfl
theorem BookAt.c4 {w : World} {bb : Nat} {v0 w0 v1 w1 : Value} (h : BookAt w bb v0 w0 v1 w1) : w.cell? ⟨bb, 4, none⟩ = some (.slice none 0 0) := h.cell 4 _ rfl
theorem BookAt.c6 {w : World} {bb : Nat} {v0 w0 v1 w1 : Value} (h : BookAt w bb v0 w0 v1 w1) : w.cell? ⟨bb, 6, none⟩ = some (.slice none 0 0) := h.cell 6 _ rfl
theorem BookAt.c8 {w : World} {bb : Nat} {v0 w0 v1 w1 : Value} (h : BookAt w bb v0 w0 v1 w1) : w.cell? ⟨bb, 8, none⟩ = some (.slice none 0 0) := h.cell 8 _ rfl
theorem BookAt.c10 {w : World} {bb : Nat} {v0 w0 v1 w1 : Value} (h : BookAt w bb v0 w0 v1 w1) : w.cell? ⟨bb, 10, none⟩ = some (.slice none 0 0) := h.cell 10 _ rfl
theorem BookAt.c12 {w : World} {bb : Nat} {v0 w0 v1 w1 : Value} (h : BookAt w bb v0 w0 v1 w1) : w.cell? ⟨bb, 12, none⟩ = some (.slice none 0 0) := h.cell 12 _ rfl
theorem BookAt.c14 {w : World} {bb : Nat} {v0 w0 v1 w1 : Value} (h : BookAt w bb v0 w0 v1 w1) : w.cell? ⟨bb, 14, none⟩ = some (.slice none 0 0) := h.cell 14 _ rfl
theorem BookAt.free {w : World} {bb : Nat} {v0 w0 v1 w1 : Value} (h : BookAt w bb v0 w0 v1 w1) (j : Nat) : w.frozen? ⟨bb, j, none⟩ = false := by
  simp [World.frozen?, h.block]
theorem BookAt.lt {w : World} {bb : Nat} {v0 w0 v1 w1 : Value} (h : BookAt w bb v0 w0 v1 w1) : bb < w.heap.size := (Array.getElem?_eq_some_iff.1 h.block).1
theorem BookAt.grown {w w' : World} {bb : Nat} {v0 w0 v1 w1 : Value} {r : Option Nat} (h : BookAt w bb v0 w0 v1 w1) (hg : w.grownBy w' r) (hne : some bb ≠ r) : BookAt w' bb v0 w0 v1 w1 :=
  ⟨(hg.block bb h.lt hne).trans h.block⟩
theorem BookAt.below {w w' : World} {bb : Nat} {v0 w0 v1 w1 : Value} (h : BookAt w bb v0 w0 v1 w1) (hb : Below w.heap.size w w') : BookAt w' bb v0 w0 v1 w1 :=
  ⟨(hb.block bb h.lt).trans h.block⟩
/-- No row of another element type lies where the book lies. -/
theorem BookAt.ne {w : World} {bb : Nat} {v0 w0 v1 w1 : Value} (h : BookAt w bb v0 w0 v1 w1) {b : Nat} {e : TypeId} {s : Nat} {v : Value} {n : Nat} {xs : List Value} (hr : w.ownsRow b e s v n xs) (he : e ≠ 40) : some bb ≠ v.ownBlock := by
  rcases hr.2 with ⟨rfl, _⟩ | ⟨g, cap, cur, rfl, _, hg, _⟩
  · simp [Value.ownBlock]
  · intro hh
    simp only [Value.ownBlock, Option.some.injEq] at hh
    subst hh
    rw [h.block] at hg
    simp only [Option.some.injEq, Obj.cells.injEq] at hg
    exact he hg.2.1.symm

theorem own_cellV {w : World} {B : Nat} {e : TypeId} {g n cap : Nat} {V : Nat → Value} (h : w.ownsRow B e 1 (.slice (some ⟨g, 0, none⟩) n cap) n ((List.range n).map V)) (k : Nat) (hk : k < n) : w.cell? ⟨g, k, none⟩ = some (V k) := by
  rw [h.cellAt k (by omega)]
  simp [hk]

set_option maxRecDepth 100000 in
set_option maxHeartbeats 1000000 in
theorem stillInts_any (w : World) (bb : Nat) (v0 w0 v1 w1 : Value) (hk : BookAt w bb v0 w0 v1 w1) (B n : Nat) (hn : n ≤ 400) (V W : Nat → Value) (X : Nat → List Int)
    (hv : w.ownsRow B 43 1 v0 n ((List.range n).map V)) (hw : w.ownsRow B 43 1 w0 n ((List.range n).map W))
    (hV : Lists cellsI 3 1 w B n V X) (hW : Lists cellsI 3 1 w B n W X) (hX : ∀ i, i < n → (X i).length ≤ 1000000) :
    Calls Try.prog 50 #[.pointer (some ⟨bb, 0, none⟩)] w fun e w' => e = .returned (.bool true) ∧ ∃ q, w' = w.drewN q := by
  obtain ⟨aa, ca, rfl, na, fa⟩ := own_form hv
  obtain ⟨ab, cb, rfl, nb, fb⟩ := own_form hw
  have d0 := hk.c0
  have d1 := hk.c1
  have HX := Lib.hid hX
  clear hX
  by_cases h0 : n = 0
  · subst h0
    clear nb fb hv hw hV hW HX
    clear na fa
    go_enter Try.func50, Try.ntmps50
    go_wp2
    refine wp_loop_rounds 1 ?_
    rw [rounds_succ]
    go_wp2
    go_ret
    exact ⟨rfl, 0, rfl⟩
  · cases aa with
    | none => exact absurd (na rfl).1 h0
    | some da =>
    cases ab with
    | none => exact absurd (nb rfl).1 h0
    | some db =>
    obtain ⟨ga, rfl, _, _⟩ := fa da rfl
    obtain ⟨gb, rfl, _, _⟩ := fb db rfl
    clear fa fb na nb
    go_enter Try.func50, Try.ntmps50
    go_wp2
    go_loopw [3] (fun i wr => ∃ k q : Nat, k ≤ n ∧ i = .int .i64 k ∧ Hid (wr = w.drewN q)) (fun i _ => n - (intOf i).toNat)
    case atStart => exact ⟨0, 0, Nat.zero_le _, rfl, rfl⟩
    case round =>
      obtain ⟨k, q, hkn, rfl, HQ⟩ := hrel
      have d0' : wr.cell? ⟨bb, 0, none⟩ = some (.slice (some ⟨ga, 0, none⟩) n ca) := by rw [HQ.out]; exact d0
      have d1' : wr.cell? ⟨bb, 1, none⟩ = some (.slice (some ⟨gb, 0, none⟩) n cb) := by rw [HQ.out]; exact d1
      by_cases hlt : k < n
      · have rv := hV.row k hlt
        have rw_ := hW.row k hlt
        have e0 : wr.cell? ⟨ga, k, none⟩ = some (V k) := by rw [HQ.out]; exact own_cellV hv k hlt
        have e1 : wr.cell? ⟨gb, k, none⟩ = some (W k) := by rw [HQ.out]; exact own_cellV hw k hlt
        obtain ⟨a1, c1, f1, _, _⟩ := own_form rv
        obtain ⟨a2, c2, f2, _, _⟩ := own_form rw_
        have hx := HX.out k hlt
        have rv' : wr.ownsRow B 3 1 (V k) (X k).length (cellsI (X k)) := by rw [HQ.out]; exact rv
        have rw' : wr.ownsRow B 3 1 (W k) (X k).length (cellsI (X k)) := by rw [HQ.out]; exact rw_
        rw [f1] at e0 rv'
        rw [f2] at e1 rw'
        clear f1 f2 rv rw_ d0 d1
        go_wp2
        go_quiet ((go_at_call 89; exact Calls.quiet_of (sameInts_any (X k) hx _ _ B B _ rv' rw')))
        go_wp2
        go_roundw
        case rel => exact ⟨k + 1, q + nq, hlt, by go_num, by show wr.drewN nq = _; rw [HQ.out]; exact World.drewN_drewN _ _ _⟩
        case measure => simp [intOf]; omega
      · obtain rfl : k = n := by omega
        go_wp2
        go_ret
        exact ⟨rfl, q, HQ.out⟩
end Go.Proofs.Ytdddbljkhhbdlaa
