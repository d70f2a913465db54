/-
The walk of DataShards: whatever n and parts are, the call returns true.
-/
import Derived.Test.YtdddbljkhhbdlaaAlive
import Derived.Test.YtdddbljkhhbdlaaRefShards
import Derived.Test.YtdddbljkhhbdlaaApartP
import Derived.Test.YtdddbljkhhbdlaaAddP
namespace Go.Proofs.Ytdddbljkhhbdlaa
open Go.RowKit

def prL (f : Nat → Nat) (k : Nat) : List (Int × Int) := (List.range k).map fun i => ((f i : Int), (f (i + 1) : Int))
theorem prs_cells (f : Nat → Nat) (k : Nat) : prs f k = cellsP (prL f k) := by
  induction k with
  | zero => rfl
  | succ k ih =>
    unfold prL
    rw [List.range_succ, List.map_append, cellsP_append]
    unfold prs
    rw [ih]
    rfl
theorem prL_length (f : Nat → Nat) (k : Nat) : (prL f k).length = k := by simp [prL]

theorem booksP_start (w : World) (B : Nat) (hB : B ≤ w.heap.size) (V W : Nat → Value) (X : Nat → List (Int × Int)) :
    BooksP (w.alloc (.cells (bookCells (.slice none 0 0) (.slice none 0 0) (.slice none 0 0) (.slice none 0 0)) 40)) B w.heap.size 0 V W X :=
  ⟨⟨.slice none 0 0, .slice none 0 0, ⟨heap_alloc_new w _⟩, World.ownsRow_nil _ _ _ _, World.ownsRow_nil _ _ _ _, .inl rfl⟩, ⟨fun _ hi => absurd hi (Nat.not_lt_zero _), fun _ _ hi => absurd hi (Nat.not_lt_zero _)⟩,
    ⟨fun _ hi => absurd hi (Nat.not_lt_zero _), fun _ _ hi => absurd hi (Nat.not_lt_zero _)⟩, hB⟩

set_option maxRecDepth 100000 in
set_option maxHeartbeats 4000000 in
theorem shardsLaw_ok (n p : Nat) (w : World) (h0 : n ≤ 4096) (h1 : 1 ≤ p) (h2 : p ≤ 16) :
    Calls Try.prog 3 #[.int .i64 n, .int .i64 p] w fun e w' => e = .returned (.bool true) ∧ Below w.heap.size w w' := by
  go_enter Try.func3, Try.ntmps3
  go_wp2_with fail
  refine (alive_any _).mono ?_
  rintro e w1 ⟨rfl, hb1⟩
  go_wp2_with fail
  refine (shards_ok n p _ h0 h1 h2).mono ?_
  rintro e w2 ⟨va, rfl, ha, hb2⟩
  go_wp2_with fail
  refine (refshards_ok n p _ h0 h1 h2).mono ?_
  rintro e w3 ⟨vb, rfl, hb, hb3⟩
  rw [prs_cells] at ha hb
  have hl := prL_length (shCut n p) p
  obtain ⟨L, hL⟩ : ∃ L, L = prL (shCut n p) p := ⟨_, rfl⟩
  rw [← hL] at ha hb hl
  have HL := Lib.hid hl
  clear hL hl
  have ha3 := own_below ha hb3 (Nat.le_refl _)
  have hB1 := hb1.size
  have hB2 := hb2.size
  have hbw : Below w.heap.size w w3 := (hb1.trans (hb2.mono hB1)).trans (hb3.mono (Nat.le_trans hB1 hB2))
  clear ha
  obtain ⟨aa, ca, rfl, na, fa⟩ := own_form ha3
  obtain ⟨ab, cb, rfl, nb, fb⟩ := own_form hb
  cases aa with
  | none => exact absurd (na rfl).1 (by omega)
  | some da =>
  cases ab with
  | none => exact absurd (nb rfl).1 (by omega)
  | some db =>
  obtain ⟨ga, rfl, _, _⟩ := fa da rfl
  obtain ⟨gb, rfl, _, _⟩ := fb db rfl
  clear fa fb na nb
  go_wp2_with fail
  go_loopw [9] (fun i wr => ∃ k q : Nat, k ≤ p ∧ i = .int .i64 k ∧ Hid (wr = w3.drewN q)) (fun i _ => p - (intOf i).toNat)
  case atStart => exact ⟨0, 0, Nat.zero_le _, rfl, rfl⟩
  case round =>
    obtain ⟨k, q, hk, rfl, HQ⟩ := hrel
    by_cases hlt : k < p
    · have c1 : wr.cell? ⟨ga, k * 2, none⟩ = some (.int .i64 (L.getD k (0, 0)).1) := by rw [HQ.out]; exact own_cellP0 ha3 k hlt
      have c2 : wr.cell? ⟨gb, k * 2, none⟩ = some (.int .i64 (L.getD k (0, 0)).1) := by rw [HQ.out]; exact own_cellP0 hb k hlt
      have c3 : wr.cell? ⟨ga, k * 2 + 1, none⟩ = some (.int .i64 (L.getD k (0, 0)).2) := by rw [HQ.out]; exact own_cellP1 ha3 k hlt
      have c4 : wr.cell? ⟨gb, k * 2 + 1, none⟩ = some (.int .i64 (L.getD k (0, 0)).2) := by rw [HQ.out]; exact own_cellP1 hb k hlt
      go_wp2
      go_quiet (fail)
      go_wp2
      go_roundw
      case rel => exact ⟨k + 1, q + nq, hlt, by go_num, by show wr.drewN nq = _; rw [HQ.out]; exact World.drewN_drewN _ _ _⟩
      case measure => simp [intOf]; omega
    · obtain rfl : k = p := by omega
      have hbr : Below w.heap.size w wr := by rw [HQ.out]; exact below_drewN hbw q
      have hBr : w.heap.size ≤ wr.heap.size := hbr.size
      have hr : wr.ownsRow w.heap.size 29 2 (.slice (some ⟨ga, 0, none⟩) k ca) L.length (cellsP L) := by
        rw [HQ.out, HL.out]
        exact own_mono ha3 hB1
      have hLl : L.length ≤ 90000 := by rw [HL.out]; omega
      have HLl := Lib.hid hLl
      clear hLl
      go_wp2_with fail
      refine (pairs_add _ w.heap.size wr.heap.size 0 (fun _ => .slice none 0 0) (fun _ => .slice none 0 0) (fun _ => []) (by exact booksP_start wr _ hBr _ _ _) (by omega) _ L (by exact hr.alloc _) HLl.out (fun _ hi => absurd hi (Nat.not_lt_zero _))).mono ?_
      rintro e w5 ⟨rfl, c, hS5, hb5, _⟩
      have hbw5 : Below w.heap.size w w5 := (hbr.alloc hBr _).trans hb5
      have hB5 := hbw5.size
      obtain ⟨⟨v1, u1, hk5, hv5, hu5, _⟩, hV5, hW5, _⟩ := hS5
      go_wp2_with fail
      refine (apartPairs_any _ _ _ _ hk5 w.heap.size 1 (by omega) hB5 _ _ _ hv5 hu5 hV5 hW5 (fun i hi => by have h0 : i = 0 := (by omega); subst h0; exact HLl.out)).mono ?_
      rintro e w6 ⟨rfl, hb6⟩
      go_wp2
      go_ret
      exact ⟨rfl, hbw5.trans hb6⟩

theorem booksP_nil_row (w : World) (B : Nat) : w.ownsRow B 29 2 (.slice none 0 0) ([] : List (Int × Int)).length (cellsP []) := World.ownsRow_nil _ _ _ _

set_option maxRecDepth 100000 in
set_option maxHeartbeats 4000000 in
/-- Both refuse, with one error. -/
theorem shardsLaw_no (n p c : Int) (w : World)
    (ha : ∀ w : World, Calls Try.prog 13 #[.int .i64 n, .int .i64 p] w fun e w' => e = .returned (.tuple #[.slice none 0 0, .int .i64 c]) ∧ w = w')
    (hb : ∀ w : World, Calls Try.prog 14 #[.int .i64 n, .int .i64 p] w fun e w' => e = .returned (.tuple #[.slice none 0 0, .int .i64 c]) ∧ w = w') :
    Calls Try.prog 3 #[.int .i64 n, .int .i64 p] w fun e w' => e = .returned (.bool true) ∧ Below w.heap.size w w' := by
  have Ha := Lib.hid ha
  have Hb := Lib.hid hb
  clear ha hb
  go_enter Try.func3, Try.ntmps3
  go_wp2_with fail
  refine (alive_any _).mono ?_
  rintro e w1 ⟨rfl, hb1⟩
  have hB1 := hb1.size
  go_wp2_with fail
  refine (Ha.out _).mono ?_
  rintro e w2 ⟨rfl, rfl⟩
  go_wp2_with fail
  refine (Hb.out _).mono ?_
  rintro e w3 ⟨rfl, rfl⟩
  go_wp2_with fail
  refine wp_loop_rounds 1 ?_
  rw [rounds_succ]
  go_wp2_with fail
  refine (pairs_add _ w.heap.size w1.heap.size 0 (fun _ => .slice none 0 0) (fun _ => .slice none 0 0) (fun _ => []) (by exact booksP_start w1 _ hB1 _ _ _) (by omega) _ [] (by exact booksP_nil_row _ _) (by simp) (fun _ hi => absurd hi (Nat.not_lt_zero _))).mono ?_
  rintro e w5 ⟨rfl, c, hS5, hb5, _⟩
  have hbw5 : Below w.heap.size w w5 := (hb1.alloc hB1 _).trans hb5
  have hB5 := hbw5.size
  obtain ⟨⟨v1, u1, hk5, hv5, hu5, _⟩, hV5, hW5, _⟩ := hS5
  go_wp2_with fail
  refine (apartPairs_any _ _ _ _ hk5 w.heap.size 1 (by omega) hB5 _ _ _ hv5 hu5 hV5 hW5 (fun i hi => by have h0 : i = 0 := (by omega); subst h0; simp)).mono ?_
  rintro e w6 ⟨rfl, hb6⟩
  go_wp2
  go_ret
  exact ⟨rfl, hbw5.trans hb6⟩

theorem shardsLaw_any (n p : Int) (w : World) :
    Calls Try.prog 3 #[.int .i64 n, .int .i64 p] w fun e w' => e = .returned (.bool true) ∧ Below w.heap.size w w' := by
  by_cases a : n < 0 ∨ p < 1
  · exact shardsLaw_no n p 1 w (fun w => shards_bad n p w a) (fun w => refshards_bad n p w a)
  by_cases b : 4096 < n ∨ 16 < p
  · exact shardsLaw_no n p 2 w (fun w => shards_long n p w (by omega) (by omega) b) (fun w => refshards_long n p w (by omega) (by omega) b)
  obtain ⟨n, rfl⟩ := Int.eq_ofNat_of_zero_le (show 0 ≤ n by omega)
  obtain ⟨p, rfl⟩ := Int.eq_ofNat_of_zero_le (show 0 ≤ p by omega)
  exact shardsLaw_ok n p w (by omega) (by omega) (by omega)
end Go.Proofs.Ytdddbljkhhbdlaa
