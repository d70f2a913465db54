/-
What lies in memory while the book takes lists: boxes of matrices and sets are kept.
-/
import Derived.Test.YtdddbljkhhbdlaaRefPick
import Derived.Test.YtdddbljkhhbdlaaRefRow
import Derived.Test.YtdddbljkhhbdlaaAdd
import Derived.Test.YtdddbljkhhbdlaaChecksWalk
import Derived.Test.YtdddbljkhhbdlaaApartI
namespace Go.Proofs.Ytdddbljkhhbdlaa
open Go.RowKit

/-- The function answers Pick's question. -/
def AnsPick (f : FuncId) (r c wd : Int) (v : Value) (xs : List Int) (r2 c2 wd2 : Int) (v2 : Value) (ys : List Int) (vl : Value) (rows : List Int) (w : World) : Prop :=
  Calls Try.prog f #[setV r c wd v r2 c2 wd2 v2, vl] w fun e w' =>
    ∃ u u', e = .returned (.tuple #[setOf (pickAns r c wd xs r2 c2 wd2 ys rows).1 (pickAns r c wd xs r2 c2 wd2 ys rows).2.1 u u', .int .i64 (pickAns r c wd xs r2 c2 wd2 ys rows).2.2]) ∧
      TwoM w' w.heap.size (pickAns r c wd xs r2 c2 wd2 ys rows).1 (pickAns r c wd xs r2 c2 wd2 ys rows).2.1 u u' ∧ Below w.heap.size w w'

theorem pick_cases {f : FuncId} {r c wd : Int} {v : Value} {xs : List Int} {r2 c2 wd2 : Int} {v2 : Value} {ys : List Int} {vl : Value} {rows : List Int} {w : World} (hv : ReadI w v xs) (hv2 : ReadI w v2 ys) (hl : ReadI w vl rows) (hrl : rows.length ≤ 5000)
    (herr : ∀ (al : Option Addr) (n cl : Nat) (E : Int), ((dchkI r c wd xs r2 c2 wd2 ys).2 ≠ 0 ∧ E = (dchkI r c wd xs r2 c2 wd2 ys).2) ∨ ((dchkI r c wd xs r2 c2 wd2 ys).2 = 0 ∧ n = 0 ∧ E = 41) →
      Calls Try.prog f #[setV r c wd v r2 c2 wd2 v2, .slice al n cl] w fun e w' => e = .returned (.tuple #[setV 0 0 0 (.slice none 0 0) 0 0 0 (.slice none 0 0), .int .i64 E]) ∧ Below w.heap.size w w')
    (hmain : ∀ (R C C2 n : Nat) (b off cp b2 off2 cp2 bl ol cl : Nat), SetOk R C wd xs R C2 wd ys R C C2 → R * C ≤ cp → (∀ j, j < xs.length → w.cell? ⟨b, off + j, none⟩ = some (.int .i64 (xs.getD j 0))) → R * C2 ≤ cp2 → (∀ j, j < ys.length → w.cell? ⟨b2, off2 + j, none⟩ = some (.int .i64 (ys.getD j 0))) →
      (dchkI R C wd xs R C2 wd ys).2 = 0 → rows.length = n → 0 < n → n ≤ 5000 → n ≤ cl → (∀ j, j < rows.length → w.cell? ⟨bl, ol + j, none⟩ = some (.int .i64 (rows.getD j 0))) →
      ∀ A : MatI × MatI × Int, (rows.any (badR R) = true → A = (zeroM, zeroM, 40)) → (rows.any (badR R) = false → (4096 < (n : Int) * C ∨ 4096 < (n : Int) * C2) → A = (zeroM, zeroM, 2)) →
      (rows.any (badR R) = false → ¬ (4096 < (n : Int) * C ∨ 4096 < (n : Int) * C2) → A = (⟨n, C, wd, rowsI C xs rows⟩, ⟨n, C2, wd, rowsI C2 ys rows⟩, 0)) →
      Calls Try.prog f #[setV R C wd (.slice (some ⟨b, off, none⟩) (R * C) cp) R C2 wd (.slice (some ⟨b2, off2, none⟩) (R * C2) cp2), .slice (some ⟨bl, ol, none⟩) n cl] w fun e w' =>
        ∃ u u', e = .returned (.tuple #[setOf A.1 A.2.1 u u', .int .i64 A.2.2]) ∧ TwoM w' w.heap.size A.1 A.2.1 u u' ∧ Below w.heap.size w w') :
    AnsPick f r c wd v xs r2 c2 wd2 v2 ys vl rows w := by
  unfold AnsPick
  by_cases hE : (dchkI r c wd xs r2 c2 wd2 ys).2 = 0
  · by_cases h0 : rows = []
    · subst h0
      have e : pickAns r c wd xs r2 c2 wd2 ys [] = (zeroM, zeroM, 41) := by
        unfold pickAns
        rw [if_neg (by simp [hE]), if_pos rfl]
      rw [e]
      obtain ⟨al, cl, rfl⟩ : ∃ al cl, vl = .slice al 0 cl := by
        rcases hl with ⟨rfl, _⟩ | ⟨b, off, c, rfl, _⟩
        · exact ⟨_, _, rfl⟩
        · exact ⟨_, _, rfl⟩
      refine (herr al 0 cl 41 (.inr ⟨hE, rfl, rfl⟩)).mono ?_
      rintro e w' ⟨rfl, hb⟩
      exact ⟨_, _, rfl, TwoM.zero _ _, hb⟩
    · obtain ⟨R, C, C2, hS⟩ := dchk_ok hE
      obtain ⟨b, off, cp, rfl, h1, h2⟩ := hv.some hS.l1 (Nat.mul_pos hS.R0 hS.C0)
      obtain ⟨b2, off2, cp2, rfl, h3, h4⟩ := hv2.some hS.l2 (Nat.mul_pos hS.R0 hS.C20)
      obtain ⟨bl, ol, cl, rfl, h5, h6⟩ := hl.some rfl (List.length_pos_iff.2 h0)
      have h7 : (dchkI R C wd xs R C2 wd ys).2 = 0 := by have h := hE; rw [hS.eR, hS.eC, hS.eR2, hS.eC2, hS.eW] at h; exact h
      have hm := hmain R C C2 rows.length b off cp b2 off2 cp2 bl ol cl hS.self h1 h2 h3 h4 h7 rfl (List.length_pos_iff.2 h0) hrl h5 h6 (pickAns r c wd xs r2 c2 wd2 ys rows) ?_ ?_ ?_
      · rw [hS.eR, hS.eC, hS.eR2, hS.eC2, hS.eW] at hm ⊢
        exact hm
      · intro ha
        unfold pickAns
        rw [if_neg (by simp [hE]), if_neg h0, hS.eR, if_pos ha]
      · intro ha hlo
        unfold pickAns
        rw [if_neg (by simp [hE]), if_neg h0, hS.eR, if_neg (by simp [ha]), hS.eC, hS.eC2, if_pos hlo]
      · intro ha hlo
        unfold pickAns
        rw [if_neg (by simp [hE]), if_neg h0, hS.eR, if_neg (by simp [ha]), hS.eC, hS.eC2, if_neg hlo, hS.eW]
        simp
  · have e : pickAns r c wd xs r2 c2 wd2 ys rows = (zeroM, zeroM, (dchkI r c wd xs r2 c2 wd2 ys).2) := by
      unfold pickAns
      rw [if_pos hE]
    rw [e]
    obtain ⟨al, cl, rfl⟩ : ∃ al cl, vl = .slice al rows.length cl := by
      rcases hl with ⟨rfl, rfl⟩ | ⟨b, off, c, rfl, _⟩
      · exact ⟨_, _, rfl⟩
      · exact ⟨_, _, rfl⟩
    refine (herr al rows.length cl _ (.inl ⟨hE, rfl⟩)).mono ?_
    rintro e w' ⟨rfl, hb⟩
    exact ⟨_, _, rfl, TwoM.zero _ _, hb⟩

theorem dpick_any (r c wd : Int) (v : Value) (xs : List Int) (r2 c2 wd2 : Int) (v2 : Value) (ys : List Int) (vl : Value) (rows : List Int) (w : World) (hv : ReadI w v xs) (hv2 : ReadI w v2 ys) (hl : ReadI w vl rows) (hrl : rows.length ≤ 5000) (hx : xs.length ≤ 100000000) (hy : ys.length ≤ 100000000)
    (h64 : ∀ x, x ∈ xs → -9223372036854775808 ≤ x ∧ x ≤ 9223372036854775807) (h642 : ∀ x, x ∈ ys → -9223372036854775808 ≤ x ∧ x ≤ 9223372036854775807) : AnsPick 27 r c wd v xs r2 c2 wd2 v2 ys vl rows w :=
  pick_cases hv hv2 hl hrl (fun al n cl E hE => dpick_err r c wd v xs r2 c2 wd2 v2 ys al n cl w hv hv2 hx hy h64 h642 E hE)
    (fun R C C2 n b off cp b2 off2 cp2 bl ol cl hS h1 h2 h3 h4 h5 h6 h7 h8 h9 h10 A a1 a2 a3 => dpick_main R C C2 n wd b off cp xs b2 off2 cp2 ys bl ol cl rows w hS h1 h2 h3 h4 h64 h642 h5 h6 h7 h8 h9 h10 A a1 a2 a3)
theorem refpick_any (r c wd : Int) (v : Value) (xs : List Int) (r2 c2 wd2 : Int) (v2 : Value) (ys : List Int) (vl : Value) (rows : List Int) (w : World) (hv : ReadI w v xs) (hv2 : ReadI w v2 ys) (hl : ReadI w vl rows) (hrl : rows.length ≤ 5000) (hx : xs.length ≤ 100000000) (hy : ys.length ≤ 100000000)
    (h64 : ∀ x, x ∈ xs → -9223372036854775808 ≤ x ∧ x ≤ 9223372036854775807) (h642 : ∀ x, x ∈ ys → -9223372036854775808 ≤ x ∧ x ≤ 9223372036854775807) : AnsPick 28 r c wd v xs r2 c2 wd2 v2 ys vl rows w :=
  pick_cases hv hv2 hl hrl (fun al n cl E hE => refpick_err r c wd v xs r2 c2 wd2 v2 ys al n cl w hv hv2 hx hy h64 h642 E hE)
    (fun R C C2 n b off cp b2 off2 cp2 bl ol cl hS h1 h2 h3 h4 h5 h6 h7 h8 h9 h10 A a1 a2 a3 => refpick_main R C C2 n wd b off cp xs b2 off2 cp2 ys bl ol cl rows w hS h1 h2 h3 h4 h64 h642 h5 h6 h7 h8 h9 h10 A a1 a2 a3)
/-- What Pick answers is not long. -/
theorem pickAns_len (r c wd : Int) (xs : List Int) (r2 c2 wd2 : Int) (ys rows : List Int) : (pickAns r c wd xs r2 c2 wd2 ys rows).1.bits.length ≤ 4096 ∧ (pickAns r c wd xs r2 c2 wd2 ys rows).2.1.bits.length ≤ 4096 := by
  unfold pickAns
  split
  · exact ⟨by simp [zeroM], by simp [zeroM]⟩
  · rename_i hE
    split
    · exact ⟨by simp [zeroM], by simp [zeroM]⟩
    · split
      · exact ⟨by simp [zeroM], by simp [zeroM]⟩
      · rename_i hb
        split
        · exact ⟨by simp [zeroM], by simp [zeroM]⟩
        · rename_i hlo
          obtain ⟨R, C, C2, hS⟩ := dchk_ok (by simpa using hE)
          have ha : rows.any (badR R) = false := by rw [hS.eR] at hb; simpa using hb
          rw [hS.eC, hS.eC2] at hlo ⊢
          simp only [Int.toNat_natCast]
          rw [rowsI_length C xs rows R hS.l1 (good_rows ha), rowsI_length C2 ys rows R hS.l2 (good_rows ha)]
          rw [← Int.natCast_mul, ← Int.natCast_mul] at hlo
          omega
end Go.Proofs.Ytdddbljkhhbdlaa
namespace Go.Proofs.Ytdddbljkhhbdlaa
open Go.RowKit

set_option maxRecDepth 100000 in
set_option maxHeartbeats 1000000 in
theorem sameM_any (r c wd : Int) (xs : List Int) (hx : xs.length ≤ 1000000) (va vb : Value) (Ba Bb : Nat) (w : World) (ha : w.ownsRow Ba 3 1 va xs.length (cellsI xs)) (hb : w.ownsRow Bb 3 1 vb xs.length (cellsI xs)) :
    Calls Try.prog 25 #[matV r c wd va, matV r c wd vb] w fun e w' => e = .returned (.bool true) ∧ Below w.heap.size w w' := by
  obtain ⟨aa, ca, rfl, na, fa⟩ := own_form ha
  obtain ⟨ab, cb, rfl, nb, fb⟩ := own_form hb
  obtain ⟨n, hn⟩ : ∃ n, n = xs.length := ⟨_, rfl⟩
  rw [← hn] at ha hb na nb hx ⊢
  have HA := Lib.hid ha
  have HB := Lib.hid hb
  by_cases h0 : n = 0
  · subst h0
    clear na nb hn fa fb ha hb
    unfold matV
    go_enter Try.func25, Try.ntmps25
    go_wp2_with fail
    obtain ⟨w1, hw1, hM, hb1, hs1⟩ := boxM w r c wd (.slice aa 0 ca)
    rw [← hw1]
    obtain ⟨w2, hw2, hN, hb2, hs2⟩ := boxM w1 r c wd (.slice ab 0 cb)
    rw [hs1] at hN
    rw [← hw2]
    clear hw1 hw2
    have hM2 := hM.below hb2
    have hbw := hb1.trans (hb2.mono hb1.size)
    clear hM hb1 hb2 hs1 hs2
    have p0 := hM2.c0
    have p1 := hM2.c1
    have p2 := hM2.c2
    have p3 := hM2.c3
    have q0 := hN.c0
    have q1 := hN.c1
    have q2 := hN.c2
    have q3 := hN.c3
    go_wp2
    refine wp_loop_rounds 1 ?_
    rw [rounds_succ]
    go_wp2
    go_ret
    exact ⟨rfl, hbw⟩
  · cases aa with
    | none => exact absurd (na rfl).1 h0
    | some da =>
    cases ab with
    | none => exact absurd (nb rfl).1 h0
    | some db =>
    obtain ⟨ga, rfl, _, _⟩ := fa da rfl
    obtain ⟨gb, rfl, _, _⟩ := fb db rfl
    clear fa fb na nb hn ha hb
    unfold matV
    go_enter Try.func25, Try.ntmps25
    go_wp2_with fail
    obtain ⟨w1, hw1, hM, hb1, hs1⟩ := boxM w r c wd (.slice (some ⟨ga, 0, none⟩) n ca)
    rw [← hw1]
    obtain ⟨w2, hw2, hN, hb2, hs2⟩ := boxM w1 r c wd (.slice (some ⟨gb, 0, none⟩) n cb)
    rw [hs1] at hN
    rw [← hw2]
    clear hw1 hw2
    have hM2 := hM.below hb2
    have hbw := hb1.trans (hb2.mono hb1.size)
    have HA2 : Hid (w2.ownsRow Ba 3 1 (.slice (some ⟨ga, 0, none⟩) n ca) n (cellsI xs)) := own_below HA.out hbw (Nat.le_refl _)
    have HB2 : Hid (w2.ownsRow Bb 3 1 (.slice (some ⟨gb, 0, none⟩) n cb) n (cellsI xs)) := own_below HB.out hbw (Nat.le_refl _)
    clear hM hb1 hb2 hs1 hs2
    have p0 := hM2.c0
    have p1 := hM2.c1
    have p2 := hM2.c2
    have p3 := hM2.c3
    have q0 := hN.c0
    have q1 := hN.c1
    have q2 := hN.c2
    have q3 := hN.c3
    go_wp2
    go_loopw [5] (fun i wr => ∃ k q : Nat, k ≤ n ∧ i = .int .i64 k ∧ wr = w2.drewN q) (fun i _ => n - (intOf i).toNat)
    case atStart => exact ⟨0, 0, Nat.zero_le _, rfl, rfl⟩
    case round =>
      obtain ⟨k, q, hk, rfl, rfl⟩ := hrel
      by_cases hlt : k < n
      · have c1 := own_cellI HA2.out k hlt
        have c2 := own_cellI HB2.out k hlt
        go_wp2
        go_quiet (fail)
        go_wp2
        go_roundw
        case rel => exact ⟨k + 1, _, hlt, by go_num, rfl⟩
        case measure => simp [intOf]; omega
      · obtain rfl : k = n := by omega
        go_wp2
        go_ret
        exact ⟨rfl, below_drewN hbw q⟩

theorem BooksI.later {w w' : World} {B bb n : Nat} {V W : Nat → Value} {X : Nat → List Int} (h : BooksI w B bb n V W X) (hb : Below w.heap.size w w') : BooksI w' B bb n V W X := by
  obtain ⟨⟨v0, w0, hk, hv, hw, hvw⟩, hV, hW, hBb⟩ := h
  exact ⟨⟨v0, w0, hk.below hb, own_below hv hb (Nat.le_refl _), own_below hw hb (Nat.le_refl _), hvw⟩, hV.below hb, hW.below hb, hBb⟩

set_option maxRecDepth 100000 in
set_option maxHeartbeats 1000000 in
theorem matrix_add (w : World) (B bb n : Nat) (V W : Nat → Value) (X : Nat → List Int) (hS : BooksI w B bb n V W X) (hn : n < 400) (r c wd : Int) (l : Value) (x : List Int)
    (hl : w.ownsRow B 3 1 l x.length (cellsI x)) (hx : x.length ≤ 90000) (hap : ∀ i, i < n → (V i).ownBlock = none ∨ (V i).ownBlock ≠ l.ownBlock) :
    Calls Try.prog 24 #[.pointer (some ⟨bb, 0, none⟩), matV r c wd l] w fun e w' => e = .returned (.tuple #[]) ∧ ∃ c, BooksI w' B bb (n + 1) (fun i => if i = n then l else V i) (fun i => if i = n then c else W i) (fun i => if i = n then x else X i) ∧
      Below B w w' ∧ KeepsI w w' := by
  have HS := Lib.hid hS
  have HL := Lib.hid hl
  have HAP := Lib.hid hap
  have hB : B ≤ w.heap.size := by
    obtain ⟨⟨v0, w0, hk, _, _, _⟩, _, _, hBb⟩ := hS
    exact Nat.le_trans hBb (Nat.le_of_lt hk.lt)
  clear hS hl hap
  unfold matV
  go_enter Try.func24, Try.ntmps24
  go_wp2_with fail
  have hal : Below w.heap.size w (w.alloc (.cells #[.int .i64 r, .int .i64 c, .int .i64 wd, l] 45)) := (Below.refl _ w).alloc (Nat.le_refl _) _
  refine (ints_add _ B bb n V W X (HS.out.later hal) hn l x (own_below HL.out hal (Nat.le_refl _)) hx HAP.out).mono ?_
  rintro e w2 ⟨rfl, c', h1, h2, h3⟩
  go_wp2
  go_end0
  exact ⟨rfl, c', h1, (hal.mono hB).trans h2, (KeepsI.of_below hal).trans h3⟩
end Go.Proofs.Ytdddbljkhhbdlaa
namespace Go.Proofs.Ytdddbljkhhbdlaa
open Go.RowKit

theorem row_of_block {w : World} {g : Nat} {cs : List Value} {e : TypeId} {s : Nat} (h : w.heap[g]? = some (.cells cs.toArray e (0, 0))) (hl : cs.length = 1 * s) : w.ownsRow 0 e s (.slice (some ⟨g, 0, none⟩) 1 1) 1 cs :=
  ⟨hl, .inr ⟨g, 1, cs.toArray, rfl, Nat.zero_le _, h, Nat.le_refl _, by unfold maxLen; omega, by simpa using hl, by rw [← hl]; simp⟩⟩
theorem block_of_row {w : World} {g : Nat} {cs : List Value} {e : TypeId} {s : Nat} (h : w.ownsRow 0 e s (.slice (some ⟨g, 0, none⟩) 1 1) 1 cs) : w.heap[g]? = some (.cells cs.toArray e (0, 0)) := by
  rcases h.2 with ⟨h0, _⟩ | ⟨g', cap, cur, h0, _, h1, h2, _, h4, h5⟩
  · cases h0
  · cases h0
    rw [h1]
    congr 2
    have : cur.toList = cs := by
      rw [← h5, List.take_of_length_le (by simp; omega)]
    rw [← this]
theorem MatAt.keepsI {w w' : World} {g : Nat} {r c wd : Int} {v : Value} (h : MatAt w g r c wd v) (hk : KeepsI w w') : MatAt w' g r c wd v :=
  ⟨block_of_row (hk _ _ 4 _ _ _ (by decide) (by decide) (row_of_block (cs := [.int .i64 r, .int .i64 c, .int .i64 wd, v]) h.block rfl))⟩
theorem SetAt.keepsI {w w' : World} {g : Nat} {r c wd : Int} {v : Value} {r2 c2 wd2 : Int} {v2 : Value} (h : SetAt w g r c wd v r2 c2 wd2 v2) (hk : KeepsI w w') : SetAt w' g r c wd v r2 c2 wd2 v2 :=
  ⟨block_of_row (hk _ _ 8 _ _ _ (by decide) (by decide) (row_of_block (cs := [.int .i64 r, .int .i64 c, .int .i64 wd, v, .int .i64 r2, .int .i64 c2, .int .i64 wd2, v2]) h.block rfl))⟩
theorem LentAt.keepsI {w w' : World} {B : Nat} {v : Value} {xs : List Int} (h : LentAt w B v xs) (hk : KeepsI w w') : LentAt w' B v xs := by
  obtain ⟨g, cap, hv, hr⟩ := h
  exact ⟨g, cap, hv, hk _ _ _ _ _ _ (by decide) (by decide) hr⟩
theorem TwoM.keepsI {w w' : World} {B : Nat} {a b : MatI} {v v' : Value} (h : TwoM w B a b v v') (hk : KeepsI w w') : TwoM w' B a b v v' :=
  ⟨hk _ _ _ _ _ _ (by decide) (by decide) h.one, hk _ _ _ _ _ _ (by decide) (by decide) h.two, h.apart⟩
theorem TwoM.below {w w' : World} {B : Nat} {a b : MatI} {v v' : Value} (h : TwoM w B a b v v') (hb : Below w.heap.size w w') : TwoM w' B a b v v' :=
  ⟨own_below h.one hb (Nat.le_refl _), own_below h.two hb (Nat.le_refl _), h.apart⟩
theorem MatAt.ne {w : World} {g : Nat} {r c wd : Int} {u : Value} (h : MatAt w g r c wd u) {b : Nat} {e : TypeId} {s : Nat} {v : Value} {n : Nat} {xs : List Value} (hr : w.ownsRow b e s v n xs) (he : e ≠ 45) : v.ownBlock = none ∨ v.ownBlock ≠ some g := by
  have h1 := row_of_block (cs := [.int .i64 r, .int .i64 c, .int .i64 wd, u]) (s := 4) h.block rfl
  rcases own_other hr h1 he with h2 | h2
  · exact .inl h2
  · exact .inr h2
theorem TwoM.grown {w w' : World} {B g : Nat} {a b : MatI} {v v' : Value} {r c wd : Int} {u : Value} (h : TwoM w B a b v v') (hm : MatAt w g r c wd u) (hg : w.grownBy w' (some g)) : TwoM w' B a b v v' :=
  ⟨h.one.kept hg (hm.ne h.one (by decide)), h.two.kept hg (hm.ne h.two (by decide)), h.apart⟩
theorem TwoM.mono {w : World} {B B' : Nat} {a b : MatI} {v v' : Value} (h : TwoM w B a b v v') (hB : B' ≤ B) : TwoM w B' a b v v' := ⟨own_mono h.one hB, own_mono h.two hB, h.apart⟩
/-- Three may come up. -/
theorem three_at {P : Program} {ops : Array Oper} {Q : Exit → Act → World → Prop} {md : Region.Mode} {S : World → Prop} (i j l : Nat) (d d' d2 : Option Tmp) {oi oj ol : Oper} {fuel : Nat} {listed : Array Bool} {a : Act} {w : World} (hi : ops[i]? = some oi) (hd : oi.dst = d) (hj : ops[j]? = some oj) (hd' : oj.dst = d') (hl : ops[l]? = some ol) (hd2 : ol.dst = d2)
    (hr : Region.ready md ops listed = [i, j, l]) (hw : Region.wanted oi (yielded ops a.tmps) = true) (hw' : Region.wanted oj (yielded ops a.tmps) = true) (hw2 : Region.wanted ol (yielded ops a.tmps) = true)
    (h : ∀ K : Act → World → Prop, Shut (∀ v w, S w → wpAnyH P md ops Q S fuel (listed.setIfInBounds i true) (a.put d v) w → K (a.put oi.dst v) w) → Oper.wp P oi a w K Q)
    (h' : ∀ K : Act → World → Prop, Shut (∀ v w, S w → wpAnyH P md ops Q S fuel (listed.setIfInBounds j true) (a.put d' v) w → K (a.put oj.dst v) w) → Oper.wp P oj a w K Q)
    (h2 : ∀ K : Act → World → Prop, Shut (∀ v w, S w → wpAnyH P md ops Q S fuel (listed.setIfInBounds l true) (a.put d2 v) w → K (a.put ol.dst v) w) → Oper.wp P ol a w K Q) : wpAnyH P md ops Q S (fuel + 1) listed a w := by
  subst hd hd' hd2
  refine wpAnyH_ready hr (by simp) (AllReadyH.cons hi (fun K hK => ?_) (AllReadyH.cons hj (fun K hK => ?_) (AllReadyH.cons hl (fun K hK => ?_) AllReadyH.nil)))
  · rw [if_pos hw]
    exact h K fun v w hS hW => hK.out _ _ hS fun _ => hW
  · rw [if_pos hw']
    exact h' K fun v w hS hW => hK.out _ _ hS fun _ => hW
  · rw [if_pos hw2]
    exact h2 K fun v w hS hW => hK.out _ _ hS fun _ => hW
end Go.Proofs.Ytdddbljkhhbdlaa
