/-
The contract of the document's own Stop: the first element that is not finite.
-/
import Derived.Test.YtdddbljkhhbdlaaMat
import Derived.StillTailTactics
namespace Go.Proofs.Ytdddbljkhhbdlaa
open Go.RowKit

/-- The first element that is not finite, and its error. -/
def stopFrom (wd : Int) : Nat → List Int → Int × Int
  | _, [] => (0, 0)
  | i, x :: r => if clsI wd x < 3 then stopFrom wd (i + 1) r else ((i : Int), if clsI wd x = 4 then 30 else 31)
def stopI (wd : Int) (xs : List Int) : Int × Int := stopFrom wd 0 xs
theorem drop_cons (xs : List Int) (k : Nat) (h : k < xs.length) : xs.drop k = xs.getD k 0 :: xs.drop (k + 1) := by
  rw [List.drop_eq_getElem_cons h]
  simp [List.getD, h]

set_option maxRecDepth 100000 in
set_option maxHeartbeats 2000000 in
theorem refstop_any (r c wd : Int) (v : Value) (xs : List Int) (w : World) (hv : ReadI w v xs) (hx : xs.length ≤ 100000000) (hok : ∀ x, x ∈ xs → okB wd x) :
    Calls Try.prog 87 #[matV r c wd v] w fun e w' => e = .returned (.tuple #[.int .i64 (stopI wd xs).1, .int .i64 (stopI wd xs).2]) ∧ Below w.heap.size w w' := by
  unfold matV
  rcases hv with ⟨rfl, rfl⟩ | ⟨b, off, cp, rfl, hcp, hcell⟩
  · go_enter Try.func87, Try.ntmps87
    go_wp2
    refine wp_loop_rounds 1 ?_
    rw [rounds_succ]
    go_wp2
    go_ret2
    exact ⟨rfl, (Below.refl _ w).alloc (Nat.le_refl _) _⟩
  · obtain ⟨n, hn⟩ : ∃ n, n = xs.length := ⟨_, rfl⟩
    obtain ⟨S, hS⟩ : ∃ S, S = stopI wd xs := ⟨_, rfl⟩
    rw [← hS]
    have HS := Lib.hid hS
    rw [← hn] at hcp hcell hx ⊢
    have HN := Lib.hid hn
    have HC := Lib.hid hcell
    have HO := Lib.hid hok
    clear hn hS hcell hok
    go_enter Try.func87, Try.ntmps87
    go_wp2_with fail
    obtain ⟨w1, hw1, hM, hb1, hs1⟩ := boxM w r c wd (.slice (some ⟨b, off, none⟩) n cp)
    rw [← hw1]
    clear hw1
    go_loopw [4, 5, 6] (fun i _ _ wr => ∃ k : Nat, k ≤ n ∧ i = .int .i64 k ∧ MatAt wr w.heap.size r c wd (.slice (some ⟨b, off, none⟩) n cp) ∧ Below w.heap.size w wr ∧ Hid (stopI wd xs = stopFrom wd k (xs.drop k))) (fun i _ _ _ => n - (intOf i).toNat)
    case atStart => exact ⟨0, Nat.zero_le _, rfl, hM, hb1, rfl⟩
    case round =>
      obtain ⟨k, hk, rfl, hM2, hb2, HG⟩ := hrel
      clear hM hb1 hs1
      have c2 := hM2.c2
      have c3 := hM2.c3
      by_cases hlt : k < n
      · have e0 : wr.cell? ⟨b, off + k, none⟩ = some (.int .i64 (xs.getD k 0)) := (hb2.cell (p := ⟨b, off + k, none⟩) (by exact World.block_lt_of_cell? _ _ (HC.out k hlt))).trans (HC.out k hlt)
        have hdr := drop_cons xs k (by rw [← HN.out]; exact hlt)
        have hokx : okB wd (xs.getD k 0) := HO.out _ (by simp [List.getD, show k < xs.length by rw [← HN.out]; exact hlt])
        have hst := HG.out
        rw [hdr] at hst
        unfold stopFrom at hst
        obtain ⟨x, hx9⟩ : ∃ x, x = xs.getD k 0 := ⟨_, rfl⟩
        rw [← hx9] at e0 hokx hst
        clear hx9 hdr
        have HST := Lib.hid hst
        clear hst
        go_wp2
        go_still_tail 7, (by kernel_rfl)
        change wpList _ _ _ _ _ wr.drew
        go_wp2_with fail
        refine (reffinite_any x wd hokx _).mono ?_
        rintro e w3 ⟨rfl, hb3⟩
        have hM3 : MatAt w3 w.heap.size r c wd (.slice (some ⟨b, off, none⟩) n cp) := (show MatAt wr.drew w.heap.size r c wd _ from ⟨hM2.block⟩).below hb3
        have hb4 : Below w.heap.size w w3 := hb2.drew.trans (hb3.mono hb2.size)
        by_cases hf : clsI wd x < 3
        · rw [decide_eq_true hf]
          have HF := Lib.hid hf
          clear hf hM2 hb2 hb3 c2 c3 e0 hokx
          go_wp2
          go_roundw
          case rel => exact ⟨k + 1, hlt, by go_num, hM3, hb4, by show _ = _; rw [HST.out, if_pos HF.out]⟩
          case measure => simp [intOf]; omega
        · rw [decide_eq_false hf]
          have hs2 : S = ((k : Int), if clsI wd x = 4 then 30 else 31) := by rw [HS.out, HST.out, if_neg hf]
          have HS2 := Lib.hid hs2
          have e3 := (hb3.cell (p := ⟨b, off + k, none⟩) (by exact World.block_lt_of_cell? _ _ e0)).trans (by exact e0)
          clear hf hs2 hM2 hb2 hb3 c2 c3 e0
          have c2 := hM3.c2
          have c3 := hM3.c3
          go_wp2
          go_still_tail 7, (by kernel_rfl)
          change wpList _ _ _ _ _ w3.drew
          go_wp2_with fail
          refine (refnan_any x wd hokx _).mono ?_
          rintro e w5 ⟨rfl, hb5⟩
          have hb6 : Below w.heap.size w w5 := hb4.drew.trans (hb5.mono hb4.size)
          by_cases h4 : clsI wd x = 4
          · have q : (clsI wd x == 4) = true := by simp [h4]
            rw [q]
            have H4 := Lib.hid h4
            clear h4 q hokx
            go_wp2
            go_ret2
            exact ⟨by rw [HS2.out, if_pos H4.out]; rfl, hb6⟩
          · have q : (clsI wd x == 4) = false := by simp [h4]
            rw [q]
            have H4 := Lib.hid h4
            clear h4 q hokx
            go_wp2
            go_ret2
            exact ⟨by rw [HS2.out, if_neg H4.out]; rfl, hb6⟩
      · obtain rfl : k = n := by omega
        have he : stopI wd xs = (0, 0) := by
          rw [HG.out, List.drop_of_length_le (by rw [← HN.out]; exact Nat.le_refl _)]
          rfl
        have HE := Lib.hid he
        clear he
        go_wp2
        go_ret2
        exact ⟨by rw [HS.out, HE.out]; rfl, hb2⟩
end Go.Proofs.Ytdddbljkhhbdlaa
