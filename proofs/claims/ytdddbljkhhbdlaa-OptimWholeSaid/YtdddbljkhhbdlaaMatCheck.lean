/-
The contract of tensor.Check and of the document's own.
-/
import Derived.Test.YtdddbljkhhbdlaaMat
namespace Go.Proofs.Ytdddbljkhhbdlaa
open Go.RowKit

theorem fitI_snoc (wd : Int) (xs : List Int) : fitI wd xs = true ↔ ∀ j, j < xs.length → (wd == 64 || decide (0 ≤ xs.getD j 0 ∧ xs.getD j 0 ≤ 4294967295)) = true := by
  unfold fitI
  constructor
  · intro h j hj
    rcases Bool.or_eq_true _ _ ▸ h with h | h
    · rw [h]; rfl
    · have := List.all_eq_true.1 h _ (List.getElem_mem hj)
      simp [List.getD, hj] at this ⊢
      exact .inr this
  · intro h
    by_cases hw : (wd == 64) = true
    · rw [hw]; rfl
    · rw [Bool.or_eq_true]
      right
      rw [List.all_eq_true]
      intro x hx
      obtain ⟨j, hj, rfl⟩ := List.getElem_of_mem hx
      have := h j hj
      rw [Bool.or_eq_true] at this
      rcases this with h2 | h2
      · exact absurd h2 hw
      · simpa [List.getD, hj] using h2

set_option maxRecDepth 100000 in
set_option maxHeartbeats 2000000 in
theorem check_any (r c wd : Int) (v : Value) (xs : List Int) (w : World) (hv : ReadI w v xs) (hx : xs.length ≤ 100000000) :
    Calls Try.prog 83 #[matV r c wd v] w fun e w' => e = .returned (.int .i64 (matE r c wd xs)) ∧ Below w.heap.size w w' := by
  unfold matV
  by_cases hE : szE r c wd = 0
  · obtain ⟨hw, hr1, hc1, hr2, hc2, hm⟩ := szE_ok hE
    obtain ⟨m0, m1⟩ := mul_small r c hr1 hc1 hr2 hc2
    by_cases hl : (xs.length : Int) = r * c
    · have hm1 : 1 ≤ r * c := by
        have := Int.mul_le_mul hr1 hc1 (by omega) (by omega)
        omega
      rcases hv with ⟨_, rfl⟩ | ⟨b, off, cp, rfl, hcp, hcell⟩
      · simp at hl; omega
      · obtain ⟨n, hn⟩ : ∃ n, n = xs.length := ⟨_, rfl⟩
        have hME : matE r c wd xs = if fitI wd xs then 0 else 6 := by unfold matE; simp [hE, hl]
        rw [hME]
        obtain ⟨R, hR⟩ : ∃ R : Int, R = if fitI wd xs then 0 else 6 := ⟨_, rfl⟩
        rw [← hR]
        have HR := Lib.hid hR
        clear hR
        rw [← hn] at hl hcp hcell hx ⊢
        have HN := Lib.hid hn
        clear hn hME
        have hlb : ((n : Int) != r * c) = false := by simp [hl]
        have HC := Lib.hid hcell
        have HLI := Lib.hid hl
        clear hcell hl
        go_enter Try.func83, Try.ntmps83
        go_wp2_with fail
        obtain ⟨w1, hw1, hM, hb1, hs1⟩ := boxM w r c wd (.slice (some ⟨b, off, none⟩) n cp)
        rw [← hw1]
        clear hw1
        have c0 := hM.c0
        have c1 := hM.c1
        have c2 := hM.c2
        have c3 := hM.c3
        refine (sized_any r c wd _).mono ?_
        rintro e w2 ⟨rfl, rfl⟩
        rw [hE]
        go_wp2
        go_loopw [5, 28] (fun _ i wr => ∃ k : Nat, k ≤ n ∧ i = .int .i64 k ∧ wr = w1 ∧ Hid (∀ j, j < k → (wd == 64 || decide (0 ≤ xs.getD j 0 ∧ xs.getD j 0 ≤ 4294967295)) = true)) (fun _ i _ => n - (intOf i).toNat)
        case atStart => exact ⟨0, Nat.zero_le _, rfl, rfl, fun j hj => absurd hj (Nat.not_lt_zero _)⟩
        case round =>
          obtain ⟨k, hk, rfl, rfl, HG⟩ := hrel
          by_cases hlt : k < n
          · have e0 : wr.cell? ⟨b, off + k, none⟩ = some (.int .i64 (xs.getD k 0)) := (hb1.cell (p := ⟨b, off + k, none⟩) (by exact World.block_lt_of_cell? _ _ (HC.out k hlt))).trans (HC.out k hlt)
            obtain ⟨x, hx9⟩ : ∃ x, x = xs.getD k 0 := ⟨_, rfl⟩
            rw [← hx9] at e0
            have HX := Lib.hid hx9
            clear hx9
            go_wp2_with fail
            refine (valid_all x wd hw _).mono ?_
            rintro e w3 ⟨rfl, rfl⟩
            by_cases hvl : (wd == 64 || decide (0 ≤ x ∧ x ≤ 4294967295)) = true
            · rw [hvl]
              have HV := Lib.hid hvl
              clear hvl
              go_wp2
              go_roundw
              case rel =>
                refine ⟨k + 1, hlt, by go_num, by trivial, fun j hj => ?_⟩
                by_cases ej : j = k
                · subst ej; rw [← HX.out]; exact HV.out
                · exact HG.out j (by omega)
              case measure => simp [intOf]; omega
            · have hv2 : (wd == 64 || decide (0 ≤ x ∧ x ≤ 4294967295)) = false := by simpa using hvl
              have hfit : fitI wd xs = false := by
                by_cases hf : fitI wd xs = true
                · have := (fitI_snoc wd xs).1 hf k (by rw [← HN.out]; exact hlt)
                  rw [← HX.out] at this
                  exact absurd this hvl
                · simpa using hf
              rw [hv2]
              have HF := Lib.hid hfit
              clear hvl hv2 hfit
              go_wp2
              go_ret
              exact ⟨by rw [HR.out, HF.out]; rfl, hb1⟩
          · obtain rfl : k = n := by omega
            have hfit : fitI wd xs = true := (fitI_snoc wd xs).2 fun j hj => HG.out j (by rw [HN.out]; exact hj)
            have HF := Lib.hid hfit
            clear hfit
            go_wp2
            go_ret
            exact ⟨by rw [HR.out, HF.out]; rfl, hb1⟩
    · have hME : matE r c wd xs = 4 := by unfold matE; simp [hE, hl]
      rw [hME]
      have hlb : ((xs.length : Int) != r * c) = true := by simp [hl]
      clear hME hl
      obtain ⟨a, cp, rfl⟩ : ∃ a cp, v = .slice a xs.length cp := by
        rcases hv with ⟨rfl, rfl⟩ | ⟨b, off, cp, rfl, _⟩
        · exact ⟨none, 0, rfl⟩
        · exact ⟨_, _, rfl⟩
      obtain ⟨n, hn⟩ : ∃ n, n = xs.length := ⟨_, rfl⟩
      rw [← hn] at hlb hx ⊢
      clear hn hv
      go_enter Try.func83, Try.ntmps83
      go_wp2_with fail
      obtain ⟨w1, hw1, hM, hb1, hs1⟩ := boxM w r c wd (.slice a n cp)
      rw [← hw1]
      clear hw1
      have c0 := hM.c0
      have c1 := hM.c1
      have c2 := hM.c2
      have c3 := hM.c3
      refine (sized_any r c wd _).mono ?_
      rintro e w2 ⟨rfl, rfl⟩
      rw [hE]
      go_wp2
      go_ret
      exact ⟨rfl, hb1⟩
  · have hME : matE r c wd xs = szE r c wd := by unfold matE; simp [hE]
    rw [hME]
    obtain ⟨E, he⟩ : ∃ E, E = szE r c wd := ⟨_, rfl⟩
    rw [← he] at hE ⊢
    have hEb : (E != 0) = true := by simp [hE]
    have HE := Lib.hid he
    clear he hE hME hv
    go_enter Try.func83, Try.ntmps83
    go_wp2_with fail
    obtain ⟨w1, hw1, hM, hb1, hs1⟩ := boxM w r c wd v
    rw [← hw1]
    clear hw1
    refine (sized_any r c wd _).mono ?_
    rintro e w2 ⟨rfl, rfl⟩
    rw [← HE.out]
    go_wp2
    go_ret
    exact ⟨rfl, hb1⟩
end Go.Proofs.Ytdddbljkhhbdlaa
