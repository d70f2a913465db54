/-
The program's and the document's own Order, Batches and Batch answer the same.
-/
import Derived.Test.YtdddbljkhhbdlaaRefBatch2
namespace Go.Proofs.Ytdddbljkhhbdlaa
open Go.RowKit

theorem lo_all' (n k bi : Nat) (hk : 0 < k) (h : bi < (n + k - 1) / k) : bi * k < n := by
  have hup : (bi + 1) * k ≤ n + k - 1 := (Nat.le_div_iff_mul_le hk).1 h
  rw [Nat.add_mul] at hup
  omega
/-- What a call that answers a list and an error leaves. -/
def Gives (f : FuncId) (args : Array Value) (er : Int) (L : List Int) : Prop := ∀ w : World, Calls Try.prog f args w fun e w' => ∃ v, e = .returned (.tuple #[v, .int .i64 er]) ∧ w'.ownsRow w.heap.size 3 1 v L.length (cellsI L) ∧ Below w.heap.size w w'

theorem gives_nil {f : FuncId} {args : Array Value} {er : Int} (h : ∀ w : World, Calls Try.prog f args w fun e w' => e = .returned (.tuple #[.slice none 0 0, .int .i64 er]) ∧ w = w') : Gives f args er [] := by
  intro w
  refine (h w).mono ?_
  rintro e w' ⟨rfl, rfl⟩
  exact ⟨_, rfl, World.ownsRow_nil _ _ _ _, Below.refl _ _⟩
theorem gives_nil' {f : FuncId} {args : Array Value} {er : Int} (h : ∀ w : World, Calls Try.prog f args w fun e w' => e = .returned (.tuple #[.slice none 0 0, .int .i64 er]) ∧ Below w.heap.size w w') : Gives f args er [] := by
  intro w
  refine (h w).mono ?_
  rintro e w' ⟨rfl, hb⟩
  exact ⟨_, rfl, World.ownsRow_nil _ _ _ _, hb⟩

theorem order_both (n s ep : Int) (hn : n ≤ 500 ∨ 4096 < n) (he : ep ≤ 9223372036854775807) :
    ∃ er L, L.length ≤ 500 ∧ Gives 42 #[.int .i64 n, .int .i64 s, .int .i64 ep] er L ∧ Gives 43 #[.int .i64 n, .int .i64 s, .int .i64 ep] er L := by
  by_cases h : n < 1 ∨ ep < 0
  · exact ⟨1, [], by simp, gives_nil fun w => order_bad n s ep w h, gives_nil fun w => reforder_bad n s ep w h⟩
  · by_cases h2 : 4096 < n
    · exact ⟨2, [], by simp, gives_nil fun w => order_long n s ep w h2 (by omega), gives_nil fun w => reforder_long n s ep w h2 (by omega)⟩
    · obtain ⟨n, rfl⟩ := Int.eq_ofNat_of_zero_le (show 0 ≤ n by omega)
      obtain ⟨b0, l0, hM⟩ := Mixed.found s (-1 - ep) n 0 (by omega) (n - 1) (by omega)
      have hl := hM.length
      refine ⟨0, l0, by omega, fun w => ?_, fun w => ?_⟩
      · refine (order_ok n s ep w (by omega) (by omega) (by omega) he).mono ?_
        rintro e w' ⟨v, b, l, rfl, hM', hr, hb⟩
        obtain ⟨rfl, rfl⟩ := hM.one hM'
        exact ⟨v, rfl, by rw [hl]; exact hr, hb⟩
      · refine (reforder_ok n s ep w (by omega) (by omega) (by omega) he).mono ?_
        rintro e w' ⟨v, b, l, rfl, hM', hr, hb⟩
        obtain ⟨rfl, rfl⟩ := hM.one hM'
        exact ⟨v, rfl, by rw [hl]; exact hr, hb⟩

theorem batches_both (n k : Int) : ∃ c er : Int, (∀ w : World, Calls Try.prog 44 #[.int .i64 n, .int .i64 k] w fun e w' => e = .returned (.tuple #[.int .i64 c, .int .i64 er]) ∧ w = w') ∧
    (∀ w : World, Calls Try.prog 45 #[.int .i64 n, .int .i64 k] w fun e w' => e = .returned (.tuple #[.int .i64 c, .int .i64 er]) ∧ w = w') := by
  by_cases h : n < 1 ∨ k < 1
  · exact ⟨0, 1, fun w => batches_bad n k w h, fun w => refbatches_bad n k w h⟩
  · by_cases h2 : 4096 < n ∨ 256 < k
    · exact ⟨0, 2, fun w => batches_long n k w (by omega) (by omega) h2, fun w => refbatches_long n k w (by omega) (by omega) h2⟩
    · obtain ⟨n, rfl⟩ := Int.eq_ofNat_of_zero_le (show 0 ≤ n by omega)
      obtain ⟨k, rfl⟩ := Int.eq_ofNat_of_zero_le (show 0 ≤ k by omega)
      exact ⟨_, 0, fun w => batches_ok n k w (by omega) (by omega) (by omega) (by omega), fun w => refbatches_ok n k w (by omega) (by omega) (by omega) (by omega)⟩

theorem batch_both (n k s ep bi : Int) (he : ep ≤ 9223372036854775807) :
    ∃ er L, L.length ≤ 4096 ∧ Gives 46 #[.int .i64 n, .int .i64 k, .int .i64 s, .int .i64 ep, .int .i64 bi] er L ∧ Gives 47 #[.int .i64 n, .int .i64 k, .int .i64 s, .int .i64 ep, .int .i64 bi] er L := by
  by_cases h : n < 1 ∨ k < 1
  · exact ⟨1, [], by simp, gives_nil fun w => batch_bad n k bi s ep w h, gives_nil fun w => refbatch_bad n k bi s ep w h⟩
  · by_cases h2 : 4096 < n ∨ 256 < k
    · exact ⟨2, [], by simp, gives_nil fun w => batch_long n k bi s ep w (by omega) (by omega) h2, gives_nil fun w => refbatch_long n k bi s ep w (by omega) (by omega) h2⟩
    · obtain ⟨n, rfl⟩ := Int.eq_ofNat_of_zero_le (show 0 ≤ n by omega)
      obtain ⟨k, rfl⟩ := Int.eq_ofNat_of_zero_le (show 0 ≤ k by omega)
      by_cases h3 : ep < 0
      · exact ⟨1, [], by simp, gives_nil fun w => batch_epoch n k bi s ep w (by omega) (by omega) h3 (by omega) (by omega), gives_nil fun w => refbatch_epoch n k bi s ep w (by omega) (by omega) h3 (by omega) (by omega)⟩
      · by_cases h4 : bi < 0 ∨ (((n + k - 1) / k : Nat) : Int) ≤ bi
        · exact ⟨5, [], by simp, gives_nil' fun w => batch_index n k bi s ep w (by omega) (by omega) (by omega) he (by omega) (by omega) h4, gives_nil' fun w => refbatch_index n k bi s ep w (by omega) (by omega) (by omega) he (by omega) (by omega) h4⟩
        · obtain ⟨h5, h6⟩ := not_or.1 h4
          obtain ⟨bi, rfl⟩ := Int.eq_ofNat_of_zero_le (show 0 ≤ bi by omega)
          have h7 : bi < (n + k - 1) / k := by exact_mod_cast Int.not_le.1 h6
          obtain ⟨b0, l0, hM⟩ := Mixed.found s (-1 - ep) n 0 (by omega) (n - 1) (by omega)
          have hl := hM.length
          have hlo := (lo_all' n k bi (by omega) h7)
          have hrl := rowsOf_length l0 (bi * k) (min ((bi + 1) * k) n - bi * k) (by omega)
          refine ⟨0, rowsOf l0 (bi * k) (min ((bi + 1) * k) n - bi * k), by rw [hrl]; omega, fun w => ?_, fun w => ?_⟩
          · refine (batch_ok n k bi s ep w (by omega) (by omega) (by omega) he (by omega) (by omega) h7).mono ?_
            rintro e w' ⟨v, b, l, rfl, hM', hr, hb⟩
            obtain ⟨rfl, rfl⟩ := hM.one hM'
            exact ⟨v, rfl, by rw [hrl]; exact hr, hb⟩
          · refine (refbatch_ok n k bi s ep w (by omega) (by omega) (by omega) he (by omega) (by omega) h7).mono ?_
            rintro e w' ⟨v, b, l, rfl, hM', hr, hb⟩
            obtain ⟨rfl, rfl⟩ := hM.one hM'
            exact ⟨v, rfl, by rw [hrl]; exact hr, hb⟩
end Go.Proofs.Ytdddbljkhhbdlaa
