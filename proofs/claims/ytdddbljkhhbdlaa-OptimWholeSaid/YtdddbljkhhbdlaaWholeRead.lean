/-
optim's read, pattern, plain, rules, at small whole numbers.
-/
import Derived.Test.YtdddbljkhhbdlaaWholeFit
import Derived.Laws.FloatArith
import Derived.WalkLawsBesides
import Derived.Laws.EntriesVeiled
namespace Go.Proofs.Ytdddbljkhhbdlaa
open Go.RowKit

theorem u32_back (x : Nat) (h : x < 4294967296) : ((x : Int) % 4294967296).toNat = x := by omega
/-- A float is stored as any other plain value. -/
theorem run_store_float {P : Program} {w : World} {a : Addr} {m : Mode} (k : FloatKind) (n : Nat) : (store a (.float k n) m).run P w = stored P w a (.float k n) m := run_store P w a _ m rfl
attribute [local go_sem] run_store_float

set_option maxRecDepth 100000 in
set_option maxHeartbeats 1000000 in
theorem read32 (n : Int) (w : World) : Calls Try.prog 142 #[.int .i64 (patI 32 n), .int .i64 32] w fun e w' => e = .returned (.float .f32 (floatOfInt .f32 n)) ∧ w' = w := by
  rw [patI32, back32 _ (word32 n)]
  have hx := u32_back _ (word32 n)
  generalize floatOfInt .f32 n = x at hx ⊢
  have hr : ∀ w, (callFunc 166 #[.int .u32 ((x : Int) % 4294967296)]).run Try.prog w = .ok (.value (.float .f32 x)) w := fun w => by rw [run_from32, hx]
  clear hx
  go_enter Try.func142, Try.ntmps142
  go_wp2_with (first | rw [hr])
  go_ret
  exact ⟨rfl, rfl⟩
set_option maxRecDepth 100000 in
set_option maxHeartbeats 1000000 in
theorem read64 (n : Int) (w : World) : Calls Try.prog 147 #[.int .i64 (patI 64 n), .int .i64 64] w fun e w' => e = .returned (.float .f64 (floatOfInt .f64 n)) ∧ w' = w := by
  rw [patI64]
  have hx := back64 _ (word64 n)
  generalize floatOfInt .f64 n = x at hx ⊢
  generalize wrap64 (x : Int) = y at hx ⊢
  have hr : ∀ w, (callFunc 138 #[.int .u64 (IntKind.u64.wrap y)]).run Try.prog w = .ok (.value (.float .f64 x)) w := fun w => by rw [run_from64, hx]
  clear hx
  go_enter Try.func147, Try.ntmps147
  go_wp2_with (first | rw [hr])
  go_ret
  exact ⟨rfl, rfl⟩
set_option maxRecDepth 100000 in
set_option maxHeartbeats 1000000 in
theorem pat32 (n : Int) (w : World) : Calls Try.prog 143 #[.float .f32 (floatOfInt .f32 n), .int .i64 32] w fun e w' => e = .returned (.int .i64 (patI 32 n)) ∧ w' = w := by
  rw [patI32]
  generalize floatOfInt .f32 n = x
  go_enter Try.func143, Try.ntmps143
  go_wp2_with (simp only [run_bits32])
  go_ret
  exact ⟨rfl, rfl⟩
set_option maxRecDepth 100000 in
set_option maxHeartbeats 1000000 in
theorem pat64 (n : Int) (w : World) : Calls Try.prog 148 #[.float .f64 (floatOfInt .f64 n), .int .i64 64] w fun e w' => e = .returned (.int .i64 (patI 64 n)) ∧ w' = w := by
  rw [patI64]
  generalize floatOfInt .f64 n = x
  go_enter Try.func148, Try.ntmps148
  go_wp2_with (simp only [run_bits64])
  go_ret
  exact ⟨rfl, rfl⟩

set_option maxRecDepth 100000 in
set_option maxHeartbeats 1000000 in
theorem plain32 (a b r p d : Nat) (w : World) (hm : floatBits .mul .f32 r b = some p) (hs : floatBits .sub .f32 a p = some d) :
    Calls Try.prog 167 #[.agg #[.float .f32 a, .float .f32 b, .float .f32 0, .float .f32 0], .agg #[.float .f32 r, .float .f32 0, .float .f32 0, .float .f32 0, .float .f32 0, .float .f32 0], .agg #[.float .f32 0, .float .f32 0]] w
      fun e w' => e = .returned (.agg #[.float .f32 d, .float .f32 b, .float .f32 0, .float .f32 0]) ∧ Below w.heap.size w w' := by
  have hm' : ∀ t w, (binOp .mul t (.float .f32 r) (.float .f32 b)).run Try.prog w = .ok (.float .f32 p) w := fun t w => run_float_arith w .mul t .f32 r b p hm
  have hs' : ∀ t w, (binOp .sub t (.float .f32 a) (.float .f32 p)).run Try.prog w = .ok (.float .f32 d) w := fun t w => run_float_arith w .sub t .f32 a p d hs
  clear hm hs
  go_enter Try.func167, Try.ntmps167
  go_wp2_with (first | rw [hm'] | rw [hs'])
  refine bodyPost_ret (by simp [results, Try.results167, go_sem]; try rfl) rfl ⟨rfl, ?_⟩
  exact ((((Below.refl _ w).alloc (Nat.le_refl _) _).alloc (by simp) _).alloc (by simp; omega) _).alloc (by simp; omega) _

set_option maxRecDepth 100000 in
set_option maxHeartbeats 1000000 in
theorem rules32 (w : World) : Calls Try.prog 144 #[] w fun e w' => e = .returned (.agg #[.func (.func 167) #[] #[], .func (.func 168) #[] #[], .func (.func 169) #[] #[], .func (.func 170) #[] #[], .func (.func 171) #[] #[], .func (.func 172) #[] #[]]) ∧ Below w.heap.size w w' := by
  go_enter Try.func144, Try.ntmps144
  go_wp2
  refine bodyPost_ret (by simp [results, Try.results144, go_sem]; try rfl) rfl ⟨rfl, ?_⟩
  exact (Below.refl _ w).alloc (Nat.le_refl _) _

set_option maxRecDepth 100000 in
set_option maxHeartbeats 1000000 in
theorem plain64 (a b r p d : Nat) (w : World) (hm : floatBits .mul .f64 r b = some p) (hs : floatBits .sub .f64 a p = some d) :
    Calls Try.prog 174 #[.agg #[.float .f64 a, .float .f64 b, .float .f64 0, .float .f64 0], .agg #[.float .f64 r, .float .f64 0, .float .f64 0, .float .f64 0, .float .f64 0, .float .f64 0], .agg #[.float .f64 0, .float .f64 0]] w
      fun e w' => e = .returned (.agg #[.float .f64 d, .float .f64 b, .float .f64 0, .float .f64 0]) ∧ Below w.heap.size w w' := by
  have hm' : ∀ t w, (binOp .mul t (.float .f64 r) (.float .f64 b)).run Try.prog w = .ok (.float .f64 p) w := fun t w => run_float_arith w .mul t .f64 r b p hm
  have hs' : ∀ t w, (binOp .sub t (.float .f64 a) (.float .f64 p)).run Try.prog w = .ok (.float .f64 d) w := fun t w => run_float_arith w .sub t .f64 a p d hs
  clear hm hs
  go_enter Try.func174, Try.ntmps174
  go_wp2_with (first | rw [hm'] | rw [hs'])
  refine bodyPost_ret (by simp [results, Try.results174, go_sem]; try rfl) rfl ⟨rfl, ?_⟩
  exact ((((Below.refl _ w).alloc (Nat.le_refl _) _).alloc (by simp) _).alloc (by simp; omega) _).alloc (by simp; omega) _

set_option maxRecDepth 100000 in
set_option maxHeartbeats 1000000 in
theorem rules64 (w : World) : Calls Try.prog 149 #[] w fun e w' => e = .returned (.agg #[.func (.func 174) #[] #[], .func (.func 175) #[] #[], .func (.func 176) #[] #[], .func (.func 177) #[] #[], .func (.func 178) #[] #[], .func (.func 179) #[] #[]]) ∧ Below w.heap.size w w' := by
  go_enter Try.func149, Try.ntmps149
  go_wp2
  refine bodyPost_ret (by simp [results, Try.results149, go_sem]; try rfl) rfl ⟨rfl, ?_⟩
  exact (Below.refl _ w).alloc (Nat.le_refl _) _
end Go.Proofs.Ytdddbljkhhbdlaa
