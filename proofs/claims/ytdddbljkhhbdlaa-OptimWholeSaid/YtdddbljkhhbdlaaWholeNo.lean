/-
OptimWhole where nothing is asked: true.
-/
import Derived.Test.YtdddbljkhhbdlaaWholeAlive
namespace Go.Proofs.Ytdddbljkhhbdlaa
open Go.RowKit

/-- Is something asked? -/
def AskW (l m : Nat) (sh wd : Int) : Prop := 1 ≤ l ∧ l ≤ 60 ∧ m = l ∧ 0 ≤ sh ∧ sh ≤ 8 ∧ (wd = 32 ∨ wd = 64)

set_option maxRecDepth 100000 in
set_option maxHeartbeats 2000000 in
theorem whole_no1 (pw pg : Option Addr) (m cw cg : Nat) (sh wd : Int) (w : World) :
    Calls Try.prog 9 #[.slice pw 0 cw, .slice pg m cg, .int .i64 sh, .int .i64 wd] w fun e w' => e = .returned (.bool true) ∧ Below w.heap.size w w' := by
  go_enter Try.func9, Try.ntmps9
  go_wp2_with fail
  refine (alive17 _).mono ?_
  rintro e w1 ⟨rfl, hb⟩
  go_wp2_with fail
  refine (alive17 _).mono ?_
  rintro e w2 ⟨rfl, hb2⟩
  go_wp2
  go_ret
  exact ⟨rfl, hb.trans (hb2.mono hb.size)⟩

set_option maxRecDepth 100000 in
set_option maxHeartbeats 2000000 in
theorem whole_no2 (pw pg : Option Addr) (l m cw cg : Nat) (sh wd : Int) (w : World) (h1 : 60 < l) :
    Calls Try.prog 9 #[.slice pw l cw, .slice pg m cg, .int .i64 sh, .int .i64 wd] w fun e w' => e = .returned (.bool true) ∧ Below w.heap.size w w' := by
  have k0 : ((l : Int) == 0) = false := by simp; omega
  have k1 : decide ((60 : Int) < (l : Int)) = true := by simp; omega
  go_enter Try.func9, Try.ntmps9
  go_wp2_with fail
  refine (alive17 _).mono ?_
  rintro e w1 ⟨rfl, hb⟩
  go_wp2_with fail
  refine (alive17 _).mono ?_
  rintro e w2 ⟨rfl, hb2⟩
  go_wp2
  go_ret
  exact ⟨rfl, hb.trans (hb2.mono hb.size)⟩

set_option maxRecDepth 100000 in
set_option maxHeartbeats 2000000 in
theorem whole_no3 (pw pg : Option Addr) (l m cw cg : Nat) (sh wd : Int) (w : World) (h0 : 0 < l) (h1 : l ≤ 60) (h2 : m ≠ l) :
    Calls Try.prog 9 #[.slice pw l cw, .slice pg m cg, .int .i64 sh, .int .i64 wd] w fun e w' => e = .returned (.bool true) ∧ Below w.heap.size w w' := by
  have k0 : ((l : Int) == 0) = false := by simp; omega
  have k1 : decide ((60 : Int) < (l : Int)) = false := by simp; omega
  have k2 : ((m : Int) != (l : Int)) = true := by simp; omega
  go_enter Try.func9, Try.ntmps9
  go_wp2_with fail
  refine (alive17 _).mono ?_
  rintro e w1 ⟨rfl, hb⟩
  go_wp2_with fail
  refine (alive17 _).mono ?_
  rintro e w2 ⟨rfl, hb2⟩
  go_wp2
  go_ret
  exact ⟨rfl, hb.trans (hb2.mono hb.size)⟩

set_option maxRecDepth 100000 in
set_option maxHeartbeats 2000000 in
theorem whole_no4 (pw pg : Option Addr) (l cw cg : Nat) (sh wd : Int) (w : World) (h0 : 0 < l) (h1 : l ≤ 60) (h3 : sh < 0) :
    Calls Try.prog 9 #[.slice pw l cw, .slice pg l cg, .int .i64 sh, .int .i64 wd] w fun e w' => e = .returned (.bool true) ∧ Below w.heap.size w w' := by
  have k0 : ((l : Int) == 0) = false := by simp; omega
  have k1 : decide ((60 : Int) < (l : Int)) = false := by simp; omega
  have k2 : ((l : Int) != (l : Int)) = false := by simp
  go_enter Try.func9, Try.ntmps9
  go_wp2_with fail
  refine (alive17 _).mono ?_
  rintro e w1 ⟨rfl, hb⟩
  go_wp2_with fail
  refine (alive17 _).mono ?_
  rintro e w2 ⟨rfl, hb2⟩
  go_wp2
  go_ret
  exact ⟨rfl, hb.trans (hb2.mono hb.size)⟩

set_option maxRecDepth 100000 in
set_option maxHeartbeats 2000000 in
theorem whole_no5 (pw pg : Option Addr) (l cw cg : Nat) (sh wd : Int) (w : World) (h0 : 0 < l) (h1 : l ≤ 60) (h3 : 0 ≤ sh) (h4 : 8 < sh) :
    Calls Try.prog 9 #[.slice pw l cw, .slice pg l cg, .int .i64 sh, .int .i64 wd] w fun e w' => e = .returned (.bool true) ∧ Below w.heap.size w w' := by
  have k0 : ((l : Int) == 0) = false := by simp; omega
  have k1 : decide ((60 : Int) < (l : Int)) = false := by simp; omega
  have k2 : ((l : Int) != (l : Int)) = false := by simp
  go_enter Try.func9, Try.ntmps9
  go_wp2_with fail
  refine (alive17 _).mono ?_
  rintro e w1 ⟨rfl, hb⟩
  go_wp2_with fail
  refine (alive17 _).mono ?_
  rintro e w2 ⟨rfl, hb2⟩
  go_wp2
  go_ret
  exact ⟨rfl, hb.trans (hb2.mono hb.size)⟩

set_option maxRecDepth 100000 in
set_option maxHeartbeats 2000000 in
theorem whole_no6 (pw pg : Option Addr) (l cw cg : Nat) (sh wd : Int) (w : World) (h0 : 0 < l) (h1 : l ≤ 60) (h3 : 0 ≤ sh) (h4 : sh ≤ 8) (h5 : wd ≠ 32) (h6 : wd ≠ 64) :
    Calls Try.prog 9 #[.slice pw l cw, .slice pg l cg, .int .i64 sh, .int .i64 wd] w fun e w' => e = .returned (.bool true) ∧ Below w.heap.size w w' := by
  have k0 : ((l : Int) == 0) = false := by simp; omega
  have k1 : decide ((60 : Int) < (l : Int)) = false := by simp; omega
  have k2 : ((l : Int) != (l : Int)) = false := by simp
  have k5 : (wd != 32) = true := by simp [h5]
  have k6 : (wd != 64) = true := by simp [h6]
  clear h5 h6
  go_enter Try.func9, Try.ntmps9
  go_wp2_with fail
  refine (alive17 _).mono ?_
  rintro e w1 ⟨rfl, hb⟩
  go_wp2_with fail
  refine (alive17 _).mono ?_
  rintro e w2 ⟨rfl, hb2⟩
  go_wp2
  go_ret
  exact ⟨rfl, hb.trans (hb2.mono hb.size)⟩

theorem whole_no (pw pg : Option Addr) (l m cw cg : Nat) (sh wd : Int) (w : World) (h : ¬ AskW l m sh wd) :
    Calls Try.prog 9 #[.slice pw l cw, .slice pg m cg, .int .i64 sh, .int .i64 wd] w fun e w' => e = .returned (.bool true) ∧ Below w.heap.size w w' := by
  by_cases h0 : l = 0
  · subst h0; exact whole_no1 pw pg m cw cg sh wd w
  by_cases h1 : 60 < l
  · exact whole_no2 pw pg l m cw cg sh wd w h1
  by_cases h2 : m = l
  · subst h2
    by_cases h3 : sh < 0
    · exact whole_no4 pw pg m cw cg sh wd w (by omega) (by omega) h3
    by_cases h4 : 8 < sh
    · exact whole_no5 pw pg m cw cg sh wd w (by omega) (by omega) (by omega) h4
    exact whole_no6 pw pg m cw cg sh wd w (by omega) (by omega) (by omega) (by omega) (fun e => h (by unfold AskW; omega)) (fun e => h (by unfold AskW; omega))
  · exact whole_no3 pw pg l m cw cg sh wd w (by omega) (by omega) h2
end Go.Proofs.Ytdddbljkhhbdlaa
