/-
  nav: may, New.
-/
import Derived.Test.YtkgdcglnkodgnaaNoNav
namespace Go.Proofs.Ytkgdcglnkodgnaa
open Go.RowKit
/-- May a place be? -/
def mayP (a b : Int) : Bool := decide (0 ≤ a ∧ a < 1000 ∧ 0 ≤ b ∧ b < 2000)
set_option maxRecDepth 100000 in
set_option maxHeartbeats 400000 in
theorem may101 (a b : Int) (w : World) :
    Calls Try.prog 101 #[.agg #[.int .i64 a, .int .i64 b]] w fun e w' => e = .returned (.bool (mayP a b)) ∧ Below w.heap.size w w' := by
  have HB := (Below.refl w.heap.size w).alloc (Nat.le_refl _) (.cells #[.int .i64 a, .int .i64 b] 58)
  by_cases h1 : 0 ≤ a
  · by_cases h2 : a < 1000
    · by_cases h3 : 0 ≤ b
      · by_cases h4 : b < 2000
        · have HM : mayP a b = true := decide_eq_true ⟨h1, h2, h3, h4⟩
          rw [HM]
          go_enter Try.func101, Try.ntmps101
          go_wp2
          go_ret
          exact ⟨rfl, HB⟩
        · have HM : mayP a b = false := decide_eq_false fun h => h4 h.2.2.2
          rw [HM]
          go_enter Try.func101, Try.ntmps101
          go_wp2
          go_ret
          exact ⟨rfl, HB⟩
      · have HM : mayP a b = false := decide_eq_false fun h => h3 h.2.2.1
        rw [HM]
        go_enter Try.func101, Try.ntmps101
        go_wp2
        go_ret
        exact ⟨rfl, HB⟩
    · have HM : mayP a b = false := decide_eq_false fun h => h2 h.2.1
      rw [HM]
      go_enter Try.func101, Try.ntmps101
      go_wp2
      go_ret
      exact ⟨rfl, HB⟩
  · have HM : mayP a b = false := decide_eq_false fun h => h1 h.1
    rw [HM]
    go_enter Try.func101, Try.ntmps101
    go_wp2
    go_ret
    exact ⟨rfl, HB⟩
set_option maxRecDepth 100000 in
set_option maxHeartbeats 400000 in
theorem new52 (w : World) :
    Calls Try.prog 52 #[] w fun e w' => e = .returned (.pointer (some ⟨w.heap.size, 0, none⟩)) ∧ w' = w.alloc (.cells #[.int .i64 1, .int .i64 0, .int .i64 0, .int .i64 0, .slice none 0 0, .slice none 0 0, .slice none 0 0] 78) := by
  go_enter Try.func52, Try.ntmps52
  go_wp2
  go_ret
  exact ⟨rfl, rfl⟩
set_option maxRecDepth 100000 in
set_option maxHeartbeats 400000 in
theorem is96 (g : Nat) (w : World) (h : w.cell? ⟨g, 0, none⟩ = some (.int .i64 1)) :
    Calls Try.prog 96 #[.pointer (some ⟨g, 0, none⟩)] w fun e w' => e = .returned (.bool true) ∧ w = w' := by
  go_enter Try.func96, Try.ntmps96
  go_wp2
  go_ret
  exact ⟨rfl, rfl⟩
end Go.Proofs.Ytkgdcglnkodgnaa
