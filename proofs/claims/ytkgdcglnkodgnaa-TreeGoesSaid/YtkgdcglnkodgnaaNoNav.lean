/-
  A reader that there is not: every function of it answers at once.
-/
import Derived.Test.YtkgdcglnkodgnaaRuint
namespace Go.Proofs.Ytkgdcglnkodgnaa
open Go.RowKit
/-- x is no reader: nil, or not made. -/
def NoNav (w : World) (x : Option Addr) : Prop := x = none ∨ ∃ g m, x = some ⟨g, 0, none⟩ ∧ w.cell? ⟨g, 0, none⟩ = some (.int .i64 m) ∧ (m == 1) = false
set_option maxRecDepth 100000 in
set_option maxHeartbeats 400000 in
theorem no96 (x : Option Addr) (w : World) (h : NoNav w x) :
    Calls Try.prog 96 #[.pointer x] w fun e w' => e = .returned (.bool false) ∧ w = w' := by
  rcases h with rfl | ⟨g, m, rfl, hc, hm⟩
  all_goals
    go_enter Try.func96, Try.ntmps96
    go_wp2
    go_ret
    exact ⟨rfl, rfl⟩
theorem NoNav.below {w w' : World} {x : Option Addr} (h : NoNav w x) (hb : Below w.heap.size w w') : NoNav w' x := by
  rcases h with rfl | ⟨g, m, rfl, hc, hm⟩
  · exact .inl rfl
  · have hlt : g < w.heap.size := by
      rcases Nat.lt_or_ge g w.heap.size with h | h
      · exact h
      · simp [World.cell?, Array.getElem?_eq_none h] at hc
    exact .inr ⟨g, m, rfl, by rw [hb.cell hlt, hc], hm⟩
theorem NoNav.alloc {w : World} {x : Option Addr} (h : NoNav w x) (o : Obj) : NoNav (w.alloc o) x := h.below ((Below.refl _ _).alloc (Nat.le_refl _) o)
set_option maxRecDepth 100000 in
set_option maxHeartbeats 400000 in
theorem no108 (x : Option Addr) (i : Int) (w : World) (h : NoNav w x) :
    Calls Try.prog 108 #[.pointer x, .int .i64 i] w fun e w' => e = .returned (.int .i64 262) ∧ w = w' := by
  go_enter Try.func108, Try.ntmps108
  go_wp2_with (go_at_call 96; refine (no96 x _ h).mono ?_; rintro e w' ⟨rfl, rfl⟩)
  go_ret
  exact ⟨rfl, rfl⟩
set_option maxRecDepth 100000 in
set_option maxHeartbeats 400000 in
theorem no59 (x : Option Addr) (i : Int) (w : World) (h : NoNav w x) :
    Calls Try.prog 59 #[.pointer x, .int .i64 i] w fun e w' => e = .returned (.int .i64 262) ∧ w = w' := by
  go_enter Try.func59, Try.ntmps59
  go_wp2_with (go_at_call 108; refine (no108 x i _ h).mono ?_; rintro e w' ⟨rfl, rfl⟩)
  go_ret
  exact ⟨rfl, rfl⟩
set_option maxRecDepth 100000 in
set_option maxHeartbeats 400000 in
theorem no44 (x : Option Addr) (w : World) (h : NoNav w x) :
    Calls Try.prog 44 #[.pointer x] w fun e w' => e = .returned (.slice none 0 0) ∧ w = w' := by
  go_enter Try.func44, Try.ntmps44
  go_wp2_with (go_at_call 96; refine (no96 x _ h).mono ?_; rintro e w' ⟨rfl, rfl⟩)
  go_ret
  exact ⟨rfl, rfl⟩
set_option maxRecDepth 100000 in
set_option maxHeartbeats 400000 in
theorem no49 (x : Option Addr) (w : World) (h : NoNav w x) :
    Calls Try.prog 49 #[.pointer x] w fun e w' => e = .returned (.slice none 0 0) ∧ w = w' := by
  go_enter Try.func49, Try.ntmps49
  go_wp2_with (go_at_call 96; refine (no96 x _ h).mono ?_; rintro e w' ⟨rfl, rfl⟩)
  go_ret
  exact ⟨rfl, rfl⟩
set_option maxRecDepth 100000 in
set_option maxHeartbeats 400000 in
theorem no51 (x : Option Addr) (w : World) (h : NoNav w x) :
    Calls Try.prog 51 #[.pointer x] w fun e w' => e = .returned (.slice none 0 0) ∧ w = w' := by
  go_enter Try.func51, Try.ntmps51
  go_wp2_with (go_at_call 96; refine (no96 x _ h).mono ?_; rintro e w' ⟨rfl, rfl⟩)
  go_ret
  exact ⟨rfl, rfl⟩
set_option maxRecDepth 100000 in
set_option maxHeartbeats 400000 in
theorem no53 (x : Option Addr) (w : World) (h : NoNav w x) :
    Calls Try.prog 53 #[.pointer x] w fun e w' => e = .returned (.slice none 0 0) ∧ w = w' := by
  go_enter Try.func53, Try.ntmps53
  go_wp2_with (go_at_call 96; refine (no96 x _ h).mono ?_; rintro e w' ⟨rfl, rfl⟩)
  go_ret
  exact ⟨rfl, rfl⟩
set_option maxRecDepth 100000 in
set_option maxHeartbeats 400000 in
theorem no60 (x : Option Addr) (w : World) (h : NoNav w x) :
    Calls Try.prog 60 #[.pointer x] w fun e w' => e = .returned (.pointer none) ∧ w = w' := by
  go_enter Try.func60, Try.ntmps60
  go_wp2_with (go_at_call 96; refine (no96 x _ h).mono ?_; rintro e w' ⟨rfl, rfl⟩)
  go_ret
  exact ⟨rfl, rfl⟩
set_option maxRecDepth 100000 in
set_option maxHeartbeats 400000 in
theorem no56 (x : Option Addr) (w : World) (h : NoNav w x) :
    Calls Try.prog 56 #[.pointer x] w fun e w' => e = .returned (.tuple #[.int .i64 0, .int .i64 262]) ∧ w = w' := by
  go_enter Try.func56, Try.ntmps56
  go_wp2_with (go_at_call 96; refine (no96 x _ h).mono ?_; rintro e w' ⟨rfl, rfl⟩)
  go_ret2
  exact ⟨rfl, rfl⟩
set_option maxRecDepth 100000 in
set_option maxHeartbeats 400000 in
theorem no58 (x : Option Addr) (i : Int) (w : World) (h : NoNav w x) :
    Calls Try.prog 58 #[.pointer x, .int .i64 i] w fun e w' => e = .returned (.int .i64 262) ∧ w = w' := by
  go_enter Try.func58, Try.ntmps58
  go_wp2_with (go_at_call 96; refine (no96 x _ h).mono ?_; rintro e w' ⟨rfl, rfl⟩)
  go_ret
  exact ⟨rfl, rfl⟩
set_option maxRecDepth 100000 in
set_option maxHeartbeats 400000 in
theorem no47 (x : Option Addr) (w : World) (h : NoNav w x) :
    Calls Try.prog 47 #[.pointer x] w fun e w' => e = .returned (.tuple #[.agg #[.int .i64 0, .int .i64 0], .bool false]) ∧ Below w.heap.size w w' := by
  go_enter Try.func47, Try.ntmps47
  go_wp2_with (go_at_call 96; refine (no96 x _ (h.alloc _)).mono ?_; rintro e w' ⟨rfl, rfl⟩)
  (try simp only [Exit.inBlock, Exit.then])
  refine bodyPost_ret (v := .tuple #[.agg #[.int .i64 0, .int .i64 0], .bool false]) ?_ rfl ⟨rfl, ?_⟩
  · rw [results_cell_tmp rfl]
    simp [asAddr, Result.andThen]
    rw [run_loadVar_row _ _ 58 58 #[.int .i64 0, .int .i64 0] (0, 0) _ (heap_alloc_new w _) Try.underlying58 rfl (by kernel_rfl)]
  · exact (Below.refl _ _).alloc (Nat.le_refl _) _
set_option maxRecDepth 100000 in
set_option maxHeartbeats 400000 in
theorem no45 (x : Option Addr) (w : World) (h : NoNav w x) :
    Calls Try.prog 45 #[.pointer x] w fun e w' => e = .returned (.tuple #[.agg #[.int .i64 0, .int .i64 0], .int .i64 262]) ∧ Below w.heap.size w w' := by
  go_enter Try.func45, Try.ntmps45
  go_wp2_with (go_at_call 96; refine (no96 x _ (h.alloc _)).mono ?_; rintro e w' ⟨rfl, rfl⟩)
  (try simp only [Exit.inBlock, Exit.then])
  refine bodyPost_ret (v := .tuple #[.agg #[.int .i64 0, .int .i64 0], .int .i64 262]) ?_ rfl ⟨rfl, ?_⟩
  · rw [results_cell_tmp rfl]
    simp [asAddr, Result.andThen]
    rw [run_loadVar_row _ _ 58 58 #[.int .i64 0, .int .i64 0] (0, 0) _ (heap_alloc_new w _) Try.underlying58 rfl (by kernel_rfl)]
  · exact (Below.refl _ _).alloc (Nat.le_refl _) _
set_option maxRecDepth 100000 in
set_option maxHeartbeats 400000 in
theorem no46 (x : Option Addr) (w : World) (h : NoNav w x) :
    Calls Try.prog 46 #[.pointer x] w fun e w' => e = .returned (.tuple #[.agg #[.int .i64 0, .int .i64 0], .int .i64 262]) ∧ Below w.heap.size w w' := by
  go_enter Try.func46, Try.ntmps46
  go_wp2_with (go_at_call 96; refine (no96 x _ (h.alloc _)).mono ?_; rintro e w' ⟨rfl, rfl⟩)
  (try simp only [Exit.inBlock, Exit.then])
  refine bodyPost_ret (v := .tuple #[.agg #[.int .i64 0, .int .i64 0], .int .i64 262]) ?_ rfl ⟨rfl, ?_⟩
  · rw [results_cell_tmp rfl]
    simp [asAddr, Result.andThen]
    rw [run_loadVar_row _ _ 58 58 #[.int .i64 0, .int .i64 0] (0, 0) _ (heap_alloc_new w _) Try.underlying58 rfl (by kernel_rfl)]
  · exact (Below.refl _ _).alloc (Nat.le_refl _) _
set_option maxRecDepth 100000 in
set_option maxHeartbeats 400000 in
theorem no57 (x : Option Addr) (i : Int) (w : World) (h : NoNav w x) :
    Calls Try.prog 57 #[.pointer x, .int .i64 i] w fun e w' => e = .returned (.tuple #[.agg #[.int .i64 0, .int .i64 0], .int .i64 262]) ∧ Below w.heap.size w w' := by
  go_enter Try.func57, Try.ntmps57
  go_wp2_with (go_at_call 108; refine (no108 x i _ (h.alloc _)).mono ?_; rintro e w' ⟨rfl, rfl⟩)
  (try simp only [Exit.inBlock, Exit.then])
  refine bodyPost_ret (v := .tuple #[.agg #[.int .i64 0, .int .i64 0], .int .i64 262]) ?_ rfl ⟨rfl, ?_⟩
  · rw [results_cell_tmp rfl]
    simp [asAddr, Result.andThen]
    rw [run_loadVar_row _ _ 58 58 #[.int .i64 0, .int .i64 0] (0, 0) _ (heap_alloc_new w _) Try.underlying58 rfl (by kernel_rfl)]
  · exact (Below.refl _ _).alloc (Nat.le_refl _) _
set_option maxRecDepth 100000 in
set_option maxHeartbeats 400000 in
theorem no48 (x : Option Addr) (a b : Int) (w : World) (h : NoNav w x) :
    Calls Try.prog 48 #[.pointer x, .agg #[.int .i64 a, .int .i64 b]] w fun e w' => e = .returned (.int .i64 262) ∧ Below w.heap.size w w' := by
  go_enter Try.func48, Try.ntmps48
  go_wp2_with (go_at_call 96; refine (no96 x _ (h.alloc _)).mono ?_; rintro e w' ⟨rfl, rfl⟩)
  go_ret
  exact ⟨rfl, (Below.refl _ _).alloc (Nat.le_refl _) _⟩
set_option maxRecDepth 100000 in
set_option maxHeartbeats 400000 in
theorem no50 (x : Option Addr) (i : Int) (w : World) (h : NoNav w x) :
    Calls Try.prog 50 #[.pointer x, .int .i64 i] w fun e w' => e = .returned (.int .i64 0) ∧ Below w.heap.size w w' := by
  go_enter Try.func50, Try.ntmps50
  go_wp2_with (go_at_call 96; refine (no96 x _ (h.alloc _)).mono ?_; rintro e w' ⟨rfl, rfl⟩)
  go_ret
  exact ⟨rfl, (Below.refl _ _).alloc (Nat.le_refl _) _⟩
end Go.Proofs.Ytkgdcglnkodgnaa
