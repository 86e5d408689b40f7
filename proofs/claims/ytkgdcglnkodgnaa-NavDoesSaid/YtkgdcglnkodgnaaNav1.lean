/-
  nav: Behind, Now, Move walked. No condition.
-/
import Derived.Test.YtkgdcglnkodgnaaIns
import Derived.Test.YtkgdcglnkodgnaaNavQ
namespace Go.Proofs.Ytkgdcglnkodgnaa
open Go.RowKit
section
variable {w w' : World} {g : Nat} {F : Nat → Prop} {s : NS} {A1 A2 A3 : Option Addr} {n1 c1 n2 c2 n3 c3 : Nat}
theorem NavC.made (h : NavC w g F s A1 n1 c1 A2 n2 c2 A3 n3 c3) : w.cell? ⟨g, 0, none⟩ = some (.int .i64 1) := (nav_cells h.heap).1
theorem NavC.glt (h : NavC w g F s A1 n1 c1 A2 n2 c2 A3 n3 c3) : g < w.heap.size := h.lt g h.fg
end
/-- A place's value. -/
def plV (p : Pl) : Value := .agg #[.int .i64 p.1, .int .i64 p.2]
set_option maxRecDepth 100000 in
set_option maxHeartbeats 400000 in
theorem behind51 (g : Nat) (F : Nat → Prop) (s : NS) (w : World) (h : NavAt w g F s) (hl : s.bh.length ≤ 100) :
    Calls Try.prog 51 #[.pointer (some ⟨g, 0, none⟩)] w fun e w' => ∃ A n c, e = .returned (.slice A n c) ∧ OwnP w' w.heap.size A n c s.bh ∧ Below w.heap.size w w' := by
  obtain ⟨A1, n1, c1, A2, n2, c2, A3, n3, c3, h⟩ := h
  have hln := Hd.mk h.o1.len
  have hn1 : n1 ≤ 100 := by rw [← hln.out]; exact hl
  obtain ⟨a0, a1, a2, a3, a4, a5, a6, af⟩ := nav_cells h.heap
  go_enter Try.func51, Try.ntmps51
  go_wp2_with (first
    | (go_at_call 96; refine (is96 g _ h.made).mono ?_; rintro e w' ⟨rfl, rfl⟩)
    | (go_at_call 99; refine (clone99 A1 n1 c1 s.bh w (Own.rd h.o1) (by omega) h.o1.some_).mono ?_; rintro e w1 ⟨B, cb, rfl, ho, hb⟩))
  go_ret
  exact ⟨_, _, _, rfl, ho, hb⟩
set_option maxRecDepth 100000 in
set_option maxHeartbeats 400000 in
theorem now47 (g : Nat) (F : Nat → Prop) (s : NS) (w : World) (h : NavAt w g F s) :
    Calls Try.prog 47 #[.pointer (some ⟨g, 0, none⟩)] w fun e w' => e = .returned (.tuple #[plV s.told, .bool s.has]) ∧ Below w.heap.size w w' := by
  obtain ⟨A1, n1, c1, A2, n2, c2, A3, n3, c3, h⟩ := h
  obtain ⟨a0, a1, a2, a3, a4, a5, a6, af⟩ := nav_cells h.heap
  have hg := h.glt
  cases hh : s.has
  · have ht : s.told = (0, 0) := by simp [NS.told, hh]
    rw [ht]
    rw [hh] at a1
    simp only [Bool.false_eq_true, if_false] at a1
    clear ht hh
    go_enter Try.func47, Try.ntmps47
    go_wp2_with (first
      | (go_at_call 96; refine (is96 g _ (h.alloc _).made).mono ?_; rintro e w' ⟨rfl, rfl⟩))
    (try simp only [Exit.inBlock, Exit.then])
    refine bodyPost_ret (v := .tuple #[plV (0, 0), .bool false]) ?_ rfl ⟨rfl, below_alloc _ _⟩
    rw [results_cell_tmp rfl]
    simp [asAddr, Result.andThen]
    rw [run_loadVar_row _ _ 58 58 #[.int .i64 0, .int .i64 0] (0, 0) _ (heap_alloc_new w _) Try.underlying58 rfl (by kernel_rfl)]
    rfl
  · have ht : s.told = s.now := by simp [NS.told, hh]
    rw [ht]
    rw [hh] at a1
    simp only [if_true] at a1
    clear ht hh
    go_enter Try.func47, Try.ntmps47
    go_wp2_with (first
      | (go_at_call 96; refine (is96 g _ (h.alloc _).made).mono ?_; rintro e w' ⟨rfl, rfl⟩))
    (try simp only [Exit.inBlock, Exit.then])
    refine bodyPost_ret (v := .tuple #[plV s.now, .bool true]) ?_ rfl ⟨rfl, below_alloc _ _⟩
    rw [results_cell_tmp rfl]
    simp [asAddr, Result.andThen]
    rw [run_loadVar_row _ _ 58 58 #[.int .i64 s.now.1, .int .i64 s.now.2] (0, 0) _ (heap_alloc_new w _) Try.underlying58 rfl (by kernel_rfl)]
    rfl
set_option maxRecDepth 100000 in
set_option maxHeartbeats 400000 in
theorem move58 (g : Nat) (F : Nat → Prop) (s : NS) (x : Int) (w : World) (h : NavAt w g F s) :
    Calls Try.prog 58 #[.pointer (some ⟨g, 0, none⟩), .int .i64 x] w fun e w' => e = .returned (.int .i64 ((s.move x).1 : Int)) ∧ NavTo w w' g F (s.move x).2 := by
  obtain ⟨A1, n1, c1, A2, n2, c2, A3, n3, c3, h⟩ := h
  obtain ⟨a0, a1, a2, a3, a4, a5, a6, af⟩ := nav_cells h.heap
  have N0 := NavT.refl h
  cases hh : s.has
  · have ht : Hd (s.move x = (3, s)) := ⟨by simp [NS.move, hh]⟩
    rw [ht.out]
    rw [hh] at a1
    simp only [Bool.false_eq_true, if_false] at a1
    clear hh
    go_enter Try.func58, Try.ntmps58
    go_wp2_with (first
      | (go_at_call 96; refine (is96 g _ h.made).mono ?_; rintro e w' ⟨rfl, rfl⟩))
    go_ret
    exact ⟨rfl, N0.to⟩
  · rw [hh] at a1
    simp only [if_true] at a1
    cases hm : mayP 0 x
    · have ht : Hd (s.move x = (1, s)) := ⟨by simp [NS.move, hh, hm]⟩
      rw [ht.out]
      clear hh
      go_enter Try.func58, Try.ntmps58
      go_wp2_with (first
        | (go_at_call 96; refine (is96 g _ h.made).mono ?_; rintro e w' ⟨rfl, rfl⟩)
        | (go_at_call 101; refine (may101 0 x w).mono ?_; rw [hm]; rintro e w1 ⟨rfl, hb⟩))
      go_ret
      exact ⟨rfl, (N0.below hb).to⟩
    · have ht : Hd (s.move x = (0, { s with now := (s.now.1, x) })) := ⟨by simp [NS.move, hh, hm]⟩
      rw [ht.out]
      clear hh
      go_enter Try.func58, Try.ntmps58
      go_wp2_with (first
        | (go_at_call 96; refine (is96 g _ h.made).mono ?_; rintro e w' ⟨rfl, rfl⟩)
        | (go_at_call 101; refine (may101 0 x w).mono ?_; rw [hm]; rintro e w1 ⟨rfl, hb⟩; have N1 := N0.below hb; obtain ⟨b0, b1, b2, b3, b4, b5, b6, bf⟩ := nav_cells N1.c.heap))
      go_ret
      exact ⟨rfl, (N1.line x).to⟩
end Go.Proofs.Ytkgdcglnkodgnaa

