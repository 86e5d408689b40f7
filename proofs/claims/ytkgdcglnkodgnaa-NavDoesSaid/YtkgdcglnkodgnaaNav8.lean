/-
  nav: Jump walked. No condition but sizes.
-/
import Derived.Test.YtkgdcglnkodgnaaNav7
namespace Go.Proofs.Ytkgdcglnkodgnaa
open Go.RowKit
set_option maxRecDepth 100000 in
set_option maxHeartbeats 1000000 in
theorem jump57 (g : Nat) (F : Nat → Prop) (s : NS) (i : Int) (w : World) (h : NavAt w g F s) (hl : s.bh.length ≤ 99) :
    Calls Try.prog 57 #[.pointer (some ⟨g, 0, none⟩), .int .i64 i] w fun e w' => e = .returned (.tuple #[plV (s.jump i).1, .int .i64 ((s.jump i).2.1 : Int)]) ∧ NavTo w w' g F (s.jump i).2.2 := by
  have HAT := Hd.mk (at108 g F s i (w.alloc (.cells #[.int .i64 0, .int .i64 0] 58)) (h.below (below_alloc _ _)))
  obtain ⟨A1, n1, c1, A2, n2, c2, A3, n3, c3, h⟩ := h
  have hln := h.o3.len
  have hmix := try_mixed
  have hg := h.glt
  have HB := Hd.mk (below_alloc w (.cells #[.int .i64 0, .int .i64 0] 58))
  have N0 := (NavT.refl h).below HB.out
  by_cases hix : s.ix i = true
  · obtain ⟨hi0, hi1⟩ : 0 ≤ i ∧ i < s.mks.length := by simpa [NS.ix] using hix
    obtain ⟨k, rfl⟩ : ∃ k : Nat, i = (k : Int) := ⟨i.toNat, by omega⟩
    have hk : k < n3 := by omega
    obtain ⟨p, hp⟩ : ∃ p, s.mks[k]? = some p := ⟨s.mks[k]'(by omega), List.getElem?_eq_getElem _⟩
    have ht : Hd (s.jump (k : Int) = (p, s.visit p)) := ⟨by simp [NS.jump, hix, hp]⟩
    have HA : Hd (Calls Try.prog 108 #[.pointer (some ⟨g, 0, none⟩), .int .i64 (k : Int)] (w.alloc (.cells #[.int .i64 0, .int .i64 0] 58)) fun e w' => e = .returned (.int .i64 0) ∧ (w.alloc (.cells #[.int .i64 0, .int .i64 0] 58)) = w') := ⟨by have := HAT.out; rw [hix] at this; exact this⟩
    obtain ⟨G3, off, rfl, p0, p1⟩ := OwnP.get h.o3 hp
    have hG3 : G3 < w.heap.size := cell_lt p0
    obtain ⟨vn, vs, hv⟩ : ∃ vn vs, Hd (s.visit p = (vn, vs)) := ⟨_, _, ⟨rfl⟩⟩
    rw [ht.out, hv.out]
    obtain ⟨px, py⟩ := p
    simp only at p0 p1
    have hki : (k : Int) < (n3 : Int) := by omega
    have hki0 : (0 : Int) ≤ (k : Int) := by omega
    clear HAT hix hi0 hi1 ht hln N0
    obtain ⟨a0, a1, a2, a3, a4, a5, a6, af⟩ := nav_cells h.heap
    go_enter Try.func57, Try.ntmps57
    go_wp2_with fail
    refine HA.out.mono ?_
    rintro e w' ⟨rfl, rfl⟩
    have q0 := (HB.out.cell (p := ⟨G3, off + k * 2, none⟩) hG3).trans p0
    have q1 := (HB.out.cell (p := ⟨G3, off + k * 2 + 1, none⟩) hG3).trans p1
    go_wp2_with fail
    have hres := Hd.mk ((heap_alloc_old (w.alloc (.cells #[.int .i64 0, .int .i64 0] 58)) (.cells #[.int .i64 px, .int .i64 py] 58) (r := w.heap.size) (by simp)).trans (heap_alloc_new w (.cells #[.int .i64 0, .int .i64 0] 58)))
    have hbx := Hd.mk (heap_alloc_new (w.alloc (.cells #[.int .i64 0, .int .i64 0] 58)) (.cells #[.int .i64 px, .int .i64 py] 58))
    have HB1 := Hd.mk (HB.out.trans ((below_alloc (w.alloc (.cells #[.int .i64 0, .int .i64 0] 58)) (.cells #[.int .i64 px, .int .i64 py] 58)).mono HB.out.size))
    have hsz : Hd ((w.alloc (.cells #[.int .i64 0, .int .i64 0] 58)).heap.size = w.heap.size + 1) := ⟨by simp⟩
    have hsz1 : Hd (((w.alloc (.cells #[.int .i64 0, .int .i64 0] 58)).alloc (.cells #[.int .i64 px, .int .i64 py] 58)).heap.size = w.heap.size + 1 + 1) := ⟨by simp⟩
    rw [hsz.out] at hbx
    clear a0 a1 a2 a3 a4 a5 a6 af q0 q1 p0 p1
    generalize (w.alloc (.cells #[.int .i64 0, .int .i64 0] 58)).alloc (.cells #[.int .i64 px, .int .i64 py] 58) = w0 at *
    have C0 := h.below HB1.out
    refine region_zone 6 [false, false, false, false, false, false] (by kernel_rfl) (by kernel_rfl) hmix (fun w' => w'.heap[w.heap.size + 1]? = some (.cells #[.int .i64 px, .int .i64 py] 58 (0, 0))) [] ?_ (fun hS => ?_)
    · exact hbx.out
    refine wpAnyZ_take (i := 0) (oi := ⟨_, _, _, _, _, _⟩) (v := ?_) rfl (by decide +kernel) (fun _ _ _ h => h) (Or.inl ⟨by rfl, ?_⟩) hS ?_
    rotate_left
    focus (intro w hSw; (try dsimp only at hSw); obtain ⟨z0, z1⟩ := box_load hSw; clear hSw; go_simp; (try with_reducible rfl); done)
    simp only [Act.put, List.setIfInBounds_toArray, List.set_cons_zero, List.set_cons_succ]
    refine wpAnyZ_take0 (i := 1) (oi := ⟨_, _, _, _, _, _⟩) (v := ?_) rfl (by decide +kernel) (fun _ _ _ h => h) (Or.inl ⟨by rfl, ?_⟩) (fun _ => hS) ?_
    rotate_left
    focus (intro w _; go_simp; (try with_reducible rfl); done)
    simp only [Act.put, List.setIfInBounds_toArray, List.set_cons_zero, List.set_cons_succ]
    refine wpAnyZ_take (i := 2) (oi := ⟨_, _, _, _, _, _⟩) (v := ?_) rfl (by decide +kernel) (fun _ _ _ h => h) (Or.inl ⟨by rfl, ?_⟩) hS ?_
    rotate_left
    focus (intro w hSw; (try dsimp only at hSw); obtain ⟨z0, z1⟩ := box_load hSw; clear hSw; go_simp; (try with_reducible rfl); done)
    simp only [Act.put, List.setIfInBounds_toArray, List.set_cons_zero, List.set_cons_succ]
    refine wpAnyZ_one (i := 3) rfl (by decide +kernel) (fun K hKK => ?_)
    go_simp
    refine (visit48 g F s (px, py) _ C0.drew.at_ hl).mono ?_
    rw [hv.out]
    rintro e w1 ⟨rfl, T1⟩
    have hnF : ∀ r, w.heap.size ≤ r → ¬ F r := fun r hr e => by have := h.lt r e; omega
    have hbx1 := Hd.mk ((T1.2.block (w.heap.size + 1) (by have := hsz1.out; simp; omega) (hnF _ (by omega))).trans hbx.out)
    have hres1 := Hd.mk ((T1.2.block w.heap.size (by have := hsz1.out; simp; omega) (hnF _ (by omega))).trans hres.out)
    clear hS
    have hS := hbx1.out
    refine hKK.out _ _ (fun _ => hS) ?_
    clear hKK
    obtain ⟨B1, m1, d1, B2, m2, d2, B3, m3, d3, hC⟩ := T1.1
    have N1 : NavT w0 w1 g F vs B1 m1 d1 B2 m2 d2 B3 m3 d3 := NavT.pre (below_drew w0) ⟨hC, T1.2⟩
    have hm1 := Hd.mk (heap_setCell_same w1 w.heap.size 0 _ 58 (.int .i64 px) hres1.out)
    have hm2 := Hd.mk (heap_setCell_same _ w.heap.size 1 _ 58 (.int .i64 py) hm1.out)
    have NF := Hd.mk (NavT.res h.lt HB1.out N1 (Nat.le_refl _) (by have := hsz1.out; omega) (Tch.setCell2 (i := 0) (j := 1) (.int .i64 px) (.int .i64 py)))
    clear T1 hC N1
    simp only [List.setIfInBounds_toArray, List.set_cons_zero, List.set_cons_succ]
    refine wpAnyZ_one (i := 4) rfl (by decide +kernel) (fun K hKK => ?_)
    have hrf := frozen_of_row w1 w.heap.size 0 _ _ hres1.out
    have hrf1 := frozen_of_row w1 w.heap.size 1 _ _ hres1.out
    obtain ⟨hrc, hrc1⟩ := box_load hres1.out
    go_simp
    clear hrf hrf1 hrc hrc1
    clear hS
    have hS := (heap_setCell_other (w1.setCell ⟨w.heap.size, 0, none⟩ (.int .i64 px)) ⟨w.heap.size, 1, none⟩ (w.heap.size + 1) (.int .i64 py) (by simp)).trans ((heap_setCell_other w1 ⟨w.heap.size, 0, none⟩ (w.heap.size + 1) (.int .i64 px) (by simp)).trans hbx1.out)
    refine hKK.out _ _ (fun _ => hS) ?_
    clear hKK
    simp only [List.setIfInBounds_toArray, List.set_cons_zero, List.set_cons_succ]
    refine wpAnyZ_take0 (i := 5) (oi := ⟨_, _, _, _, _, _⟩) (v := ?_) rfl (by decide +kernel) (fun _ _ _ h => h) (Or.inl ⟨by rfl, ?_⟩) (fun _ => hS) ?_
    rotate_left
    focus (intro w _; go_simp; (try with_reducible rfl); done)
    simp only [Act.put, List.setIfInBounds_toArray, List.set_cons_zero, List.set_cons_succ]
    refine wpAnyZ_done (by decide +kernel) ?_
    clear hS hbx1 hres1
    go_wp2
    (try simp only [Exit.inBlock, Exit.then])
    refine bodyPost_ret (v := .tuple #[plV (px, py), .int .i64 (vn : Int)]) ?_ rfl ⟨rfl, NF.out⟩
    rw [results_cell_tmp rfl]
    simp [asAddr, Result.andThen]
    have hm3 := hm2.out
    simp only [List.setIfInBounds_toArray, List.set_cons_zero, List.set_cons_succ] at hm3
    rw [run_loadVar_row _ _ 58 58 #[.int .i64 px, .int .i64 py] (0, 0) _ hm3 Try.underlying58 rfl (by kernel_rfl)]
    rfl
  · have ht : Hd (s.jump i = ((0, 0), 1, s)) := ⟨by simp [NS.jump, hix]⟩
    rw [ht.out]
    have HA : Hd (Calls Try.prog 108 #[.pointer (some ⟨g, 0, none⟩), .int .i64 i] (w.alloc (.cells #[.int .i64 0, .int .i64 0] 58)) fun e w' => e = .returned (.int .i64 1) ∧ (w.alloc (.cells #[.int .i64 0, .int .i64 0] 58)) = w') := ⟨by have := HAT.out; rw [show s.ix i = false by simpa using hix] at this; exact this⟩
    clear HAT hix ht hln
    go_enter Try.func57, Try.ntmps57
    go_wp2_with fail
    refine HA.out.mono ?_
    rintro e w' ⟨rfl, rfl⟩
    go_wp2
    (try simp only [Exit.inBlock, Exit.then])
    refine bodyPost_ret (v := .tuple #[plV (0, 0), .int .i64 1]) ?_ rfl ⟨rfl, N0.to⟩
    rw [results_cell_tmp rfl]
    simp [asAddr, Result.andThen]
    rw [run_loadVar_row _ _ 58 58 #[.int .i64 0, .int .i64 0] (0, 0) _ (heap_alloc_new w _) Try.underlying58 rfl (by kernel_rfl)]
    rfl
end Go.Proofs.Ytkgdcglnkodgnaa

