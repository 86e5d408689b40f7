/-
  nav: Visit walked. No condition but sizes.
-/
import Derived.Test.YtkgdcglnkodgnaaNav1
namespace Go.Proofs.Ytkgdcglnkodgnaa
open Go.RowKit
set_option maxRecDepth 100000 in
set_option maxHeartbeats 1000000 in
theorem visit48_new (g : Nat) (F : Nat → Prop) (s : NS) (p : Pl) (w : World) (h : NavAt w g F s) (hl : s.bh.length ≤ 99) (hm : mayP p.1 p.2 = true) (hh : s.has = true) (hn : s.now ≠ p) :
    Calls Try.prog 48 #[.pointer (some ⟨g, 0, none⟩), plV p] w fun e w' => e = .returned (.int .i64 ((s.visit p).1 : Int)) ∧ NavTo w w' g F (s.visit p).2 := by
  obtain ⟨A1, n1, c1, A2, n2, c2, A3, n3, c3, h⟩ := h
  have ht : Hd (s.visit p = (0, { s.push with ah := [], has := true, now := p })) := ⟨by simp [NS.visit, mayQ, hm, hh, hn, NS.push]⟩
  obtain ⟨sh, ⟨x, y⟩, sb, sa, sm⟩ := s
  obtain ⟨u, v⟩ := p
  simp only at hh hm hl
  subst hh
  have hab : (¬ x = u) ∨ (u = x ∧ ¬ y = v) := by
    by_cases hx : x = u
    · exact .inr ⟨hx.symm, fun hy => hn (by rw [hx, hy])⟩
    · exact .inl hx
  rw [ht.out]
  clear ht hn
  obtain ⟨a0, a1, a2, a3, a4, a5, a6, af⟩ := nav_cells h.heap
  simp only [if_true] at a1
  have hg := h.glt
  have N0 := (NavT.refl h).below (below_alloc w (.cells #[.int .i64 u, .int .i64 v] 58))
  have hmix := try_mixed
  have hbox := Hd.mk (heap_alloc_new w (.cells #[.int .i64 u, .int .i64 v] 58))
  unfold plV
  have hsh : Hd (sb.length ≤ 99) := ⟨hl⟩
  rcases hab with hx | ⟨rfl, hy⟩
  all_goals
    go_enter Try.func48, Try.ntmps48
    go_wp2_with (first
      | (go_at_call 96; refine (is96 g _ (h.alloc _).made).mono ?_; rintro e w' ⟨rfl, rfl⟩)
      | (go_at_call 101; refine (may101 _ _ _).mono ?_; rw [hm]; rintro e w1 ⟨rfl, hb⟩; have N1 := N0.below hb; obtain ⟨b0, b1, b2, b3, b4, b5, b6, bf⟩ := nav_cells N1.c.heap; simp only [if_true] at b1; have z0 := cell_of_row _ _ 0 _ _ _ ((hb.block w.heap.size (by simp)).trans hbox.out); have z1 := cell_of_row _ _ 1 _ _ _ ((hb.block w.heap.size (by simp)).trans hbox.out); simp only [List.getElem?_toArray, List.getElem?_cons_zero, List.getElem?_cons_succ] at z0 z1))
    go_quiet (fail)
    have hbox1 := Hd.mk ((hb.block w.heap.size (by simp)).trans hbox.out)
    have hB := below_drewN ((below_alloc w _).trans (hb.mono (by simp))) nq
    have C1 := h.below hB
    have hlt1 : w.heap.size < (w1.drewN nq).heap.size := by have := hb.size; simp at this ⊢; omega
    clear z0 z1 N1 N0
    go_wp2_with (first
      | (go_at_call 100; refine (push100 g F _ _ C1.at_ (by simp only; omega)).mono ?_; rintro e w2 ⟨rfl, hN2⟩; obtain ⟨B1, m1, d1, B2, m2, d2, B3, m3, d3, hC⟩ := hN2.1; have N2 : NavT _ _ _ _ _ _ _ _ _ _ _ _ _ _ := NavT.pre hB (NavT.mk hC hN2.2); have hbox2 := Hd.mk ((hN2.2.block w.heap.size hlt1 (fun e => by have := h.lt _ e; omega)).trans hbox1.out); obtain ⟨c0, c1', c2', c3', c4, c5, c6, cf⟩ := nav_cells hC.heap))
    have N3 := N2.st2 (W := w2) (w2 := w2) (Below.refl _ _) Slot.nil_
    have hbox3 := Hd.mk ((heap_setCell_other w2 ⟨g, 5, none⟩ w.heap.size (.slice none 0 0) (by simp; omega)).trans hbox2.out)
    clear c0 c1' c2' c3' c4 c5 c6 cf hbox1 hbox2 hbox C1 hN2 hC N2 a0 a1 a2 a3 a4 a5 a6 af b0 b1 b2 b3 b4 b5 b6 bf
    generalize w2.setCell ⟨g, 5, none⟩ (.slice none 0 0) = w4 at N3 hbox3 ⊢
    have N5 := Hd.mk ((N3.has true).now (u, v))
    have hh2 := Hd.mk N3.c.heap
    have hh3 := Hd.mk (heap_setCell_same w4 g 1 _ 78 (.int .i64 1) N3.c.heap)
    clear N3
    have hbox4 := hbox3.out
    refine region_zone 9 [false, false, false, false, false, false, false, false, false] (by kernel_rfl) (by kernel_rfl) hmix (fun w' => w'.heap[w.heap.size]? = some (.cells #[.int .i64 u, .int .i64 v] 58 (0, 0))) [8] ?_ (fun hS => ?_)
    · exact hbox4
    refine wpAnyZ_take0 (i := 0) (oi := ⟨_, _, _, _, _, _⟩) (v := ?_) rfl (by decide +kernel) (fun _ _ _ h => h) (Or.inl ⟨by rfl, ?_⟩) (fun _ => hS) ?_
    rotate_left
    focus (intro w _; go_simp; try with_reducible rfl)
    simp only [Act.put, List.setIfInBounds_toArray, List.set_cons_zero, List.set_cons_succ]
    refine wpAnyZ_take0 (i := 1) (oi := ⟨_, _, _, _, _, _⟩) (v := ?_) rfl (by decide +kernel) (fun _ _ _ h => h) (Or.inl ⟨by rfl, ?_⟩) (fun _ => hS) ?_
    rotate_left
    focus (intro w _; go_simp; try with_reducible rfl)
    simp only [Act.put, List.setIfInBounds_toArray, List.set_cons_zero, List.set_cons_succ]
    refine wpAnyZ_take (i := 2) (oi := ⟨_, _, _, _, _, _⟩) (v := ?_) rfl (by decide +kernel) (fun _ _ _ h => h) (Or.inl ⟨by rfl, ?_⟩) hS ?_
    rotate_left
    focus (intro w hSw; (try dsimp only at hSw); have z0 := cell_of_row _ _ 0 _ _ _ hSw; have z1 := cell_of_row _ _ 1 _ _ _ hSw; simp only [List.getElem?_toArray, List.getElem?_cons_zero, List.getElem?_cons_succ] at z0 z1; clear hSw; go_simp; try with_reducible rfl)
    simp only [Act.put, List.setIfInBounds_toArray, List.set_cons_zero, List.set_cons_succ]
    refine wpAnyZ_take0 (i := 3) (oi := ⟨_, _, _, _, _, _⟩) (v := ?_) rfl (by decide +kernel) (fun _ _ _ h => h) (Or.inl ⟨by rfl, ?_⟩) (fun _ => hS) ?_
    rotate_left
    focus (intro w _; go_simp; try with_reducible rfl)
    simp only [Act.put, List.setIfInBounds_toArray, List.set_cons_zero, List.set_cons_succ]
    refine wpAnyZ_take0 (i := 4) (oi := ⟨_, _, _, _, _, _⟩) (v := ?_) rfl (by decide +kernel) (fun _ _ _ h => h) (Or.inl ⟨by rfl, ?_⟩) (fun _ => hS) ?_
    rotate_left
    focus (intro w _; go_simp; try with_reducible rfl)
    simp only [Act.put, List.setIfInBounds_toArray, List.set_cons_zero, List.set_cons_succ]
    refine wpAnyZ_one (i := 5) rfl (by decide +kernel) (fun K hKK => ?_)
    obtain ⟨b0, b1, b2, b3, b4, b5, b6, bf⟩ := nav_cells hh2.out
    go_simp
    clear b0 b1 b2 b3 b4 b5 b6 bf
    clear hS
    have hS := (heap_setCell_other w4 ⟨g, 1, none⟩ w.heap.size (.int .i64 1) (by simp; omega)).trans hbox3.out
    refine hKK.out _ _ (fun _ => hS) ?_
    clear hKK
    refine wpAnyZ_take0 (i := 6) (oi := ⟨_, _, _, _, _, _⟩) (v := ?_) rfl (by decide +kernel) (fun _ _ _ h => h) (Or.inl ⟨by rfl, ?_⟩) (fun _ => hS) ?_
    rotate_left
    focus (intro w _; go_simp; try with_reducible rfl)
    simp only [Act.put, List.setIfInBounds_toArray, List.set_cons_zero, List.set_cons_succ]
    refine wpAnyZ_take0 (i := 7) (oi := ⟨_, _, _, _, _, _⟩) (v := ?_) rfl (by decide +kernel) (fun _ _ _ h => h) (Or.inl ⟨by rfl, ?_⟩) (fun _ => hS) ?_
    rotate_left
    focus (intro w _; go_simp; try with_reducible rfl)
    simp only [Act.put, List.setIfInBounds_toArray, List.set_cons_zero, List.set_cons_succ]
    refine wpAnyZ_one (i := 8) rfl (by decide +kernel) (fun K hKK => ?_)
    have hhh := hh3.out
    simp only [List.setIfInBounds_toArray, List.set_cons_zero, List.set_cons_succ] at hhh
    obtain ⟨b0, b1, b2, b3, b4, b5, b6, bf⟩ := nav_cells hhh
    go_simp
    refine hKK.out _ _ (fun hz => absurd hz (by decide +kernel)) ?_
    clear hKK
    refine wpAnyZ_done (by decide +kernel) ?_
    clear b0 b1 b2 b3 b4 b5 b6 bf hhh hh3 hh2 hbox3 hbox4 hS
    go_wp2
    go_ret
    exact ⟨rfl, (N5.out.below (below_drew _)).to⟩
set_option maxRecDepth 100000 in
set_option maxHeartbeats 1000000 in
theorem visit48 (g : Nat) (F : Nat → Prop) (s : NS) (p : Pl) (w : World) (h : NavAt w g F s) (hl : s.bh.length ≤ 99) :
    Calls Try.prog 48 #[.pointer (some ⟨g, 0, none⟩), plV p] w fun e w' => e = .returned (.int .i64 ((s.visit p).1 : Int)) ∧ NavTo w w' g F (s.visit p).2 := by
  obtain ⟨A1, n1, c1, A2, n2, c2, A3, n3, c3, h⟩ := h
  obtain ⟨a0, a1, a2, a3, a4, a5, a6, af⟩ := nav_cells h.heap
  have hg := h.glt
  have N0 := (NavT.refl h).below (below_alloc w (.cells #[.int .i64 p.1, .int .i64 p.2] 58))
  have hmix := try_mixed
  unfold plV
  cases hm : mayP p.1 p.2
  · have ht : Hd (s.visit p = (1, s)) := ⟨by simp [NS.visit, mayQ, hm]⟩
    rw [ht.out]
    go_enter Try.func48, Try.ntmps48
    go_wp2_with (first
      | (go_at_call 96; refine (is96 g _ (h.alloc _).made).mono ?_; rintro e w' ⟨rfl, rfl⟩)
      | (go_at_call 101; refine (may101 p.1 p.2 _).mono ?_; rw [hm]; rintro e w1 ⟨rfl, hb⟩))
    go_ret
    exact ⟨rfl, (N0.below hb).to⟩
  · cases hh : s.has
    · have ht : Hd (s.visit p = (0, { s with ah := [], has := true, now := p })) := ⟨by simp [NS.visit, mayQ, hm, hh]⟩
      rw [ht.out]
      rw [hh] at a1
      simp only [Bool.false_eq_true, if_false] at a1
      have HH := Hd.mk hh
      have hd : ((0 : Int) == 1) = false := rfl
      have hbox := Hd.mk (heap_alloc_new w (.cells #[.int .i64 p.1, .int .i64 p.2] 58))
      clear hh
      go_enter Try.func48, Try.ntmps48
      go_wp2_with (first
        | (go_at_call 96; refine (is96 g _ (h.alloc _).made).mono ?_; rintro e w' ⟨rfl, rfl⟩)
        | (go_at_call 101; refine (may101 p.1 p.2 _).mono ?_; rw [hm]; rintro e w1 ⟨rfl, hb⟩; have N1 := N0.below hb; obtain ⟨b0, b1, b2, b3, b4, b5, b6, bf⟩ := nav_cells N1.c.heap; rw [HH.out] at b1; simp only [Bool.false_eq_true, if_false] at b1))
      go_quiet (fail)
      have hbox1 := Hd.mk ((hb.block w.heap.size (by simp)).trans hbox.out)
      have N2 := N1.st2 (w2 := w1.drewN nq) (W := w1.drewN nq) (below_drewN (Below.refl _ _) _) Slot.nil_
      go_wp2_with fail
      have hbox2 := Hd.mk ((heap_setCell_other (w1.drewN nq) ⟨g, 5, none⟩ w.heap.size (.slice none 0 0) (by simp; omega)).trans hbox1.out)
      clear hbox1 hbox b0 b1 b2 b3 b4 b5 b6 bf N1
      generalize (w1.drewN nq).setCell ⟨g, 5, none⟩ (.slice none 0 0) = w2 at N2 hbox2 ⊢
      have N3 := Hd.mk ((N2.has true).now p)
      have hh2 := Hd.mk N2.c.heap
      have hh3 := Hd.mk (heap_setCell_same w2 g 1 _ 78 (.int .i64 1) N2.c.heap)
      clear N2
      refine region_zone 9 [false, false, false, false, false, false, false, false, false] (by kernel_rfl) (by kernel_rfl) hmix (fun w' => w'.heap[w.heap.size]? = some (.cells #[.int .i64 p.1, .int .i64 p.2] 58 (0, 0))) [8] ?_ (fun hS => ?_)
      · exact hbox2.out
      refine wpAnyZ_take0 (i := 0) (oi := ⟨_, _, _, _, _, _⟩) (v := ?_) rfl (by decide +kernel) (fun _ _ _ h => h) (Or.inl ⟨by rfl, ?_⟩) (fun _ => hS) ?_
      rotate_left
      focus (intro w _; go_simp; try with_reducible rfl)
      simp only [Act.put, List.setIfInBounds_toArray, List.set_cons_zero, List.set_cons_succ]
      refine wpAnyZ_take0 (i := 1) (oi := ⟨_, _, _, _, _, _⟩) (v := ?_) rfl (by decide +kernel) (fun _ _ _ h => h) (Or.inl ⟨by rfl, ?_⟩) (fun _ => hS) ?_
      rotate_left
      focus (intro w _; go_simp; try with_reducible rfl)
      simp only [Act.put, List.setIfInBounds_toArray, List.set_cons_zero, List.set_cons_succ]
      refine wpAnyZ_take (i := 2) (oi := ⟨_, _, _, _, _, _⟩) (v := ?_) rfl (by decide +kernel) (fun _ _ _ h => h) (Or.inl ⟨by rfl, ?_⟩) hS ?_
      rotate_left
      focus (intro w hSw; (try dsimp only at hSw); have z0 := cell_of_row _ _ 0 _ _ _ hSw; have z1 := cell_of_row _ _ 1 _ _ _ hSw; simp only [List.getElem?_toArray, List.getElem?_cons_zero, List.getElem?_cons_succ] at z0 z1; clear hSw; go_simp; try with_reducible rfl)
      simp only [Act.put, List.setIfInBounds_toArray, List.set_cons_zero, List.set_cons_succ]
      refine wpAnyZ_take0 (i := 3) (oi := ⟨_, _, _, _, _, _⟩) (v := ?_) rfl (by decide +kernel) (fun _ _ _ h => h) (Or.inl ⟨by rfl, ?_⟩) (fun _ => hS) ?_
      rotate_left
      focus (intro w _; go_simp; try with_reducible rfl)
      simp only [Act.put, List.setIfInBounds_toArray, List.set_cons_zero, List.set_cons_succ]
      refine wpAnyZ_take0 (i := 4) (oi := ⟨_, _, _, _, _, _⟩) (v := ?_) rfl (by decide +kernel) (fun _ _ _ h => h) (Or.inl ⟨by rfl, ?_⟩) (fun _ => hS) ?_
      rotate_left
      focus (intro w _; go_simp; try with_reducible rfl)
      simp only [Act.put, List.setIfInBounds_toArray, List.set_cons_zero, List.set_cons_succ]
      refine wpAnyZ_one (i := 5) rfl (by decide +kernel) (fun K hKK => ?_)
      obtain ⟨b0, b1, b2, b3, b4, b5, b6, bf⟩ := nav_cells hh2.out
      go_simp
      clear b0 b1 b2 b3 b4 b5 b6 bf
      clear hS
      have hS := (heap_setCell_other w2 ⟨g, 1, none⟩ w.heap.size (.int .i64 1) (by simp; omega)).trans hbox2.out
      refine hKK.out _ _ (fun _ => hS) ?_
      clear hKK
      refine wpAnyZ_take0 (i := 6) (oi := ⟨_, _, _, _, _, _⟩) (v := ?_) rfl (by decide +kernel) (fun _ _ _ h => h) (Or.inl ⟨by rfl, ?_⟩) (fun _ => hS) ?_
      rotate_left
      focus (intro w _; go_simp; try with_reducible rfl)
      simp only [Act.put, List.setIfInBounds_toArray, List.set_cons_zero, List.set_cons_succ]
      refine wpAnyZ_take0 (i := 7) (oi := ⟨_, _, _, _, _, _⟩) (v := ?_) rfl (by decide +kernel) (fun _ _ _ h => h) (Or.inl ⟨by rfl, ?_⟩) (fun _ => hS) ?_
      rotate_left
      focus (intro w _; go_simp; try with_reducible rfl)
      simp only [Act.put, List.setIfInBounds_toArray, List.set_cons_zero, List.set_cons_succ]
      refine wpAnyZ_one (i := 8) rfl (by decide +kernel) (fun K hKK => ?_)
      have hhh := hh3.out
      simp only [List.setIfInBounds_toArray, List.set_cons_zero, List.set_cons_succ] at hhh
      obtain ⟨b0, b1, b2, b3, b4, b5, b6, bf⟩ := nav_cells hhh
      go_simp
      refine hKK.out _ _ (fun hz => absurd hz (by decide +kernel)) ?_
      clear hKK
      refine wpAnyZ_done (by decide +kernel) ?_
      clear b0 b1 b2 b3 b4 b5 b6 bf hhh hh3 hh2 hbox2 hS
      go_wp2
      go_ret
      exact ⟨rfl, (N3.out.below (below_drew _)).to⟩
    · by_cases hn : s.now = p
      · subst hn
        have ht : Hd (s.visit s.now = (0, s)) := ⟨by simp [NS.visit, mayQ, hm, hh]⟩
        rw [ht.out]
        have HH := Hd.mk hh
        have hbox := Hd.mk (heap_alloc_new w (.cells #[.int .i64 s.now.1, .int .i64 s.now.2] 58))
        clear hh
        go_enter Try.func48, Try.ntmps48
        go_wp2_with (first
          | (go_at_call 96; refine (is96 g _ (h.alloc _).made).mono ?_; rintro e w' ⟨rfl, rfl⟩)
          | (go_at_call 101; refine (may101 s.now.1 s.now.2 _).mono ?_; rw [hm]; rintro e w1 ⟨rfl, hb⟩; have N1 := N0.below hb; obtain ⟨b0, b1, b2, b3, b4, b5, b6, bf⟩ := nav_cells N1.c.heap; rw [HH.out] at b1; simp only [if_true] at b1; have z0 := cell_of_row _ _ 0 _ _ _ ((hb.block w.heap.size (by simp)).trans hbox.out); have z1 := cell_of_row _ _ 1 _ _ _ ((hb.block w.heap.size (by simp)).trans hbox.out); simp only [List.getElem?_toArray, List.getElem?_cons_zero, List.getElem?_cons_succ] at z0 z1))
        go_quiet (fail)
        go_wp2
        go_ret
        exact ⟨rfl, (N1.below (below_drewN (Below.refl _ _) _)).to⟩
      · exact visit48_new g F s p w h.at_ hl hm hh hn
end Go.Proofs.Ytkgdcglnkodgnaa

