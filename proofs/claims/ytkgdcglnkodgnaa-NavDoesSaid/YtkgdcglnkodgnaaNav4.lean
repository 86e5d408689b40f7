/-
  nav: Forward walked. No condition but sizes.
-/
import Derived.Test.YtkgdcglnkodgnaaNav3
namespace Go.Proofs.Ytkgdcglnkodgnaa
open Go.RowKit
set_option maxRecDepth 100000 in
set_option maxHeartbeats 1000000 in
theorem forward46 (g : Nat) (F : Nat → Prop) (s : NS) (w : World) (h : NavAt w g F s) (hl : s.bh.length ≤ 99) (hl2 : s.ah.length ≤ 99) :
    Calls Try.prog 46 #[.pointer (some ⟨g, 0, none⟩)] w fun e w' => e = .returned (.tuple #[plV s.forward.1, .int .i64 (s.forward.2.1 : Int)]) ∧ NavTo w w' g F s.forward.2.2 := by
  obtain ⟨A1, n1, c1, A2, n2, c2, A3, n3, c3, h⟩ := h
  obtain ⟨a0, a1, a2, a3, a4, a5, a6, af⟩ := nav_cells h.heap
  have hg := h.glt
  have hln := h.o2.len
  have hmix := try_mixed
  cases hb : s.ah with
  | nil =>
    have ht : Hd (s.forward = ((0, 0), 3, s)) := ⟨by simp [NS.forward, hb]⟩
    obtain rfl : n2 = 0 := by rw [hb] at hln; simpa using hln.symm
    have N0 := (NavT.refl h).below (below_alloc w (.cells #[.int .i64 0, .int .i64 0] 58))
    rw [ht.out]
    clear hln hb
    go_enter Try.func46, Try.ntmps46
    go_wp2_with (first
      | (go_at_call 96; refine (is96 g _ (h.alloc _).made).mono ?_; rintro e w' ⟨rfl, rfl⟩))
    (try simp only [Exit.inBlock, Exit.then])
    refine bodyPost_ret (v := .tuple #[plV (0, 0), .int .i64 3]) ?_ rfl ⟨rfl, N0.to⟩
    rw [results_cell_tmp rfl]
    simp [asAddr, Result.andThen]
    rw [run_loadVar_row _ _ 58 58 #[.int .i64 0, .int .i64 0] (0, 0) _ (heap_alloc_new w _) Try.underlying58 rfl (by kernel_rfl)]
    rfl
  | cons p r =>
    have hn2 : n2 = r.length + 1 := by rw [hb] at hln; simpa using hln.symm
    have hr98 : r.length ≤ 98 := by rw [hb] at hl2; simp at hl2; omega
    have ht : Hd (s.forward = (p, 0, { s.push with now := p, ah := r })) := ⟨by simp [NS.forward, hb, NS.push]⟩
    have HB := Hd.mk (below_alloc w (.cells #[.int .i64 0, .int .i64 0] 58))
    have C0 := h.below HB.out
    rw [ht.out]
    obtain rfl := hn2
    have hbb := Hd.mk hb
    clear hln hb hl2
    go_enter Try.func46, Try.ntmps46
    go_wp2_with (first
      | (go_at_call 96; refine (is96 g _ (h.alloc _).made).mono ?_; rintro e w' ⟨rfl, rfl⟩)
      | (go_at_call 100; refine (push100 g F s _ C0.at_ (by omega)).mono ?_; rintro e w1 ⟨rfl, hN1⟩))
    have hres0 := Hd.mk (heap_alloc_new w (.cells #[.int .i64 0, .int .i64 0] 58))
    have hsz0 : Hd ((w.alloc (.cells #[.int .i64 0, .int .i64 0] 58)).heap.size = w.heap.size + 1) := ⟨by simp⟩
    clear a0 a1 a2 a3 a4 a5 a6 af
    generalize w.alloc (.cells #[.int .i64 0, .int .i64 0] 58) = w0 at *
    have hres1 := Hd.mk ((hN1.2.block w.heap.size (by have := hsz0.out; omega) (fun e => by have := h.lt _ e; omega)).trans hres0.out)
    obtain ⟨B1, m1, d1, B2, m2, d2, B3, m3, d3, hC⟩ := hN1.1
    have N1 : NavT w0 w1 g F s.push B1 m1 d1 B2 m2 d2 B3 m3 d3 := ⟨hC, hN1.2⟩
    clear hN1 hC hres0
    have hah : Hd (s.push.ah = p :: r) := ⟨hbb.out⟩
    have hget : s.push.ah[0]? = some p := by rw [hah.out]; rfl
    obtain ⟨G2, off, rfl, _, _⟩ := OwnP.get N1.c.o2 hget
    have hm2 : m2 = r.length + 1 := by rw [← N1.c.o2.len, hah.out]; rfl
    obtain rfl := hm2
    have hle := (Own.le N1.c.o2).1
    have hc1 := OwnP.cellAt N1.c.o2 hget
    simp only [Nat.zero_mul, Nat.add_zero] at hc1
    obtain ⟨D, hD⟩ : ∃ D, (if d2 = 1 then some (⟨G2, off, none⟩ : Addr) else some ⟨G2, off + 2, none⟩) = D := ⟨_, rfl⟩
    have hrk : Hd (RdP w1 D r.length r) := ⟨by
      have := RdP.cut (Own.rd N1.c.o2) (a := 1) (b := r.length + 1) (m := d2) (by omega) (Nat.le_refl _) hle
      rw [hah.out] at this
      simp only [List.drop_succ_cons, List.drop_zero, Nat.add_sub_cancel, List.take_length] at this
      rw [← hD]
      exact this⟩
    have hlt2 := Hd.mk (cell_lt hc1.1)
    have hhh := N1.c.heap
    generalize hu : s.push = u at *
    have HU := Hd.mk hu
    clear hu hget hl
    have hle1 : (1 : Int) ≤ (r.length : Int) + 1 := by omega
    have hi0 : (0 : Int) < (r.length : Int) + 1 := by omega
    have hw1 : IntKind.i64.wrap 1 = 1 := by rw [IntKind.wrap_i64]; omega
    go_wp2_with fail
    refine region_zone 20 [false, false, false, false, false, false, false, false, false, false, false, false, false, false, false, false, false, false, false, false] (by kernel_rfl) (by kernel_rfl) hmix (fun w' => w'.heap[g]? = some (.cells #[.int .i64 1, .int .i64 (if u.has then 1 else 0), .int .i64 u.now.1, .int .i64 u.now.2, .slice B1 m1 d1, .slice (some ⟨G2, off, none⟩) (r.length + 1) d2, .slice B3 m3 d3] 78 (0, 0)) ∧ w'.cell? ⟨G2, off, none⟩ = some (.int .i64 p.1) ∧ w'.cell? ⟨G2, off + 1, none⟩ = some (.int .i64 p.2)) [16, 19] ?_ (fun hS => ?_)
    · exact ⟨hhh, hc1⟩
    refine wpAnyZ_take0 (i := 0) (oi := ⟨_, _, _, _, _, _⟩) (v := ?_) rfl (by decide +kernel) (fun _ _ _ h => h) (Or.inl ⟨by rfl, ?_⟩) (fun _ => hS) ?_
    rotate_left
    focus (intro w _; go_simp; (try with_reducible rfl); done)
    simp only [Act.put, List.setIfInBounds_toArray, List.set_cons_zero, List.set_cons_succ]
    refine wpAnyZ_take0 (i := 1) (oi := ⟨_, _, _, _, _, _⟩) (v := ?_) rfl (by decide +kernel) (fun _ _ _ h => h) (Or.inl ⟨by rfl, ?_⟩) (fun _ => hS) ?_
    rotate_left
    focus (intro w _; go_simp; (try with_reducible rfl); done)
    simp only [Act.put, List.setIfInBounds_toArray, List.set_cons_zero, List.set_cons_succ]
    refine wpAnyZ_take0 (i := 2) (oi := ⟨_, _, _, _, _, _⟩) (v := ?_) rfl (by decide +kernel) (fun _ _ _ h => h) (Or.inl ⟨by rfl, ?_⟩) (fun _ => hS) ?_
    rotate_left
    focus (intro w _; go_simp; (try with_reducible rfl); done)
    simp only [Act.put, List.setIfInBounds_toArray, List.set_cons_zero, List.set_cons_succ]
    refine wpAnyZ_take0 (i := 3) (oi := ⟨_, _, _, _, _, _⟩) (v := ?_) rfl (by decide +kernel) (fun _ _ _ h => h) (Or.inl ⟨by rfl, ?_⟩) (fun _ => hS) ?_
    rotate_left
    focus (intro w _; go_simp; (try with_reducible rfl); done)
    simp only [Act.put, List.setIfInBounds_toArray, List.set_cons_zero, List.set_cons_succ]
    refine wpAnyZ_take0 (i := 4) (oi := ⟨_, _, _, _, _, _⟩) (v := ?_) rfl (by decide +kernel) (fun _ _ _ h => h) (Or.inl ⟨by rfl, ?_⟩) (fun _ => hS) ?_
    rotate_left
    focus (intro w _; go_simp; (try with_reducible rfl); done)
    simp only [Act.put, List.setIfInBounds_toArray, List.set_cons_zero, List.set_cons_succ]
    refine wpAnyZ_take (i := 5) (oi := ⟨_, _, _, _, _, _⟩) (v := ?_) rfl (by decide +kernel) (fun _ _ _ h => h) (Or.inl ⟨by rfl, ?_⟩) hS ?_
    rotate_left
    focus (intro w hSw; (try dsimp only at hSw); obtain ⟨hSw, y0, y1⟩ := hSw; obtain ⟨z0, z1, z2, z3, z4, z5, z6, zf⟩ := nav_cells hSw; clear hSw; go_simp; (try with_reducible rfl); done)
    simp only [Act.put, List.setIfInBounds_toArray, List.set_cons_zero, List.set_cons_succ]
    refine wpAnyZ_take0 (i := 6) (oi := ⟨_, _, _, _, _, _⟩) (v := ?_) rfl (by decide +kernel) (fun _ _ _ h => h) (Or.inl ⟨by rfl, ?_⟩) (fun _ => hS) ?_
    rotate_left
    focus (intro w _; go_simp; (try with_reducible rfl); done)
    simp only [Act.put, List.setIfInBounds_toArray, List.set_cons_zero, List.set_cons_succ]
    refine wpAnyZ_take (i := 7) (oi := ⟨_, _, _, _, _, _⟩) (v := ?_) rfl (by decide +kernel) (fun _ _ _ h => h) (Or.inl ⟨by rfl, ?_⟩) hS ?_
    rotate_left
    focus (intro w hSw; (try dsimp only at hSw); obtain ⟨hSw, y0, y1⟩ := hSw; obtain ⟨z0, z1, z2, z3, z4, z5, z6, zf⟩ := nav_cells hSw; clear hSw; go_simp; (try with_reducible rfl); done)
    simp only [Act.put, List.setIfInBounds_toArray, List.set_cons_zero, List.set_cons_succ]
    refine wpAnyZ_take0 (i := 8) (oi := ⟨_, _, _, _, _, _⟩) (v := ?_) rfl (by decide +kernel) (fun _ _ _ h => h) (Or.inl ⟨by rfl, ?_⟩) (fun _ => hS) ?_
    rotate_left
    focus (intro w _; go_simp; (try with_reducible rfl); done)
    simp only [Act.put, List.setIfInBounds_toArray, List.set_cons_zero, List.set_cons_succ]
    refine wpAnyZ_take0 (i := 9) (oi := ⟨_, _, _, _, _, _⟩) (v := ?_) rfl (by decide +kernel) (fun _ _ _ h => h) (Or.inl ⟨by rfl, ?_⟩) (fun _ => hS) ?_
    rotate_left
    focus (intro w _; go_simp; (try with_reducible rfl); done)
    simp only [Act.put, List.setIfInBounds_toArray, List.set_cons_zero, List.set_cons_succ]
    refine wpAnyZ_take0 (i := 10) (oi := ⟨_, _, _, _, _, _⟩) (v := ?_) rfl (by decide +kernel) (fun _ _ _ h => h) (Or.inl ⟨by rfl, ?_⟩) (fun _ => hS) ?_
    rotate_left
    focus (intro w _; go_simp; (try with_reducible rfl); done)
    simp only [Act.put, List.setIfInBounds_toArray, List.set_cons_zero, List.set_cons_succ]
    refine wpAnyZ_take (i := 11) (oi := ⟨_, _, _, _, _, _⟩) (v := ?_) rfl (by decide +kernel) (fun _ _ _ h => h) (Or.inl ⟨by rfl, ?_⟩) hS ?_
    rotate_left
    focus (intro w hSw; (try dsimp only at hSw); obtain ⟨hSw, y0, y1⟩ := hSw; obtain ⟨z0, z1, z2, z3, z4, z5, z6, zf⟩ := nav_cells hSw; clear hSw; go_simp; (try with_reducible rfl); done)
    simp only [Act.put, List.setIfInBounds_toArray, List.set_cons_zero, List.set_cons_succ]
    refine wpAnyZ_take0 (i := 12) (oi := ⟨_, _, _, _, _, _⟩) (v := ?_) rfl (by decide +kernel) (fun _ _ _ h => h) (Or.inl ⟨by rfl, ?_⟩) (fun _ => hS) ?_
    rotate_left
    focus (intro w _; go_simp; (try with_reducible rfl); done)
    simp only [Act.put, List.setIfInBounds_toArray, List.set_cons_zero, List.set_cons_succ]
    have hz : Hd (D = none → r.length = 0) := ⟨fun e => by rw [← hD] at e; split at e <;> cases e⟩
    refine wpAnyZ_one (i := 13) rfl (by decide +kernel) (fun K hKK => ?_)
    go_simp
    refine (clone99 D r.length _ r _ hrk.out.drew (by omega) hz.out).mono ?_
    rintro e w3 ⟨B, cb, rfl, ho, hb3⟩
    have hg2 := N1.c.glt
    have hcc := Hd.mk (And.intro ((hb3.cell (p := ⟨G2, off, none⟩) hlt2.out).trans hc1.1) ((hb3.cell (p := ⟨G2, off + 1, none⟩) hlt2.out).trans hc1.2))
    have hh3 := Hd.mk ((hb3.block g hg2).trans hhh)
    clear hS
    have hS := And.intro hh3.out hcc.out
    refine hKK.out _ _ (fun _ => hS) ?_
    clear hKK
    have N2 := (N1.st2 (below_drew w1) (Slot.fresh ho hb3)).now p
    have hres3 := Hd.mk ((hb3.block w.heap.size (Array.getElem?_eq_some_iff.1 hres1.out).1).trans hres1.out)
    rw [setCell_comm w3 g 5 2 _ _ (by decide), setCell_comm _ g 5 3 _ _ (by decide)] at N2
    have N3 := Hd.mk N2
    have hs2 := Hd.mk (heap_setCell_same w3 g 2 _ 78 (.int .i64 p.1) hh3.out)
    have hs3 := Hd.mk (heap_setCell_same _ g 3 _ 78 (.int .i64 p.2) hs2.out)
    have hs4 := Hd.mk (heap_setCell_same _ g 5 _ 78 (.slice B r.length cb) hs3.out)
    have hr4 := Hd.mk (((heap_setCell_other ((w3.setCell ⟨g, 2, none⟩ (.int .i64 p.1)).setCell ⟨g, 3, none⟩ (.int .i64 p.2)) ⟨g, 5, none⟩ w.heap.size (.slice B r.length cb) (by simp; omega)).trans ((heap_setCell_other (w3.setCell ⟨g, 2, none⟩ (.int .i64 p.1)) ⟨g, 3, none⟩ w.heap.size (.int .i64 p.2) (by simp; omega)).trans (heap_setCell_other w3 ⟨g, 2, none⟩ w.heap.size (.int .i64 p.1) (by simp; omega)))).trans hres3.out)
    clear N2 hb3 ho hcc
    simp only [List.setIfInBounds_toArray, List.set_cons_zero, List.set_cons_succ]
    refine wpAnyZ_take0 (i := 14) (oi := ⟨_, _, _, _, _, _⟩) (v := ?_) rfl (by decide +kernel) (fun _ _ _ h => h) (Or.inl ⟨by rfl, ?_⟩) (fun _ => hS) ?_
    rotate_left
    focus (intro w _; go_simp; (try with_reducible rfl); done)
    simp only [Act.put, List.setIfInBounds_toArray, List.set_cons_zero, List.set_cons_succ]
    refine wpAnyZ_take0 (i := 15) (oi := ⟨_, _, _, _, _, _⟩) (v := ?_) rfl (by decide +kernel) (fun _ _ _ h => h) (Or.inl ⟨by rfl, ?_⟩) (fun _ => hS) ?_
    rotate_left
    focus (intro w _; go_simp; (try with_reducible rfl); done)
    simp only [Act.put, List.setIfInBounds_toArray, List.set_cons_zero, List.set_cons_succ]
    refine wpAnyZ_one (i := 16) rfl (by decide +kernel) (fun K hKK => ?_)
    obtain ⟨b0, b1, b2, b3, b4, b5, b6, bf⟩ := nav_cells hh3.out
    go_simp
    clear b0 b1 b2 b3 b4 b5 b6 bf
    refine hKK.out _ _ (fun hz => absurd hz (by decide +kernel)) ?_
    clear hKK
    refine wpAnyZ_take0 (i := 17) (oi := ⟨_, _, _, _, _, _⟩) (v := ?_) rfl (by decide +kernel) (fun _ _ _ h => h) (Or.inl ⟨by rfl, ?_⟩) (fun hz => absurd hz (by decide +kernel)) ?_
    rotate_left
    focus (intro w _; go_simp; (try with_reducible rfl); done)
    simp only [Act.put, List.setIfInBounds_toArray, List.set_cons_zero, List.set_cons_succ]
    refine wpAnyZ_take0 (i := 18) (oi := ⟨_, _, _, _, _, _⟩) (v := ?_) rfl (by decide +kernel) (fun _ _ _ h => h) (Or.inl ⟨by rfl, ?_⟩) (fun hz => absurd hz (by decide +kernel)) ?_
    rotate_left
    focus (intro w _; go_simp; (try with_reducible rfl); done)
    simp only [Act.put, List.setIfInBounds_toArray, List.set_cons_zero, List.set_cons_succ]
    refine wpAnyZ_one (i := 19) rfl (by decide +kernel) (fun K hKK => ?_)
    have hq := hs3.out
    simp only [List.setIfInBounds_toArray, List.set_cons_zero, List.set_cons_succ] at hq
    obtain ⟨b0, b1, b2, b3, b4, b5, b6, bf⟩ := nav_cells hq
    go_simp
    clear b0 b1 b2 b3 b4 b5 b6 bf hq
    refine hKK.out _ _ (fun hz => absurd hz (by decide +kernel)) ?_
    clear hKK
    refine wpAnyZ_done (by decide +kernel) ?_
    have hq := hs4.out
    simp only [List.setIfInBounds_toArray, List.set_cons_zero, List.set_cons_succ] at hq
    clear hh3 hs2 hs3 hs4 hres3 hS hhh hc1 hrk
    generalize ((w3.setCell ⟨g, 2, none⟩ (.int .i64 p.1)).setCell ⟨g, 3, none⟩ (.int .i64 p.2)).setCell ⟨g, 5, none⟩ (.slice B r.length cb) = w4 at N3 hq hr4 ⊢
    obtain ⟨b0, b1, b2, b3, b4, b5, b6, bf⟩ := nav_cells hq
    have hrf := frozen_of_row w4 w.heap.size 0 _ _ hr4.out
    have hrf1 := frozen_of_row w4 w.heap.size 1 _ _ hr4.out
    have hrc := cell_of_row w4 w.heap.size 0 _ _ _ hr4.out
    have hrc1 := cell_of_row w4 w.heap.size 1 _ _ _ hr4.out
    simp only [List.getElem?_toArray, List.getElem?_cons_zero, List.getElem?_cons_succ] at hrc hrc1
    have hm1 := Hd.mk (heap_setCell_same w4 w.heap.size 0 _ 58 (.int .i64 p.1) hr4.out)
    have hm2 := Hd.mk (heap_setCell_same _ w.heap.size 1 _ 58 (.int .i64 p.2) hm1.out)
    clear hq
    go_wp2
    (try simp only [Exit.inBlock, Exit.then])
    refine bodyPost_ret (v := .tuple #[plV p, .int .i64 0]) ?_ rfl ⟨rfl, (by rw [HU.out]; exact NavT.res h.lt HB.out N3.out (Nat.le_refl _) (by have := hsz0.out; omega) (Tch.setCell2 _ _))⟩
    rw [results_cell_tmp rfl]
    simp [asAddr, Result.andThen]
    have hm3 := hm2.out
    simp only [List.setIfInBounds_toArray, List.set_cons_zero, List.set_cons_succ] at hm3
    rw [run_loadVar_row _ _ 58 58 #[.int .i64 p.1, .int .i64 p.2] (0, 0) _ hm3 Try.underlying58 rfl (by kernel_rfl)]
    rfl
end Go.Proofs.Ytkgdcglnkodgnaa

