/-
  The document's reader: Now, Behind, Ahead, put. No condition but sizes.
-/
import Derived.Test.YtkgdcglnkodgnaaRload
namespace Go.Proofs.Ytkgdcglnkodgnaa
open Go.RowKit
/-- A reader that may be read. -/
structure RI (r : RN) : Prop where
  lo : -1 ≤ r.at'
  hi : r.at' < r.row.length
  len : r.row.length ≤ 100
  mks : r.m.length ≤ 100
theorem RI.of {s : NS} (h : NInv s) : RI s.rn := by
  have hl := h.long
  have hm := h.marks
  refine ⟨?_, ?_, ?_, (show s.mks.length ≤ 100 by omega)⟩
  · cases hh : s.has
    · rw [rn_at' hh]; omega
    · rw [rn_at hh]; omega
  · cases hh : s.has
    · rw [rn_at' hh]; omega
    · rw [rn_at hh, rn_row hh]; simp; omega
  · cases hh : s.has
    · rw [rn_row' h hh]; simp
    · rw [rn_row hh]; simp; omega
theorem rn_get_some {r : RN} {k : Nat} (h : RI r) (hk : r.at' = (k : Int)) : r.row[k]? = some (r.get r.at') := by
  have := h.hi
  have hl : k < r.row.length := by omega
  unfold RN.get
  rw [hk, Int.toNat_natCast, List.getD_eq_getElem?_getD, List.getElem?_eq_getElem hl]
  rfl
set_option maxRecDepth 100000 in
set_option maxHeartbeats 1000000 in
theorem rnow120 (g : Nat) (F : Nat → Prop) (r : RN) (w : World) (h : RefAt w g F r) (hi : RI r) :
    Calls Try.prog 120 #[.pointer (some ⟨g, 0, none⟩)] w fun e w' => e = .returned (.tuple #[plV r.now.1, .bool r.now.2]) ∧ Below w.heap.size w w' := by
  obtain ⟨A1, n1, c1, A2, n2, c2, h⟩ := h
  have hmix := try_mixed
  have hA := Hd.mk (below_alloc w (.cells #[.int .i64 0, .int .i64 0] 58))
  have hgl : g < w.heap.size := h.lt g h.fg
  obtain ⟨a0, a1, a2, af⟩ := ref_cells h.heap
  by_cases hneg : r.at' < 0
  · have hr : Hd (r.now = ((0, 0), false)) := ⟨if_pos hneg⟩
    rw [hr.out]
    go_enter Try.func120, Try.ntmps120
    go_wp2_with fail
    (try simp only [Exit.inBlock, Exit.then])
    refine bodyPost_ret (v := .tuple #[plV (0, 0), .bool false]) ?_ rfl ⟨rfl, hA.out⟩
    rw [results_cell_tmp rfl]
    simp [asAddr, Result.andThen]
    rw [run_loadVar_row _ _ 58 58 #[.int .i64 0, .int .i64 0] (0, 0) _ (heap_alloc_new w _) Try.underlying58 rfl (by kernel_rfl)]
    rfl
  · obtain ⟨k, hk⟩ := Int.eq_ofNat_of_zero_le (show 0 ≤ r.at' by omega)
    obtain ⟨⟨px, py⟩, hp⟩ : ∃ p, Hd (r.get r.at' = p) := ⟨_, ⟨rfl⟩⟩
    have hr : Hd (r.now = ((px, py), true)) := ⟨by unfold RN.now; rw [if_neg hneg, hp.out]⟩
    have hg := rn_get_some hi hk
    rw [hp.out] at hg
    obtain ⟨ad, rfl, q0, q1⟩ := RdP.get' (Own.rd h.o1) hg
    rw [hr.out]
    have hkn : (k : Int) < (n1 : Int) := by have := hi.hi; have := OwnP.len h.o1; omega
    have hk0 : (0 : Int) ≤ (k : Int) := by omega
    rw [hk] at a1
    have hh : Hd (w.heap[g]? = some (.cells #[.slice (some ad) n1 c1, .int .i64 (k : Int), .slice A2 n2 c2] 175 (0, 0))) := ⟨by rw [h.heap, hk]⟩
    have Q0 := Hd.mk q0
    have Q1 := Hd.mk q1
    have hkk : ¬ (k : Int) < 0 := by omega
    clear hneg hg q0 q1 hk
    go_enter Try.func120, Try.ntmps120
    go_wp2_with fail
    have hS1 := Hd.mk (hA.out.trans ((below_drew _).mono hA.out.size))
    refine region_zone 12 [false, false, false, false, false, false, false, false, false, false, false, false] (by kernel_rfl) (by kernel_rfl) hmix (fun w' => Below w.heap.size w w' ∧ w'.heap[w.heap.size]? = some (.cells #[.int .i64 0, .int .i64 0] 58 (0, 0))) [10] ?_ (fun hS => ?_)
    · exact ⟨hS1.out, heap_alloc_new w _⟩
    refine wpAnyZ_take0 (i := 0) (oi := ⟨_, _, _, _, _, _⟩) (v := ?_) rfl (by decide +kernel) (fun _ _ _ h => h) (Or.inl ⟨by rfl, ?_⟩) (fun _ => hS) ?_
    rotate_left
    focus (intro w _; go_simp; (try with_reducible rfl); done)
    simp only [Act.put, List.setIfInBounds_toArray, List.set_cons_zero, List.set_cons_succ]
    refine wpAnyZ_take0 (i := 1) (oi := ⟨_, _, _, _, _, _⟩) (v := ?_) rfl (by decide +kernel) (fun _ _ _ h => h) (Or.inl ⟨by rfl, ?_⟩) (fun _ => hS) ?_
    rotate_left
    focus (intro w _; go_simp; (try with_reducible rfl); done)
    simp only [Act.put, List.setIfInBounds_toArray, List.set_cons_zero, List.set_cons_succ]
    refine wpAnyZ_take0 (i := 2) (oi := ⟨_, _, _, _, _, _⟩) (v := ?_) rfl (by decide +kernel) (fun _ _ _ h => h) (Or.inl ⟨by rfl, ?_⟩) (fun _ => hS) ?_
    rotate_left
    focus (intro w _; go_simp; (try with_reducible rfl); done)
    simp only [Act.put, List.setIfInBounds_toArray, List.set_cons_zero, List.set_cons_succ]
    refine wpAnyZ_take (i := 3) (oi := ⟨_, _, _, _, _, _⟩) (v := ?_) rfl (by decide +kernel) (fun _ _ _ h => h) (Or.inl ⟨by rfl, ?_⟩) hS ?_
    rotate_left
    focus (intro w hSw; (try dsimp only at hSw); (obtain ⟨z0, z1, z2, zf⟩ := ref_cells ((hSw.1.block g hgl).trans hh.out); have y0 := below_cell hSw.1 Q0.out; have y1 := below_cell hSw.1 Q1.out; clear hSw); go_simp; (try with_reducible rfl); done)
    simp only [Act.put, List.setIfInBounds_toArray, List.set_cons_zero, List.set_cons_succ]
    refine wpAnyZ_take0 (i := 4) (oi := ⟨_, _, _, _, _, _⟩) (v := ?_) rfl (by decide +kernel) (fun _ _ _ h => h) (Or.inl ⟨by rfl, ?_⟩) (fun _ => hS) ?_
    rotate_left
    focus (intro w _; go_simp; (try with_reducible rfl); done)
    simp only [Act.put, List.setIfInBounds_toArray, List.set_cons_zero, List.set_cons_succ]
    refine wpAnyZ_take0 (i := 5) (oi := ⟨_, _, _, _, _, _⟩) (v := ?_) rfl (by decide +kernel) (fun _ _ _ h => h) (Or.inl ⟨by rfl, ?_⟩) (fun _ => hS) ?_
    rotate_left
    focus (intro w _; go_simp; (try with_reducible rfl); done)
    simp only [Act.put, List.setIfInBounds_toArray, List.set_cons_zero, List.set_cons_succ]
    refine wpAnyZ_take0 (i := 6) (oi := ⟨_, _, _, _, _, _⟩) (v := ?_) rfl (by decide +kernel) (fun _ _ _ h => h) (Or.inl ⟨by rfl, ?_⟩) (fun _ => hS) ?_
    rotate_left
    focus (intro w _; go_simp; (try with_reducible rfl); done)
    simp only [Act.put, List.setIfInBounds_toArray, List.set_cons_zero, List.set_cons_succ]
    refine wpAnyZ_take (i := 7) (oi := ⟨_, _, _, _, _, _⟩) (v := ?_) rfl (by decide +kernel) (fun _ _ _ h => h) (Or.inl ⟨by rfl, ?_⟩) hS ?_
    rotate_left
    focus (intro w hSw; (try dsimp only at hSw); (obtain ⟨z0, z1, z2, zf⟩ := ref_cells ((hSw.1.block g hgl).trans hh.out); have y0 := below_cell hSw.1 Q0.out; have y1 := below_cell hSw.1 Q1.out; clear hSw); go_simp; (try with_reducible rfl); done)
    simp only [Act.put, List.setIfInBounds_toArray, List.set_cons_zero, List.set_cons_succ]
    refine wpAnyZ_take0 (i := 8) (oi := ⟨_, _, _, _, _, _⟩) (v := ?_) rfl (by decide +kernel) (fun _ _ _ h => h) (Or.inl ⟨by rfl, ?_⟩) (fun _ => hS) ?_
    rotate_left
    focus (intro w _; go_simp; (try with_reducible rfl); done)
    simp only [Act.put, List.setIfInBounds_toArray, List.set_cons_zero, List.set_cons_succ]
    refine wpAnyZ_take (i := 9) (oi := ⟨_, _, _, _, _, _⟩) (v := ?_) rfl (by decide +kernel) (fun _ _ _ h => h) (Or.inl ⟨by rfl, ?_⟩) hS ?_
    rotate_left
    focus (intro w hSw; (try dsimp only at hSw); (obtain ⟨z0, z1, z2, zf⟩ := ref_cells ((hSw.1.block g hgl).trans hh.out); have y0 := below_cell hSw.1 Q0.out; have y1 := below_cell hSw.1 Q1.out; clear hSw); go_simp; (try with_reducible rfl); done)
    simp only [Act.put, List.setIfInBounds_toArray, List.set_cons_zero, List.set_cons_succ]
    obtain ⟨y, hy⟩ : ∃ y, Hd ((w.alloc (.cells #[.int .i64 0, .int .i64 0] 58)).drew = y) := ⟨_, ⟨rfl⟩⟩
    rw [hy.out] at hS hS1 ⊢
    have x0 := Hd.mk hS.2
    have f0 := frozen_of_row y w.heap.size 0 _ _ hS.2
    have f1 := frozen_of_row y w.heap.size 1 _ _ hS.2
    obtain ⟨z0, z1⟩ := box_load hS.2
    refine wpAnyZ_one (i := 10) rfl (by decide +kernel) (fun K hKK => ?_)
    go_simp
    refine hKK.out _ _ (fun hz => absurd hz (by decide +kernel)) ?_
    clear hKK
    refine wpAnyZ_take0 (i := 11) (oi := ⟨_, _, _, _, _, _⟩) (v := ?_) rfl (by decide +kernel) (fun _ _ _ h => h) (Or.inl ⟨by rfl, ?_⟩) (fun hz => absurd hz (by decide +kernel)) ?_
    rotate_left
    focus (intro w _; go_simp; (try with_reducible rfl); done)
    simp only [Act.put, List.setIfInBounds_toArray, List.set_cons_zero, List.set_cons_succ]
    refine wpAnyZ_done (by decide +kernel) ?_
    have hx1 := heap_setCell_same y w.heap.size 0 _ 58 (.int .i64 px) x0.out
    have hx2 := heap_setCell_same _ w.heap.size 1 _ 58 (.int .i64 py) hx1
    have hb1 : Below w.heap.size w ((y.setCell ⟨w.heap.size, 0, none⟩ (.int .i64 px)).setCell ⟨w.heap.size, 1, none⟩ (.int .i64 py)) :=
      hS1.out.trans (((Tch.setCell (fun q => q = w.heap.size) y w.heap.size 0 (.int .i64 px) (.inl rfl)).trans (Tch.setCell _ _ w.heap.size 1 (.int .i64 py) (.inl (.inl rfl)))).below (fun q e => by omega) hS1.out.size)
    have HX := Hd.mk hx2
    have HB := Hd.mk hb1
    clear hx1 hx2 hb1 z0 z1 f0 f1 hS
    go_wp2
    (try simp only [Exit.inBlock, Exit.then])
    refine bodyPost_ret (v := .tuple #[plV (px, py), .bool true]) ?_ rfl ⟨rfl, HB.out⟩
    rw [results_cell_tmp rfl]
    simp [asAddr, Result.andThen]
    rw [run_loadVar_row _ _ 58 58 #[.int .i64 px, .int .i64 py] (0, 0) _ HX.out Try.underlying58 rfl (by kernel_rfl)]
    rfl
set_option maxRecDepth 100000 in
set_option maxHeartbeats 1000000 in
theorem rbehind121 (g : Nat) (F : Nat → Prop) (r : RN) (w : World) (h : RefAt w g F r) (hi : RI r) :
    Calls Try.prog 121 #[.pointer (some ⟨g, 0, none⟩)] w fun e w' => ∃ A n c, e = .returned (.slice A n c) ∧ RdP w A n r.behind ∧ n ≤ 100 ∧ (0 < n → ∀ ad, A = some ad → F ad.block) ∧ Below w.heap.size w w' := by
  obtain ⟨A1, n1, c1, A2, n2, c2, h⟩ := h
  have hmix := try_mixed
  obtain ⟨a0, a1, a2, af⟩ := ref_cells h.heap
  obtain ⟨k, hk⟩ : ∃ k : Nat, r.at'.toNat = k := ⟨_, rfl⟩
  have hl := OwnP.len h.o1
  have hkn : k ≤ n1 := by have := hi.hi; omega
  have hc1 := (Own.le h.o1).1
  have hR : Hd (RdP w A1 k r.behind) := ⟨by
    have := OwnP.takeRd h.o1 hkn
    unfold RN.behind
    rw [hk]; exact this⟩
  have hk1 : (k : Int) ≤ (c1 : Int) := by omega
  have hk0 : (0 : Int) ≤ (k : Int) := by omega
  have hk100 : Hd (k ≤ 100) := ⟨by have := hi.len; omega⟩
  have hFb : Hd (0 < k → ∀ ad, A1 = some ad → F ad.block) := ⟨fun h0 ad e => by
    have h1 : c1 ≠ 0 := by omega
    exact h.f1 _ (by simp [ownBlk, h1, e])⟩
  have hmx : (if (k : Int) < 0 then (0 : Int) else (k : Int)) = (k : Int) := if_neg (by omega)
  rcases (show (r.at' = (k : Int)) ∨ (r.at' = -1 ∧ k = 0) by have := hi.lo; omega) with hv | ⟨hv, rfl⟩
  · have hh : Hd (w.heap[g]? = some (.cells #[.slice A1 n1 c1, .int .i64 (k : Int), .slice A2 n2 c2] 175 (0, 0))) := ⟨by rw [h.heap, hv]⟩
    clear hk hl hkn hv a0 a1 a2
    go_enter Try.func121, Try.ntmps121
    go_wp2_with fail
    refine region_zone 11 [false, false, false, false, false, false, false, false, false, false, false] (by kernel_rfl) (by kernel_rfl) hmix (fun w' => w'.heap[g]? = some (.cells #[.slice A1 n1 c1, .int .i64 (k : Int), .slice A2 n2 c2] 175 (0, 0))) [] ?_ (fun hS => ?_)
    · exact hh.out
    refine wpAnyZ_take0 (i := 0) (oi := ⟨_, _, _, _, _, _⟩) (v := ?_) rfl (by decide +kernel) (fun _ _ _ h => h) (Or.inl ⟨by rfl, ?_⟩) (fun _ => hS) ?_
    rotate_left
    focus (intro w _; go_simp; (try with_reducible rfl); done)
    simp only [Act.put, List.setIfInBounds_toArray, List.set_cons_zero, List.set_cons_succ]
    refine wpAnyZ_take0 (i := 1) (oi := ⟨_, _, _, _, _, _⟩) (v := ?_) rfl (by decide +kernel) (fun _ _ _ h => h) (Or.inl ⟨by rfl, ?_⟩) (fun _ => hS) ?_
    rotate_left
    focus (intro w _; go_simp; (try with_reducible rfl); done)
    simp only [Act.put, List.setIfInBounds_toArray, List.set_cons_zero, List.set_cons_succ]
    refine wpAnyZ_take0 (i := 2) (oi := ⟨_, _, _, _, _, _⟩) (v := ?_) rfl (by decide +kernel) (fun _ _ _ h => h) (Or.inl ⟨by rfl, ?_⟩) (fun _ => hS) ?_
    rotate_left
    focus (intro w _; go_simp; (try with_reducible rfl); done)
    simp only [Act.put, List.setIfInBounds_toArray, List.set_cons_zero, List.set_cons_succ]
    refine wpAnyZ_take (i := 3) (oi := ⟨_, _, _, _, _, _⟩) (v := ?_) rfl (by decide +kernel) (fun _ _ _ h => h) (Or.inl ⟨by rfl, ?_⟩) hS ?_
    rotate_left
    focus (intro w hSw; (try dsimp only at hSw); (obtain ⟨z0, z1, z2, zf⟩ := ref_cells hSw; clear hSw); go_simp; (try with_reducible rfl); done)
    simp only [Act.put, List.setIfInBounds_toArray, List.set_cons_zero, List.set_cons_succ]
    refine wpAnyZ_take0 (i := 4) (oi := ⟨_, _, _, _, _, _⟩) (v := ?_) rfl (by decide +kernel) (fun _ _ _ h => h) (Or.inl ⟨by rfl, ?_⟩) (fun _ => hS) ?_
    rotate_left
    focus (intro w _; go_simp; (try with_reducible rfl); done)
    simp only [Act.put, List.setIfInBounds_toArray, List.set_cons_zero, List.set_cons_succ]
    refine wpAnyZ_take0 (i := 5) (oi := ⟨_, _, _, _, _, _⟩) (v := ?_) rfl (by decide +kernel) (fun _ _ _ h => h) (Or.inl ⟨by rfl, ?_⟩) (fun _ => hS) ?_
    rotate_left
    focus (intro w _; go_simp; (try with_reducible rfl); done)
    simp only [Act.put, List.setIfInBounds_toArray, List.set_cons_zero, List.set_cons_succ]
    refine wpAnyZ_take0 (i := 6) (oi := ⟨_, _, _, _, _, _⟩) (v := ?_) rfl (by decide +kernel) (fun _ _ _ h => h) (Or.inl ⟨by rfl, ?_⟩) (fun _ => hS) ?_
    rotate_left
    focus (intro w _; go_simp; (try with_reducible rfl); done)
    simp only [Act.put, List.setIfInBounds_toArray, List.set_cons_zero, List.set_cons_succ]
    refine wpAnyZ_take (i := 7) (oi := ⟨_, _, _, _, _, _⟩) (v := ?_) rfl (by decide +kernel) (fun _ _ _ h => h) (Or.inl ⟨by rfl, ?_⟩) hS ?_
    rotate_left
    focus (intro w hSw; (try dsimp only at hSw); (obtain ⟨z0, z1, z2, zf⟩ := ref_cells hSw; clear hSw); go_simp; (try with_reducible rfl); done)
    simp only [Act.put, List.setIfInBounds_toArray, List.set_cons_zero, List.set_cons_succ]
    refine wpAnyZ_take0 (i := 8) (oi := ⟨_, _, _, _, _, _⟩) (v := ?_) rfl (by decide +kernel) (fun _ _ _ h => h) (Or.inl ⟨by rfl, ?_⟩) (fun _ => hS) ?_
    rotate_left
    focus (intro w _; go_simp; (try with_reducible rfl); done)
    simp only [Act.put, List.setIfInBounds_toArray, List.set_cons_zero, List.set_cons_succ]
    refine wpAnyZ_take0 (i := 9) (oi := ⟨_, _, _, _, _, _⟩) (v := ?_) rfl (by decide +kernel) (fun _ _ _ h => h) (Or.inl ⟨by rfl, ?_⟩) (fun _ => hS) ?_
    rotate_left
    focus (intro w _; go_simp; (try with_reducible rfl); done)
    simp only [Act.put, List.setIfInBounds_toArray, List.set_cons_zero, List.set_cons_succ]
    refine wpAnyZ_take0 (i := 10) (oi := ⟨_, _, _, _, _, _⟩) (v := ?_) rfl (by decide +kernel) (fun _ _ _ h => h) (Or.inl ⟨by rfl, ?_⟩) (fun _ => hS) ?_
    rotate_left
    focus (intro w _; go_simp; (try with_reducible rfl); done)
    simp only [Act.put, List.setIfInBounds_toArray, List.set_cons_zero, List.set_cons_succ]
    refine wpAnyZ_done (by decide +kernel) ?_
    go_wp2
    go_ret
    exact ⟨_, _, _, rfl, hR.out, hk100.out, hFb.out, below_drew w⟩
  · have hh : Hd (w.heap[g]? = some (.cells #[.slice A1 n1 c1, .int .i64 (-1), .slice A2 n2 c2] 175 (0, 0))) := ⟨by rw [h.heap, hv]⟩
    clear hk hl hkn hv a0 a1 a2
    go_enter Try.func121, Try.ntmps121
    go_wp2_with fail
    refine region_zone 11 [false, false, false, false, false, false, false, false, false, false, false] (by kernel_rfl) (by kernel_rfl) hmix (fun w' => w'.heap[g]? = some (.cells #[.slice A1 n1 c1, .int .i64 (-1), .slice A2 n2 c2] 175 (0, 0))) [] ?_ (fun hS => ?_)
    · exact hh.out
    refine wpAnyZ_take0 (i := 0) (oi := ⟨_, _, _, _, _, _⟩) (v := ?_) rfl (by decide +kernel) (fun _ _ _ h => h) (Or.inl ⟨by rfl, ?_⟩) (fun _ => hS) ?_
    rotate_left
    focus (intro w _; go_simp; (try with_reducible rfl); done)
    simp only [Act.put, List.setIfInBounds_toArray, List.set_cons_zero, List.set_cons_succ]
    refine wpAnyZ_take0 (i := 1) (oi := ⟨_, _, _, _, _, _⟩) (v := ?_) rfl (by decide +kernel) (fun _ _ _ h => h) (Or.inl ⟨by rfl, ?_⟩) (fun _ => hS) ?_
    rotate_left
    focus (intro w _; go_simp; (try with_reducible rfl); done)
    simp only [Act.put, List.setIfInBounds_toArray, List.set_cons_zero, List.set_cons_succ]
    refine wpAnyZ_take0 (i := 2) (oi := ⟨_, _, _, _, _, _⟩) (v := ?_) rfl (by decide +kernel) (fun _ _ _ h => h) (Or.inl ⟨by rfl, ?_⟩) (fun _ => hS) ?_
    rotate_left
    focus (intro w _; go_simp; (try with_reducible rfl); done)
    simp only [Act.put, List.setIfInBounds_toArray, List.set_cons_zero, List.set_cons_succ]
    refine wpAnyZ_take (i := 3) (oi := ⟨_, _, _, _, _, _⟩) (v := ?_) rfl (by decide +kernel) (fun _ _ _ h => h) (Or.inl ⟨by rfl, ?_⟩) hS ?_
    rotate_left
    focus (intro w hSw; (try dsimp only at hSw); (obtain ⟨z0, z1, z2, zf⟩ := ref_cells hSw; clear hSw); go_simp; (try with_reducible rfl); done)
    simp only [Act.put, List.setIfInBounds_toArray, List.set_cons_zero, List.set_cons_succ]
    refine wpAnyZ_take0 (i := 4) (oi := ⟨_, _, _, _, _, _⟩) (v := ?_) rfl (by decide +kernel) (fun _ _ _ h => h) (Or.inl ⟨by rfl, ?_⟩) (fun _ => hS) ?_
    rotate_left
    focus (intro w _; go_simp; (try with_reducible rfl); done)
    simp only [Act.put, List.setIfInBounds_toArray, List.set_cons_zero, List.set_cons_succ]
    refine wpAnyZ_take0 (i := 5) (oi := ⟨_, _, _, _, _, _⟩) (v := ?_) rfl (by decide +kernel) (fun _ _ _ h => h) (Or.inl ⟨by rfl, ?_⟩) (fun _ => hS) ?_
    rotate_left
    focus (intro w _; go_simp; (try with_reducible rfl); done)
    simp only [Act.put, List.setIfInBounds_toArray, List.set_cons_zero, List.set_cons_succ]
    refine wpAnyZ_take0 (i := 6) (oi := ⟨_, _, _, _, _, _⟩) (v := ?_) rfl (by decide +kernel) (fun _ _ _ h => h) (Or.inl ⟨by rfl, ?_⟩) (fun _ => hS) ?_
    rotate_left
    focus (intro w _; go_simp; (try with_reducible rfl); done)
    simp only [Act.put, List.setIfInBounds_toArray, List.set_cons_zero, List.set_cons_succ]
    refine wpAnyZ_take (i := 7) (oi := ⟨_, _, _, _, _, _⟩) (v := ?_) rfl (by decide +kernel) (fun _ _ _ h => h) (Or.inl ⟨by rfl, ?_⟩) hS ?_
    rotate_left
    focus (intro w hSw; (try dsimp only at hSw); (obtain ⟨z0, z1, z2, zf⟩ := ref_cells hSw; clear hSw); go_simp; (try with_reducible rfl); done)
    simp only [Act.put, List.setIfInBounds_toArray, List.set_cons_zero, List.set_cons_succ]
    refine wpAnyZ_take0 (i := 8) (oi := ⟨_, _, _, _, _, _⟩) (v := ?_) rfl (by decide +kernel) (fun _ _ _ h => h) (Or.inl ⟨by rfl, ?_⟩) (fun _ => hS) ?_
    rotate_left
    focus (intro w _; go_simp; (try with_reducible rfl); done)
    simp only [Act.put, List.setIfInBounds_toArray, List.set_cons_zero, List.set_cons_succ]
    refine wpAnyZ_take0 (i := 9) (oi := ⟨_, _, _, _, _, _⟩) (v := ?_) rfl (by decide +kernel) (fun _ _ _ h => h) (Or.inl ⟨by rfl, ?_⟩) (fun _ => hS) ?_
    rotate_left
    focus (intro w _; go_simp; (try with_reducible rfl); done)
    simp only [Act.put, List.setIfInBounds_toArray, List.set_cons_zero, List.set_cons_succ]
    refine wpAnyZ_take0 (i := 10) (oi := ⟨_, _, _, _, _, _⟩) (v := ?_) rfl (by decide +kernel) (fun _ _ _ h => h) (Or.inl ⟨by rfl, ?_⟩) (fun _ => hS) ?_
    rotate_left
    focus (intro w _; go_simp; (try with_reducible rfl); done)
    simp only [Act.put, List.setIfInBounds_toArray, List.set_cons_zero, List.set_cons_succ]
    refine wpAnyZ_done (by decide +kernel) ?_
    go_wp2
    go_ret
    exact ⟨_, _, _, rfl, hR.out, hk100.out, hFb.out, below_drew w⟩
theorem rahead_cut {r : RN} {A1 : Option Addr} {n1 c1 k : Nat} {w : World} (h : OwnP w 0 A1 n1 c1 r.row) (hk : r.at' + 1 = (k : Int)) (hkn : k ≤ n1) : RdP w (if c1 = k then A1 else A1.map (·.add (k * 2))) (n1 - k) r.ahead := by
  have := RdP.cut (Own.rd h) (a := k) (b := n1) (m := c1) hkn (Nat.le_refl _) (Own.le h).1
  have hl := OwnP.len h
  rw [List.take_of_length_le (by rw [List.length_drop]; omega)] at this
  unfold RN.ahead
  rw [hk]
  exact this
set_option maxRecDepth 100000 in
set_option maxHeartbeats 1000000 in
theorem rahead122 (g : Nat) (F : Nat → Prop) (r : RN) (w : World) (h : RefAt w g F r) (hi : RI r) :
    Calls Try.prog 122 #[.pointer (some ⟨g, 0, none⟩)] w fun e w' => ∃ A n c, e = .returned (.slice A n c) ∧ RdP w A n r.ahead ∧ n ≤ 100 ∧ (0 < n → ∀ ad, A = some ad → F ad.block) ∧ Below w.heap.size w w' := by
  obtain ⟨A1, n1, c1, A2, n2, c2, h⟩ := h
  have hmix := try_mixed
  obtain ⟨v, hv⟩ : ∃ v, r.at' = v := ⟨_, rfl⟩
  have hlo := hi.lo
  have hhi := hi.hi
  have hln := hi.len
  rw [hv] at hlo hhi
  obtain ⟨k, hk⟩ := Int.eq_ofNat_of_zero_le (show 0 ≤ v + 1 by omega)
  have hl := OwnP.len h.o1
  have hkn : k ≤ n1 := by omega
  have hc1 := (Own.le h.o1).1
  have hR := Hd.mk (rahead_cut h.o1 (by rw [hv]; exact hk) hkn)
  obtain ⟨D, hD⟩ : ∃ D, (if c1 = k then A1 else A1.map (·.add (k * 2))) = D := ⟨_, rfl⟩
  rw [hD] at hR
  have hki : (k : Int) ≤ (n1 : Int) := by omega
  have hk0 : (0 : Int) ≤ (k : Int) := by omega
  have hk1 : (n1 : Int) ≤ (c1 : Int) := by omega
  have hwr : IntKind.i64.wrap (v + 1) = (k : Int) := by rw [IntWalk.i64_in _ (by omega)]; exact hk
  have hk100 : Hd (n1 - k ≤ 100) := ⟨by omega⟩
  have hFb : Hd (0 < n1 - k → ∀ ad, D = some ad → F ad.block) := ⟨fun h0 ad e => by
    have h1 : c1 ≠ 0 := by omega
    rw [← hD, if_neg (by omega)] at e
    cases hA : A1 with
    | none => rw [hA] at e; cases e
    | some x =>
      rw [hA] at e
      simp at e
      refine h.f1 _ ?_
      rw [← e, block_add]
      simp [ownBlk, h1, hA]⟩
  have hh : Hd (w.heap[g]? = some (.cells #[.slice A1 n1 c1, .int .i64 v, .slice A2 n2 c2] 175 (0, 0))) := ⟨by rw [h.heap, hv]⟩
  clear hl hkn hlo hhi hln hc1 hk hv
  go_enter Try.func122, Try.ntmps122
  go_wp2_with fail
  refine region_zone 11 [false, false, false, false, false, false, false, false, false, false, false] (by kernel_rfl) (by kernel_rfl) hmix (fun w' => w'.heap[g]? = some (.cells #[.slice A1 n1 c1, .int .i64 v, .slice A2 n2 c2] 175 (0, 0))) [] ?_ (fun hS => ?_)
  · exact hh.out
  refine wpAnyZ_take0 (i := 0) (oi := ⟨_, _, _, _, _, _⟩) (v := ?_) rfl (by decide +kernel) (fun _ _ _ h => h) (Or.inl ⟨by rfl, ?_⟩) (fun _ => hS) ?_
  rotate_left
  focus (intro w _; go_simp; (try with_reducible rfl); done)
  simp only [Act.put, List.setIfInBounds_toArray, List.set_cons_zero, List.set_cons_succ]
  refine wpAnyZ_take0 (i := 1) (oi := ⟨_, _, _, _, _, _⟩) (v := ?_) rfl (by decide +kernel) (fun _ _ _ h => h) (Or.inl ⟨by rfl, ?_⟩) (fun _ => hS) ?_
  rotate_left
  focus (intro w _; go_simp; (try with_reducible rfl); done)
  simp only [Act.put, List.setIfInBounds_toArray, List.set_cons_zero, List.set_cons_succ]
  refine wpAnyZ_take0 (i := 2) (oi := ⟨_, _, _, _, _, _⟩) (v := ?_) rfl (by decide +kernel) (fun _ _ _ h => h) (Or.inl ⟨by rfl, ?_⟩) (fun _ => hS) ?_
  rotate_left
  focus (intro w _; go_simp; (try with_reducible rfl); done)
  simp only [Act.put, List.setIfInBounds_toArray, List.set_cons_zero, List.set_cons_succ]
  refine wpAnyZ_take (i := 3) (oi := ⟨_, _, _, _, _, _⟩) (v := ?_) rfl (by decide +kernel) (fun _ _ _ h => h) (Or.inl ⟨by rfl, ?_⟩) hS ?_
  rotate_left
  focus (intro w hSw; (try dsimp only at hSw); (obtain ⟨z0, z1, z2, zf⟩ := ref_cells hSw; clear hSw); go_simp; (try with_reducible rfl); done)
  simp only [Act.put, List.setIfInBounds_toArray, List.set_cons_zero, List.set_cons_succ]
  refine wpAnyZ_take0 (i := 4) (oi := ⟨_, _, _, _, _, _⟩) (v := ?_) rfl (by decide +kernel) (fun _ _ _ h => h) (Or.inl ⟨by rfl, ?_⟩) (fun _ => hS) ?_
  rotate_left
  focus (intro w _; go_simp; (try with_reducible rfl); done)
  simp only [Act.put, List.setIfInBounds_toArray, List.set_cons_zero, List.set_cons_succ]
  refine wpAnyZ_take0 (i := 5) (oi := ⟨_, _, _, _, _, _⟩) (v := ?_) rfl (by decide +kernel) (fun _ _ _ h => h) (Or.inl ⟨by rfl, ?_⟩) (fun _ => hS) ?_
  rotate_left
  focus (intro w _; go_simp; (try with_reducible rfl); done)
  simp only [Act.put, List.setIfInBounds_toArray, List.set_cons_zero, List.set_cons_succ]
  refine wpAnyZ_take0 (i := 6) (oi := ⟨_, _, _, _, _, _⟩) (v := ?_) rfl (by decide +kernel) (fun _ _ _ h => h) (Or.inl ⟨by rfl, ?_⟩) (fun _ => hS) ?_
  rotate_left
  focus (intro w _; go_simp; (try with_reducible rfl); done)
  simp only [Act.put, List.setIfInBounds_toArray, List.set_cons_zero, List.set_cons_succ]
  refine wpAnyZ_take (i := 7) (oi := ⟨_, _, _, _, _, _⟩) (v := ?_) rfl (by decide +kernel) (fun _ _ _ h => h) (Or.inl ⟨by rfl, ?_⟩) hS ?_
  rotate_left
  focus (intro w hSw; (try dsimp only at hSw); (obtain ⟨z0, z1, z2, zf⟩ := ref_cells hSw; clear hSw); go_simp; (try with_reducible rfl); done)
  simp only [Act.put, List.setIfInBounds_toArray, List.set_cons_zero, List.set_cons_succ]
  refine wpAnyZ_take0 (i := 8) (oi := ⟨_, _, _, _, _, _⟩) (v := ?_) rfl (by decide +kernel) (fun _ _ _ h => h) (Or.inl ⟨by rfl, ?_⟩) (fun _ => hS) ?_
  rotate_left
  focus (intro w _; go_simp; (try with_reducible rfl); done)
  simp only [Act.put, List.setIfInBounds_toArray, List.set_cons_zero, List.set_cons_succ]
  refine wpAnyZ_take0 (i := 9) (oi := ⟨_, _, _, _, _, _⟩) (v := ?_) rfl (by decide +kernel) (fun _ _ _ h => h) (Or.inl ⟨by rfl, ?_⟩) (fun _ => hS) ?_
  rotate_left
  focus (intro w _; go_simp; (try with_reducible rfl); done)
  simp only [Act.put, List.setIfInBounds_toArray, List.set_cons_zero, List.set_cons_succ]
  refine wpAnyZ_take0 (i := 10) (oi := ⟨_, _, _, _, _, _⟩) (v := ?_) rfl (by decide +kernel) (fun _ _ _ h => h) (Or.inl ⟨by rfl, ?_⟩) (fun _ => hS) ?_
  rotate_left
  focus (intro w _; go_simp; (try with_reducible rfl); done)
  simp only [Act.put, List.setIfInBounds_toArray, List.set_cons_zero, List.set_cons_succ]
  refine wpAnyZ_done (by decide +kernel) ?_
  go_wp2
  go_ret
  exact ⟨_, _, _, rfl, hR.out, hk100.out, hFb.out, below_drew w⟩
/-- append to a slice that has no room: it need not be the call's own. -/
theorem run_append_noroom {P : Program} (w : World) (base : Nat) (t ty e : TypeId) (i : TypeInfo) (z : Value) (size bytes : Nat) (ht : P.underlying t = some (.slice e)) (hi : P.info? e = some i) (hz : i.zero = some z)
    (hsize : i.size = size) (hby : i.bytes = bytes) (hzs : z.cells.size = size)
    (A : Option Addr) (n c : Nat) (xs : List Value) (hrd : Rd w size A n xs)
    (S : Option Addr) (m cs : Nat) (news : List Value) (hr : Rd w size S m news)
    (h63 : n + m ≤ maxLen) (hbytes : (n + m) * bytes ≤ 140737488355328) (hbase : base ≤ w.heap.size) (hroom : ¬ n + m ≤ c) :
    ∃ A' c' w', (Builtin.append_ #[t, t] ty #[.slice A n c, .slice S m cs]).run P w = .ok (.slice A' (n + m) c') w' ∧ Own w' base e size A' (n + m) c' (xs ++ news) ∧ Below w.heap.size w w' := by
  subst hsize; subst hby
  have hf := run_firstCells_rd (P := P) w.drew i.size m cs S news hr.drew
  have ho := run_firstCells_rd (P := P) w.drew i.size n c A xs hrd.drew
  have h63' : ¬ (9223372036854775807 < ((n : Int) + (m : Int))) := by unfold maxLen at h63; omega
  have h48' : ¬ (281474976710656 < Builtin.nextslicecap (n + m) c * i.bytes) := by have := growslice_fits (need := n + m) (old := c) (by omega) hbytes; omega
  have hap := appended_grown w base e i.size z hzs A n c m c xs news hrd.1 hr.1 h63 hbase
  refine ⟨_, _, _, ?_, hap.1, (below_drew w).trans (below_alloc w.drew _)⟩
  simp [Builtin.append_, run_underlying ht, sizeOf, typeInfo, zeroValue, hi, hz, Builtin.lenOf, hroom, h63', h48', Question.forced, hf, ho, newRow, grownCap, -List.append_toArray]
/-- An append to a full slice of bytes. -/
theorem wl_full8 {w : World} {ops : Array Oper} {rest : List Oper} {o : Oper} {a : Act} {Q : Exit → Act → World → Prop} (hgd : o.guard = none) (s x : Operand) (ho : o.op = .call { callee := .builtin .append, args := #[s, x], argTypes := #[22, 22] })
    {base : Nat} {A S : Option Addr} {n m cs : Nat} {l k : List UInt8} (hs : a.eval s = .slice A n n) (hx : a.eval x = .slice S m cs)
    (hrd : Rd8 w A n l) (hr : Rd8 w S m k) (hm : 0 < m) (hb : n + m ≤ 140737488355328) (hbase : base ≤ w.heap.size)
    (h : ∀ v w', (∃ A' c', v = .slice A' (n + m) c' ∧ Own8 w' base A' (n + m) c' (l ++ k) ∧ Below w.heap.size w w') → wpList Try.prog ops Q rest (a.put o.dst v) w') : wpList Try.prog ops Q (o :: rest) a w := by
  obtain ⟨i0, hi, hz0, hz1, hz2⟩ := info_parts info5
  obtain ⟨A', c', w', hrun, hap⟩ := run_append_noroom (P := Try.prog) w base 22 o.type 5 i0 _ 1 1 Try.underlying22 hi hz0 hz1 hz2 rfl A n n (bc l) hrd S m cs (bc k) hr (by unfold maxLen; omega) (by omega) hbase (by omega)
  refine wpList_run w hgd s x 22 22 ho _ _ hs hx (R := fun v w' => ∃ A' c', v = .slice A' (n + m) c' ∧ Own8 w' base A' (n + m) c' (l ++ k) ∧ Below w.heap.size w w') ⟨_, w', hrun, A', c', rfl, ?_, hap.2⟩ h
  have := hap.1
  rw [← bc_append] at this
  exact this
theorem rput_len {p : List Pl} (hv : ∀ q ∈ p, mayQ q = true) (hp : p.length ≤ 100) (k : Nat) : (putPs (p.take k)).length ≤ 2000 := by
  have h1 := putPs_len (l := p.take k) (fun q hq => hv q (List.mem_of_mem_take hq))
  have h2 : (p.take k).length ≤ 100 := by rw [List.length_take]; omega
  omega
theorem putU_pos (y : Nat) : 0 < (putU y).length := by
  unfold putU
  split <;> simp
set_option maxRecDepth 100000 in
set_option maxHeartbeats 2000000 in
theorem rput159 (A : Option Addr) (n c base : Nat) (l : List UInt8) (B : Option Addr) (m d : Nat) (ps : List Pl) (w : World) (h : Own8 w base A n c l ∨ (Rd8 w A n l ∧ n = c)) (hbase : base ≤ w.heap.size) (hp : RdP w B m ps) (hpb : 0 < m → ∀ ad, B = some ad → ad.block < base)
    (hv : ∀ p ∈ ps, mayQ p = true) (hm : m ≤ 100) (hn : n ≤ 1000000) :
    Calls Try.prog 159 #[.slice A n c, .slice B m d] w fun e w' => ∃ A' n' c', e = .returned (.slice A' n' c') ∧ Own8 w' base A' n' c' (l ++ putL ps) ∧ Below base w w' := by
  have HM := Hd.mk hp.len
  have HP := Hd.mk (rput_len hv (by rw [hp.len]; exact hm))
  have hv' := Hd.mk hv
  have HU := Hd.mk (putU_length m (by omega))
  have HU0 := Hd.mk (putU_pos m)
  have HPR := Hd.mk hp
  have HPB := Hd.mk hpb
  have hbs := Hd.mk hbase
  clear hv hp hpb hbase
  have hwm : IntKind.u64.wrap (m : Int) = (m : Int) := by rw [IntKind.wrap_u64]; omega
  have HLn : Hd (l.length = n) := ⟨by rcases h with h | ⟨h, _⟩; exact h.len; exact h.len⟩
  go_enter Try.func159, Try.ntmps159
  go_wp2_with fail
  refine (ruint170 m w (by omega)).mono ?_
  rintro e w1 ⟨U, un, uc, rfl, ou, bu⟩
  have hun := Hd.mk ou.len
  have hul : un ≤ 10 := by have := hun.out; have := HU.out; omega
  rcases h with h | ⟨h, rfl⟩
  · have h1 := Hd.mk (Own.below h bu)
    have r1 := Hd.mk (Own.rd ou)
    have b1 := Hd.mk bu
    have hz := Hd.mk (Nat.le_trans hbs.out bu.size)
    clear h ou bu
    go_wp2_with (at_builtin; refine wl_app8 rfl (.tmp 6) (.tmp 10) rfl rfl rfl h1.out r1.out (by omega) hz.out ?_; rintro v w2 ⟨A2, c2, rfl, o2, g2, _⟩)
    have O2 := Hd.mk o2
    have B2 : Hd (Below base w w2) := ⟨(b1.out.mono hbs.out).grown g2 hz.out (fun q e => (Own.lt h1.out e).1)⟩
    have HN2 : Hd (n + un ≤ 1000010) := ⟨by omega⟩
    clear hul hun b1 hz r1
    go_loopw [0, 5] (fun t i wr => ∃ (k : Nat) (A' : Option Addr) (n' c' : Nat), t = .slice A' n' c' ∧ i = .int .i64 (k : Int) ∧ k ≤ m ∧ Own8 wr base A' n' c' (l ++ putU m ++ putPs (ps.take k)) ∧ Hd (Below base w wr))
      (fun _ i _ => m - (intOf i).toNat)
    case atStart => exact ⟨0, A2, n + un, c2, rfl, rfl, by omega, by simpa [putPs] using O2.out, B2⟩
    case round =>
      obtain ⟨k, A', n', c', rfl, rfl, hk, ho', hb'⟩ := hrel
      have hn' : Hd (n' ≤ 1010000) := ⟨by have h1 := ho'.len; have := HU.out; have := HLn.out; have := HP.out k; rw [List.length_append, List.length_append] at h1; omega⟩
      have hsz := Hd.mk (Nat.le_trans hbs.out hb'.out.size)
      by_cases hlt : k < m
      · obtain ⟨p, hpk⟩ : ∃ p, ps[k]? = some p := ⟨ps[k]'(by have := HM.out; omega), List.getElem?_eq_getElem _⟩
        have hmq := (mayQ_iff p).1 (hv'.out p (List.mem_of_getElem? hpk))
        obtain ⟨ad, rfl, q0, q1⟩ := RdP.get' HPR.out hpk
        obtain ⟨a, ha⟩ : ∃ a : Nat, p.1 = (a : Int) := ⟨p.1.toNat, by omega⟩
        obtain ⟨b, hb2⟩ : ∃ b : Nat, p.2 = (b : Int) := ⟨p.2.toNat, by omega⟩
        have hadb : Hd (ad.block < base) := ⟨HPB.out (by omega) ad rfl⟩
        have hts := Hd.mk (take_snocP hpk)
        have hpp : Hd (putPs [p] = putU a ++ putU b) := ⟨by simp [putPs, putPl, ha, hb2]⟩
        have hab : a < 1000 ∧ b < 2000 := by omega
        obtain ⟨hla, hlb⟩ := hab
        rw [ha] at q0
        rw [hb2] at q1
        have hwa : IntKind.u64.wrap (a : Int) = (a : Int) := by rw [IntKind.wrap_u64]; omega
        have hwb : IntKind.u64.wrap (b : Int) = (b : Int) := by rw [IntKind.wrap_u64]; omega
        have hki : (k : Int) < (m : Int) := by omega
        have hk0 : (0 : Int) ≤ (k : Int) := by omega
        have hUA := Hd.mk (putU_length a (by omega))
        have hUB := Hd.mk (putU_length b (by omega))
        have Q0 := Hd.mk q0
        have Q1 := Hd.mk q1
        have z0 := (hb'.out.cell (p := ad.add (k * 2)) (by rw [block_add]; exact hadb.out)).trans q0
        clear ha hb2 hmq hpk q0 q1
        have HO := Hd.mk ho'
        clear ho'
        go_wp2_with fail
        clear z0
        refine (ruint170 a wr (by omega)).mono ?_
        rintro e x1 ⟨U1, un1, uc1, rfl, ou1, bu1⟩
        have ho1 := Hd.mk (Own.below HO.out bu1)
        have hr1 := Hd.mk (Own.rd ou1)
        have hb1 : Hd (Below base w x1) := ⟨hb'.out.trans (bu1.mono hsz.out)⟩
        have hun1 := ou1.len
        have hu1 : un1 ≤ 10 := by have := hUA.out; omega
        have hsz1 : Hd (base ≤ x1.heap.size) := ⟨Nat.le_trans hsz.out bu1.size⟩
        have hn1 := hn'.out
        clear HO ou1 bu1 hun1
        go_wp2_with (at_builtin; refine wl_app8 rfl (.tmp 18) (.tmp 25) rfl rfl rfl ho1.out hr1.out (by omega) hsz1.out ?_; rintro v x2 ⟨A3, c3, rfl, o3, g3, _⟩; have hb2 : Hd (Below base w x2) := (Hd.mk (hb1.out.grown g3 hsz1.out (fun q e => (Own.lt ho1.out e).1))); have O3 := Hd.mk o3; clear o3 g3; have z1 := (hb2.out.cell (p := ⟨(ad.add (k * 2)).block, (ad.add (k * 2)).off + 1, none⟩) (by show (ad.add (k * 2)).block < base; rw [block_add]; exact hadb.out)).trans Q1.out)
        clear z1
        refine (ruint170 b x2 (by omega)).mono ?_
        rintro e x3 ⟨U2, un2, uc2, rfl, ou2, bu2⟩
        have ho3 := Hd.mk (Own.below O3.out bu2)
        have hr3 := Hd.mk (Own.rd ou2)
        have hsz2 : base ≤ x2.heap.size := Nat.le_trans hbs.out hb2.out.size
        have hb3 : Hd (Below base w x3) := ⟨hb2.out.trans (bu2.mono hsz2)⟩
        have hun2 := ou2.len
        have hu2 : un2 ≤ 10 := by have := hUB.out; omega
        have hsz3 : Hd (base ≤ x3.heap.size) := ⟨Nat.le_trans hsz2 bu2.size⟩
        clear O3 ou2 bu2 hun2 hsz2
        go_wp2_with (at_builtin; refine wl_app8 rfl (.tmp 27) (.tmp 34) rfl rfl rfl ho3.out hr3.out (by omega) hsz3.out ?_; rintro v x4 ⟨A4, c4, rfl, o4, g4, _⟩)
        go_roundw
        case rel =>
          refine ⟨k + 1, A4, _, c4, rfl, by go_num, by omega, ?_, ⟨hb3.out.grown g4 hsz3.out (fun q e => (Own.lt ho3.out e).1)⟩⟩
          rw [hts.out, putPs_append, hpp.out, ← List.append_assoc, ← List.append_assoc]
          exact o4
        case measure => simp [intOf]; omega
      · obtain rfl : k = m := by omega
        have hki : ¬ ((k : Int) < (k : Int)) := by omega
        go_wp2
        go_ret
        refine ⟨_, _, _, rfl, ?_, hb'.out⟩
        rw [List.take_of_length_le (by rw [HM.out]; omega)] at ho'
        rw [putL, HM.out, ← List.append_assoc]
        exact ho'
  · have h1 := Hd.mk (Rd.below h bu)
    have r1 := Hd.mk (Own.rd ou)
    have b1 := Hd.mk bu
    have hz := Hd.mk (Nat.le_trans hbs.out bu.size)
    have hup : 0 < un := by have := hun.out; have := HU0.out; omega
    clear h ou bu
    go_wp2_with (at_builtin; refine wl_full8 rfl (.tmp 6) (.tmp 10) rfl rfl rfl h1.out r1.out hup (by omega) hz.out ?_; rintro v w2 ⟨A2, c2, rfl, o2, g2⟩)
    have O2 := Hd.mk o2
    have B2 : Hd (Below base w w2) := ⟨(b1.out.mono hbs.out).trans (g2.mono hz.out)⟩
    have HN2 : Hd (n + un ≤ 1000010) := ⟨by omega⟩
    clear hul hun b1 hz r1
    go_loopw [0, 5] (fun t i wr => ∃ (k : Nat) (A' : Option Addr) (n' c' : Nat), t = .slice A' n' c' ∧ i = .int .i64 (k : Int) ∧ k ≤ m ∧ Own8 wr base A' n' c' (l ++ putU m ++ putPs (ps.take k)) ∧ Hd (Below base w wr))
      (fun _ i _ => m - (intOf i).toNat)
    case atStart => exact ⟨0, A2, n + un, c2, rfl, rfl, by omega, by simpa [putPs] using O2.out, B2⟩
    case round =>
      obtain ⟨k, A', n', c', rfl, rfl, hk, ho', hb'⟩ := hrel
      have hn' : Hd (n' ≤ 1010000) := ⟨by have h1 := ho'.len; have := HU.out; have := HLn.out; have := HP.out k; rw [List.length_append, List.length_append] at h1; omega⟩
      have hsz := Hd.mk (Nat.le_trans hbs.out hb'.out.size)
      by_cases hlt : k < m
      · obtain ⟨p, hpk⟩ : ∃ p, ps[k]? = some p := ⟨ps[k]'(by have := HM.out; omega), List.getElem?_eq_getElem _⟩
        have hmq := (mayQ_iff p).1 (hv'.out p (List.mem_of_getElem? hpk))
        obtain ⟨ad, rfl, q0, q1⟩ := RdP.get' HPR.out hpk
        obtain ⟨a, ha⟩ : ∃ a : Nat, p.1 = (a : Int) := ⟨p.1.toNat, by omega⟩
        obtain ⟨b, hb2⟩ : ∃ b : Nat, p.2 = (b : Int) := ⟨p.2.toNat, by omega⟩
        have hadb : Hd (ad.block < base) := ⟨HPB.out (by omega) ad rfl⟩
        have hts := Hd.mk (take_snocP hpk)
        have hpp : Hd (putPs [p] = putU a ++ putU b) := ⟨by simp [putPs, putPl, ha, hb2]⟩
        have hab : a < 1000 ∧ b < 2000 := by omega
        obtain ⟨hla, hlb⟩ := hab
        rw [ha] at q0
        rw [hb2] at q1
        have hwa : IntKind.u64.wrap (a : Int) = (a : Int) := by rw [IntKind.wrap_u64]; omega
        have hwb : IntKind.u64.wrap (b : Int) = (b : Int) := by rw [IntKind.wrap_u64]; omega
        have hki : (k : Int) < (m : Int) := by omega
        have hk0 : (0 : Int) ≤ (k : Int) := by omega
        have hUA := Hd.mk (putU_length a (by omega))
        have hUB := Hd.mk (putU_length b (by omega))
        have Q0 := Hd.mk q0
        have Q1 := Hd.mk q1
        have z0 := (hb'.out.cell (p := ad.add (k * 2)) (by rw [block_add]; exact hadb.out)).trans q0
        clear ha hb2 hmq hpk q0 q1
        have HO := Hd.mk ho'
        clear ho'
        go_wp2_with fail
        clear z0
        refine (ruint170 a wr (by omega)).mono ?_
        rintro e x1 ⟨U1, un1, uc1, rfl, ou1, bu1⟩
        have ho1 := Hd.mk (Own.below HO.out bu1)
        have hr1 := Hd.mk (Own.rd ou1)
        have hb1 : Hd (Below base w x1) := ⟨hb'.out.trans (bu1.mono hsz.out)⟩
        have hun1 := ou1.len
        have hu1 : un1 ≤ 10 := by have := hUA.out; omega
        have hsz1 : Hd (base ≤ x1.heap.size) := ⟨Nat.le_trans hsz.out bu1.size⟩
        have hn1 := hn'.out
        clear HO ou1 bu1 hun1
        go_wp2_with (at_builtin; refine wl_app8 rfl (.tmp 18) (.tmp 25) rfl rfl rfl ho1.out hr1.out (by omega) hsz1.out ?_; rintro v x2 ⟨A3, c3, rfl, o3, g3, _⟩; have hb2 : Hd (Below base w x2) := (Hd.mk (hb1.out.grown g3 hsz1.out (fun q e => (Own.lt ho1.out e).1))); have O3 := Hd.mk o3; clear o3 g3; have z1 := (hb2.out.cell (p := ⟨(ad.add (k * 2)).block, (ad.add (k * 2)).off + 1, none⟩) (by show (ad.add (k * 2)).block < base; rw [block_add]; exact hadb.out)).trans Q1.out)
        clear z1
        refine (ruint170 b x2 (by omega)).mono ?_
        rintro e x3 ⟨U2, un2, uc2, rfl, ou2, bu2⟩
        have ho3 := Hd.mk (Own.below O3.out bu2)
        have hr3 := Hd.mk (Own.rd ou2)
        have hsz2 : base ≤ x2.heap.size := Nat.le_trans hbs.out hb2.out.size
        have hb3 : Hd (Below base w x3) := ⟨hb2.out.trans (bu2.mono hsz2)⟩
        have hun2 := ou2.len
        have hu2 : un2 ≤ 10 := by have := hUB.out; omega
        have hsz3 : Hd (base ≤ x3.heap.size) := ⟨Nat.le_trans hsz2 bu2.size⟩
        clear O3 ou2 bu2 hun2 hsz2
        go_wp2_with (at_builtin; refine wl_app8 rfl (.tmp 27) (.tmp 34) rfl rfl rfl ho3.out hr3.out (by omega) hsz3.out ?_; rintro v x4 ⟨A4, c4, rfl, o4, g4, _⟩)
        go_roundw
        case rel =>
          refine ⟨k + 1, A4, _, c4, rfl, by go_num, by omega, ?_, ⟨hb3.out.grown g4 hsz3.out (fun q e => (Own.lt ho3.out e).1)⟩⟩
          rw [hts.out, putPs_append, hpp.out, ← List.append_assoc, ← List.append_assoc]
          exact o4
        case measure => simp [intOf]; omega
      · obtain rfl : k = m := by omega
        have hki : ¬ ((k : Int) < (k : Int)) := by omega
        go_wp2
        go_ret
        refine ⟨_, _, _, rfl, ?_, hb'.out⟩
        rw [List.take_of_length_le (by rw [HM.out]; omega)] at ho'
        rw [putL, HM.out, ← List.append_assoc]
        exact ho'
theorem RefAt.belowB {w w' : World} {g B : Nat} {F : Nat → Prop} {r : RN} (h : RefAt w g F r) (hF : ∀ k, F k → k < B) (hb : Below B w w') : RefAt w' g F r :=
  h.keep (G := fun k => B ≤ k) ⟨hb.os, hb.tape, hb.output, hb.size, fun k _ hn => hb.block k (by omega)⟩ (fun k e e' => by have := hF k e; omega)
theorem rdP_belowB {w w' : World} {B n : Nat} {A : Option Addr} {l : List Pl} (h : RdP w A n l) (hA : 0 < n → ∀ ad, A = some ad → ad.block < B) (hb : Below B w w') : RdP w' A n l := by
  refine ⟨h.1, fun hn => ?_⟩
  obtain ⟨ad, e, hc⟩ := h.2 hn
  refine ⟨ad, e, fun j u hu => ?_⟩
  rw [← hc j u hu]
  exact hb.cell (by rw [block_add]; exact hA hn ad e)
end Go.Proofs.Ytkgdcglnkodgnaa

