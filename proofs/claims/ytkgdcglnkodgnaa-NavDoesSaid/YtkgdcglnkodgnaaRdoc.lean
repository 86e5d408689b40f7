/-
  Clone of a reader (nav). No condition but sizes.
-/
import Derived.Test.YtkgdcglnkodgnaaRsave
import Derived.BigQuiet
import Derived.Test.YtkgdcglnkodgnaaNav9
import Derived.Test.YtkgdcglnkodgnaaLoad
namespace Go.Proofs.Ytkgdcglnkodgnaa
open Go.RowKit
section
variable {w W : World} {g : Nat} {F : Nat → Prop} {r r' : RN} {A1 A2 B1 B2 : Option Addr} {n1 c1 n2 c2 m1 d1 m2 d2 : Nat}
/-- A reader changed. -/
theorem RefC.upd (h : RefC w g F r A1 n1 c1 A2 n2 c2) (hx : W.heap[g]? = some (.cells #[.slice B1 m1 d1, .int .i64 r'.at', .slice B2 m2 d2] 175 (0, 0))) (T : Tch F w W) (o1 : OwnP W 0 B1 m1 d1 r'.row) (o2 : OwnP W 0 B2 m2 d2 r'.m)
    (b1 : ∀ k, ownBlk B1 d1 = some k → ownBlk A1 c1 = some k ∨ w.heap.size ≤ k) (b2 : ∀ k, ownBlk B2 d2 = some k → ownBlk A2 c2 = some k ∨ w.heap.size ≤ k) (d : ∀ k, ownBlk B1 d1 = some k → ownBlk B2 d2 ≠ some k) : RefTo w W g F r' := by
  refine ⟨⟨B1, m1, d1, B2, m2, d2, hx, o1, o2, .inl h.fg, fun k e => ?_, fun k e => ?_, d, fun k e => ?_⟩, T⟩
  · exact (b1 k e).elim (fun e => .inl (h.f1 k e)) (fun e' => .inr ⟨e', (Own.lt o1 e).2⟩)
  · exact (b2 k e).elim (fun e => .inl (h.f2 k e)) (fun e' => .inr ⟨e', (Own.lt o2 e).2⟩)
  · exact e.elim (fun e => Nat.lt_of_lt_of_le (h.lt k e) T.size) (fun e => e.2)
theorem RefC.glt (h : RefC w g F r A1 n1 c1 A2 n2 c2) : g < w.heap.size := h.lt g h.fg
theorem RefTo.below (h : RefTo w W g F r) {B : Nat} (hF : ∀ k, F k → B ≤ k) (hB : B ≤ w.heap.size) : Below B w W := h.2.below hF hB
theorem RefTo.of_below (h : RefAt w g F r) (hb : Below w.heap.size w W) : RefTo w W g F r :=
  ⟨(h.below hb).mono (fun _ => .inl) (fun k e => e.elim (fun f => Nat.lt_of_lt_of_le (h.lt k f) hb.size) And.right), Tch.of_below hb⟩
theorem RefC.ne1 (h : RefC w g F r A1 n1 c1 A2 n2 c2) : ∀ k, ownBlk A1 c1 = some k → k ≠ g := OwnP.ne_nav (by decide) h.o1 h.heap
theorem RefC.ne2 (h : RefC w g F r A1 n1 c1 A2 n2 c2) : ∀ k, ownBlk A2 c2 = some k → k ≠ g := OwnP.ne_nav (by decide) h.o2 h.heap
/-- Only the place now changes. -/
theorem RefC.stAt (h : RefC w g F r A1 n1 c1 A2 n2 c2) {w1 : World} (hb : Below w.heap.size w w1) (v : Int) : RefC (w1.setCell ⟨g, 1, none⟩ (.int .i64 v)) g F { r with at' := v } A1 n1 c1 A2 n2 c2 ∧ Tch F w (w1.setCell ⟨g, 1, none⟩ (.int .i64 v)) := by
  have hx := heap_setCell_same w1 g 1 _ 175 (.int .i64 v) ((hb.block g h.glt).trans h.heap)
  have T : Tch F w (w1.setCell ⟨g, 1, none⟩ (.int .i64 v)) := (Tch.of_below hb).trans (Tch.setCell _ _ g 1 _ (.inl (.inl h.fg)))
  exact ⟨⟨hx, own_cell' (Own.below h.o1 hb) h.ne1, own_cell' (Own.below h.o2 hb) h.ne2, h.fg, h.f1, h.f2, h.d12, fun k e => Nat.lt_of_lt_of_le (h.lt k e) T.size⟩, T⟩
end
theorem RefAt.to {w W : World} {g : Nat} {F : Nat → Prop} {r : RN} (h : RefAt W g F r) (T : Tch F w W) : RefTo w W g F r :=
  ⟨h.mono (fun _ => .inl) (fun k e => e.elim (h.lt k) (fun e => e.2)), T⟩
theorem tch_below {F : Nat → Prop} {w w1 w2 : World} (T : Tch F w w1) (hb : Below w1.heap.size w1 w2) : Tch F w w2 := T.trans (Tch.of_below hb)
theorem ref_res {F : Nat → Prop} {w y z : World} (T : Tch F w y) (T' : Tch (fun q => w.heap.size ≤ q) y z) : Tch F w z :=
  ⟨T'.os.trans T.os, T'.tape.trans T.tape, T'.output.trans T.output, Nat.le_trans T.size T'.size, fun k hk hn => (T'.block k (Nat.lt_of_lt_of_le hk T.size) (by omega)).trans (T.block k hk hn)⟩
set_option maxRecDepth 100000 in
set_option maxHeartbeats 1000000 in
theorem rback129 (g : Nat) (F : Nat → Prop) (r : RN) (w : World) (h : RefAt w g F r) (hi : RI r) :
    Calls Try.prog 129 #[.pointer (some ⟨g, 0, none⟩)] w fun e w' => e = .returned (.tuple #[plV r.back.1, .int .i64 (r.back.2.1 : Int)]) ∧ RefTo w w' g F r.back.2.2 := by
  obtain ⟨A1, n1, c1, A2, n2, c2, h⟩ := h
  have hmix := try_mixed
  have hA := Hd.mk (below_alloc w (.cells #[.int .i64 0, .int .i64 0] 58))
  have hgl := h.glt
  have H := Hd.mk h
  have H0 := H
  obtain ⟨a0, a1, a2, af⟩ := ref_cells h.heap
  have af1 := af 1
  by_cases hneg : r.at' ≤ 0
  · have hr : Hd (r.back = ((0, 0), 3, r)) := ⟨if_pos hneg⟩
    rw [hr.out]
    clear h hi
    go_enter Try.func129, Try.ntmps129
    go_wp2_with fail
    (try simp only [Exit.inBlock, Exit.then])
    refine bodyPost_ret (v := .tuple #[plV (0, 0), .int .i64 3]) ?_ rfl ⟨rfl, RefTo.of_below ⟨_, _, _, _, _, _, H.out⟩ hA.out⟩
    rw [results_cell_tmp rfl]
    simp [asAddr, Result.andThen]
    rw [run_loadVar_row _ _ 58 58 #[.int .i64 0, .int .i64 0] (0, 0) _ (heap_alloc_new w _) Try.underlying58 rfl (by kernel_rfl)]
    rfl
  · obtain ⟨k, hk⟩ := Int.eq_ofNat_of_zero_le (show 0 ≤ r.at' - 1 by omega)
    obtain ⟨⟨px, py⟩, hp⟩ : ∃ p, Hd (r.get (k : Int) = p) := ⟨_, ⟨rfl⟩⟩
    have hr : Hd (r.back = ((px, py), 0, { r with at' := (k : Int) })) := ⟨by unfold RN.back; rw [if_neg hneg, hk, hp.out]⟩
    have hl := OwnP.len h.o1
    have hg : r.row[k]? = some (px, py) := by
      have hkl : k < r.row.length := by have := hi.hi; omega
      have := hp.out
      unfold RN.get at this
      rw [Int.toNat_natCast, List.getD_eq_getElem?_getD, List.getElem?_eq_getElem hkl] at this
      rw [List.getElem?_eq_getElem hkl]
      simpa using this
    have hkn : (k : Int) < (n1 : Int) := by have := hi.hi; omega
    have hk0 : (0 : Int) ≤ (k : Int) := by omega
    have h100 := hi.len
    have hkk : r.at' = (k : Int) + 1 := by omega
    rw [hkk] at a1
    have hpos : ¬ (k : Int) + 1 ≤ 0 := by omega
    have hbd : (k : Int) ≤ 1000 := by have := hi.hi; omega
    rw [hr.out]
    clear h hi hl h100 hk hkk
    go_enter Try.func129, Try.ntmps129
    go_wp2_with fail
    clear a0 a1 a2 af af1
    obtain ⟨N1, T1⟩ := H.out.stAt hA.out (k : Int)
    have hxb : (((w.alloc (.cells #[.int .i64 0, .int .i64 0] 58)).setCell ⟨g, 1, none⟩ (.int .i64 (k : Int)))).heap[w.heap.size]? = some (.cells #[.int .i64 0, .int .i64 0] 58 (0, 0)) :=
      (heap_setCell_other _ ⟨g, 1, none⟩ w.heap.size _ (by show w.heap.size ≠ g; omega)).trans (heap_alloc_new w _)
    obtain ⟨y, hy⟩ : ∃ y, Hd ((w.alloc (.cells #[.int .i64 0, .int .i64 0] 58)).setCell ⟨g, 1, none⟩ (.int .i64 (k : Int)) = y) := ⟨_, ⟨rfl⟩⟩
    have hcm : (w.alloc (.cells #[.int .i64 0, .int .i64 0] 58)).setCell ⟨g, 1, none⟩ (.int .i64 (k : Int)) = (w.setCell ⟨g, 1, none⟩ (.int .i64 (k : Int))).alloc (.cells #[.int .i64 0, .int .i64 0] 58) := World.setCell_alloc_past _ _ _ _ hgl
    rw [← hcm, hy.out]
    rw [hy.out] at N1 T1 hxb
    clear hcm
    obtain ⟨ad, rfl, q0, q1⟩ := RdP.get' (Own.rd N1.o1) hg
    have Q0 := Hd.mk q0
    have Q1 := Hd.mk q1
    have NN := Hd.mk N1
    have TT := Hd.mk T1
    have hX := Hd.mk hxb
    clear q0 q1 N1 T1 hxb hg hy H hneg hpos
    have hgy : g < y.heap.size := NN.out.glt
    have hh : Hd (y.heap[g]? = some (.cells #[.slice (some ad) n1 c1, .int .i64 (k : Int), .slice A2 n2 c2] 175 (0, 0))) := ⟨NN.out.heap⟩
    refine region_zone 12 [false, false, false, false, false, false, false, false, false, false, false, false] (by kernel_rfl) (by kernel_rfl) hmix (fun w' => Below y.heap.size y w') [10] ?_ (fun hS => ?_)
    · exact below_drew y
    refine wpAnyZ_take0 (i := 0) (oi := ⟨_, _, _, _, _, _⟩) (v := ?_) rfl (by decide +kernel) (fun _ _ _ h => h) (Or.inl ⟨by rfl, ?_⟩) (fun _ => hS) ?_
    rotate_left
    focus (intro w _; go_simp; (try with_reducible rfl); done)
    simp only [Act.put, List.setIfInBounds_toArray, List.set_cons_zero, List.set_cons_succ]
    refine wpAnyZ_take0 (i := 1) (oi := ⟨_, _, _, _, _, _⟩) (v := ?_) rfl (by decide +kernel) (fun _ _ _ h => h) (Or.inl ⟨by rfl, ?_⟩) (fun _ => hS) ?_
    rotate_left
    focus (intro w _; go_simp; (try with_reducible rfl); done)
    simp only [Act.put, List.setIfInBounds_toArray, List.set_cons_zero, List.set_cons_succ]
    refine wpAnyZ_take0 (i := 2) (oi := ⟨_, _, _, _, _, _⟩) (v := ?_) rfl (by decide +kernel) (fun _ _ _ h => h) (Or.inl ⟨by rfl, ?_⟩) (fun _ => hS) ?_
    rotate_left
    focus (intro w _; go_simp; (try with_reducible rfl); done)
    simp only [Act.put, List.setIfInBounds_toArray, List.set_cons_zero, List.set_cons_succ]
    refine wpAnyZ_take (i := 3) (oi := ⟨_, _, _, _, _, _⟩) (v := ?_) rfl (by decide +kernel) (fun _ _ _ h => h) (Or.inl ⟨by rfl, ?_⟩) hS ?_
    rotate_left
    focus (intro w hSw; (try dsimp only at hSw); (obtain ⟨z0, z1, z2, zf⟩ := ref_cells ((hSw.block g hgy).trans hh.out); have y0 := below_cell hSw Q0.out; have y1 := below_cell hSw Q1.out; clear hSw); go_simp; (try with_reducible rfl); done)
    simp only [Act.put, List.setIfInBounds_toArray, List.set_cons_zero, List.set_cons_succ]
    refine wpAnyZ_take0 (i := 4) (oi := ⟨_, _, _, _, _, _⟩) (v := ?_) rfl (by decide +kernel) (fun _ _ _ h => h) (Or.inl ⟨by rfl, ?_⟩) (fun _ => hS) ?_
    rotate_left
    focus (intro w _; go_simp; (try with_reducible rfl); done)
    simp only [Act.put, List.setIfInBounds_toArray, List.set_cons_zero, List.set_cons_succ]
    refine wpAnyZ_take0 (i := 5) (oi := ⟨_, _, _, _, _, _⟩) (v := ?_) rfl (by decide +kernel) (fun _ _ _ h => h) (Or.inl ⟨by rfl, ?_⟩) (fun _ => hS) ?_
    rotate_left
    focus (intro w _; go_simp; (try with_reducible rfl); done)
    simp only [Act.put, List.setIfInBounds_toArray, List.set_cons_zero, List.set_cons_succ]
    refine wpAnyZ_take0 (i := 6) (oi := ⟨_, _, _, _, _, _⟩) (v := ?_) rfl (by decide +kernel) (fun _ _ _ h => h) (Or.inl ⟨by rfl, ?_⟩) (fun _ => hS) ?_
    rotate_left
    focus (intro w _; go_simp; (try with_reducible rfl); done)
    simp only [Act.put, List.setIfInBounds_toArray, List.set_cons_zero, List.set_cons_succ]
    refine wpAnyZ_take (i := 7) (oi := ⟨_, _, _, _, _, _⟩) (v := ?_) rfl (by decide +kernel) (fun _ _ _ h => h) (Or.inl ⟨by rfl, ?_⟩) hS ?_
    rotate_left
    focus (intro w hSw; (try dsimp only at hSw); (obtain ⟨z0, z1, z2, zf⟩ := ref_cells ((hSw.block g hgy).trans hh.out); have y0 := below_cell hSw Q0.out; have y1 := below_cell hSw Q1.out; clear hSw); go_simp; (try with_reducible rfl); done)
    simp only [Act.put, List.setIfInBounds_toArray, List.set_cons_zero, List.set_cons_succ]
    refine wpAnyZ_take0 (i := 8) (oi := ⟨_, _, _, _, _, _⟩) (v := ?_) rfl (by decide +kernel) (fun _ _ _ h => h) (Or.inl ⟨by rfl, ?_⟩) (fun _ => hS) ?_
    rotate_left
    focus (intro w _; go_simp; (try with_reducible rfl); done)
    simp only [Act.put, List.setIfInBounds_toArray, List.set_cons_zero, List.set_cons_succ]
    refine wpAnyZ_take (i := 9) (oi := ⟨_, _, _, _, _, _⟩) (v := ?_) rfl (by decide +kernel) (fun _ _ _ h => h) (Or.inl ⟨by rfl, ?_⟩) hS ?_
    rotate_left
    focus (intro w hSw; (try dsimp only at hSw); (obtain ⟨z0, z1, z2, zf⟩ := ref_cells ((hSw.block g hgy).trans hh.out); have y0 := below_cell hSw Q0.out; have y1 := below_cell hSw Q1.out; clear hSw); go_simp; (try with_reducible rfl); done)
    simp only [Act.put, List.setIfInBounds_toArray, List.set_cons_zero, List.set_cons_succ]
    obtain ⟨u, hu⟩ : ∃ u, Hd (y.drew = u) := ⟨_, ⟨rfl⟩⟩
    have hXu : u.heap[w.heap.size]? = some (.cells #[.int .i64 0, .int .i64 0] 58 (0, 0)) := hu.out ▸ hX.out
    have hbu : Hd (Below y.heap.size y u) := ⟨hu.out ▸ below_drew y⟩
    rw [hu.out]
    rw [hu.out] at hS
    obtain ⟨z0, z1⟩ := box_load hXu
    have f0 := frozen_of_row u w.heap.size 0 _ _ hXu
    have f1 := frozen_of_row u w.heap.size 1 _ _ hXu
    have XU := Hd.mk hXu
    clear hXu hu
    refine wpAnyZ_one (i := 10) rfl (by decide +kernel) (fun K hKK => ?_)
    go_simp
    refine hKK.out _ _ (fun hz => absurd hz (by decide +kernel)) ?_
    clear hKK
    refine wpAnyZ_take0 (i := 11) (oi := ⟨_, _, _, _, _, _⟩) (v := ?_) rfl (by decide +kernel) (fun _ _ _ h => h) (Or.inl ⟨by rfl, ?_⟩) (fun hz => absurd hz (by decide +kernel)) ?_
    rotate_left
    focus (intro w _; go_simp; (try with_reducible rfl); done)
    simp only [Act.put, List.setIfInBounds_toArray, List.set_cons_zero, List.set_cons_succ]
    refine wpAnyZ_done (by decide +kernel) ?_
    have hx1 := heap_setCell_same u w.heap.size 0 _ 58 (.int .i64 px) XU.out
    have hx2 := heap_setCell_same _ w.heap.size 1 _ 58 (.int .i64 py) hx1
    have TB' : Tch (fun q => w.heap.size ≤ q) y ((u.setCell ⟨w.heap.size, 0, none⟩ (.int .i64 px)).setCell ⟨w.heap.size, 1, none⟩ (.int .i64 py)) :=
      (Tch.of_below hbu.out).trans ((Tch.setCell _ u w.heap.size 0 (.int .i64 px) (.inl (.inl (Nat.le_refl _)))).trans (Tch.setCell _ _ w.heap.size 1 (.int .i64 py) (.inl (.inl (.inl (Nat.le_refl _))))))
    have HX := Hd.mk hx2
    have HF := Hd.mk (RefAt.to (RefAt.keep ⟨_, _, _, _, _, _, NN.out⟩ TB' (fun q e e' => by have := H0.out.lt q e; omega)) (ref_res TT.out TB'))
    clear hx1 hx2 TB' z0 z1 f0 f1 hS
    go_wp2
    (try simp only [Exit.inBlock, Exit.then])
    refine bodyPost_ret (v := .tuple #[plV (px, py), .int .i64 0]) ?_ rfl ⟨rfl, HF.out⟩
    rw [results_cell_tmp rfl]
    simp [asAddr, Result.andThen]
    rw [run_loadVar_row _ _ 58 58 #[.int .i64 px, .int .i64 py] (0, 0) _ HX.out Try.underlying58 rfl (by kernel_rfl)]
    rfl
set_option maxRecDepth 100000 in
set_option maxHeartbeats 1000000 in
theorem rforward131 (g : Nat) (F : Nat → Prop) (r : RN) (w : World) (h : RefAt w g F r) (hi : RI r) :
    Calls Try.prog 131 #[.pointer (some ⟨g, 0, none⟩)] w fun e w' => e = .returned (.tuple #[plV r.forward.1, .int .i64 (r.forward.2.1 : Int)]) ∧ RefTo w w' g F r.forward.2.2 := by
  obtain ⟨A1, n1, c1, A2, n2, c2, h⟩ := h
  have hmix := try_mixed
  have hA := Hd.mk (below_alloc w (.cells #[.int .i64 0, .int .i64 0] 58))
  have hgl := h.glt
  have H := Hd.mk h
  have H0 := H
  have hl := OwnP.len h.o1
  have h100 := hi.len
  have hlo := hi.lo
  have hhi := hi.hi
  obtain ⟨v, hv⟩ : ∃ v, r.at' = v := ⟨_, rfl⟩
  have hh : Hd (w.heap[g]? = some (.cells #[.slice A1 n1 c1, .int .i64 v, .slice A2 n2 c2] 175 (0, 0))) := ⟨by rw [h.heap, hv]⟩
  have hw1 : IntKind.i64.wrap ((n1 : Int) - 1) = (n1 : Int) - 1 := IntWalk.i64_in _ (by omega)
  by_cases hneg : (r.row.length : Int) - 1 ≤ r.at'
  · have hr : Hd (r.forward = ((0, 0), 3, r)) := ⟨if_pos hneg⟩
    have hge : (n1 : Int) - 1 ≤ v := by omega
    have hde : decide (v ≥ (n1 : Int) - 1) = true := by simpa using hge
    rw [hr.out]
    clear h hi hl h100 hlo hhi hv hneg
    go_enter Try.func131, Try.ntmps131
    go_wp2_with fail
    refine region_zone 11 [false, false, false, false, false, false, false, false, false, false, false] (by kernel_rfl) (by kernel_rfl) hmix (fun w' => w'.heap[g]? = some (.cells #[.slice A1 n1 c1, .int .i64 v, .slice A2 n2 c2] 175 (0, 0))) [] ?_ (fun hS => ?_)
    · exact (hA.out.block g hgl).trans hh.out
    refine wpAnyZ_take0 (i := 0) (oi := ⟨_, _, _, _, _, _⟩) (v := ?_) rfl (by decide +kernel) (fun _ _ _ h => h) (Or.inl ⟨by rfl, ?_⟩) (fun _ => hS) ?_
    rotate_left
    focus (intro w _; go_simp; (try with_reducible rfl); done)
    simp only [Act.put, List.setIfInBounds_toArray, List.set_cons_zero, List.set_cons_succ]
    refine wpAnyZ_take0 (i := 1) (oi := ⟨_, _, _, _, _, _⟩) (v := ?_) rfl (by decide +kernel) (fun _ _ _ h => h) (Or.inl ⟨by rfl, ?_⟩) (fun _ => hS) ?_
    rotate_left
    focus (intro w _; go_simp; (try with_reducible rfl); done)
    simp only [Act.put, List.setIfInBounds_toArray, List.set_cons_zero, List.set_cons_succ]
    refine wpAnyZ_take0 (i := 2) (oi := ⟨_, _, _, _, _, _⟩) (v := ?_) rfl (by decide +kernel) (fun _ _ _ h => h) (Or.inl ⟨by rfl, ?_⟩) (fun _ => hS) ?_
    rotate_left
    focus (intro w _; go_simp; (try with_reducible rfl); done)
    simp only [Act.put, List.setIfInBounds_toArray, List.set_cons_zero, List.set_cons_succ]
    refine wpAnyZ_take (i := 3) (oi := ⟨_, _, _, _, _, _⟩) (v := ?_) rfl (by decide +kernel) (fun _ _ _ h => h) (Or.inl ⟨by rfl, ?_⟩) hS ?_
    rotate_left
    focus (intro w hSw; (try dsimp only at hSw); (obtain ⟨z0, z1, z2, zf⟩ := ref_cells hSw; clear hSw); go_simp; (try with_reducible rfl); done)
    simp only [Act.put, List.setIfInBounds_toArray, List.set_cons_zero, List.set_cons_succ]
    refine wpAnyZ_take0 (i := 4) (oi := ⟨_, _, _, _, _, _⟩) (v := ?_) rfl (by decide +kernel) (fun _ _ _ h => h) (Or.inl ⟨by rfl, ?_⟩) (fun _ => hS) ?_
    rotate_left
    focus (intro w _; go_simp; (try with_reducible rfl); done)
    simp only [Act.put, List.setIfInBounds_toArray, List.set_cons_zero, List.set_cons_succ]
    refine wpAnyZ_take0 (i := 5) (oi := ⟨_, _, _, _, _, _⟩) (v := ?_) rfl (by decide +kernel) (fun _ _ _ h => h) (Or.inl ⟨by rfl, ?_⟩) (fun _ => hS) ?_
    rotate_left
    focus (intro w _; go_simp; (try with_reducible rfl); done)
    simp only [Act.put, List.setIfInBounds_toArray, List.set_cons_zero, List.set_cons_succ]
    refine wpAnyZ_take0 (i := 6) (oi := ⟨_, _, _, _, _, _⟩) (v := ?_) rfl (by decide +kernel) (fun _ _ _ h => h) (Or.inl ⟨by rfl, ?_⟩) (fun _ => hS) ?_
    rotate_left
    focus (intro w _; go_simp; (try with_reducible rfl); done)
    simp only [Act.put, List.setIfInBounds_toArray, List.set_cons_zero, List.set_cons_succ]
    refine wpAnyZ_take (i := 7) (oi := ⟨_, _, _, _, _, _⟩) (v := ?_) rfl (by decide +kernel) (fun _ _ _ h => h) (Or.inl ⟨by rfl, ?_⟩) hS ?_
    rotate_left
    focus (intro w hSw; (try dsimp only at hSw); (obtain ⟨z0, z1, z2, zf⟩ := ref_cells hSw; clear hSw); go_simp; (try with_reducible rfl); done)
    simp only [Act.put, List.setIfInBounds_toArray, List.set_cons_zero, List.set_cons_succ]
    refine wpAnyZ_take0 (i := 8) (oi := ⟨_, _, _, _, _, _⟩) (v := ?_) rfl (by decide +kernel) (fun _ _ _ h => h) (Or.inl ⟨by rfl, ?_⟩) (fun _ => hS) ?_
    rotate_left
    focus (intro w _; go_simp; (try with_reducible rfl); done)
    simp only [Act.put, List.setIfInBounds_toArray, List.set_cons_zero, List.set_cons_succ]
    refine wpAnyZ_take0 (i := 9) (oi := ⟨_, _, _, _, _, _⟩) (v := ?_) rfl (by decide +kernel) (fun _ _ _ h => h) (Or.inl ⟨by rfl, ?_⟩) (fun _ => hS) ?_
    rotate_left
    focus (intro w _; go_simp; (try with_reducible rfl); done)
    simp only [Act.put, List.setIfInBounds_toArray, List.set_cons_zero, List.set_cons_succ]
    refine wpAnyZ_take0 (i := 10) (oi := ⟨_, _, _, _, _, _⟩) (v := ?_) rfl (by decide +kernel) (fun _ _ _ h => h) (Or.inl ⟨by rfl, ?_⟩) (fun _ => hS) ?_
    rotate_left
    focus (intro w _; go_simp; (try with_reducible rfl); done)
    simp only [Act.put, List.setIfInBounds_toArray, List.set_cons_zero, List.set_cons_succ]
    refine wpAnyZ_done (by decide +kernel) ?_
    obtain ⟨u, hu⟩ : ∃ u, Hd ((w.alloc (.cells #[.int .i64 0, .int .i64 0] 58)).drew = u) := ⟨_, ⟨rfl⟩⟩
    have hX : Hd (u.heap[w.heap.size]? = some (.cells #[.int .i64 0, .int .i64 0] 58 (0, 0))) := ⟨hu.out ▸ (heap_alloc_new w (.cells #[.int .i64 0, .int .i64 0] 58))⟩
    have hbu : Hd (Below w.heap.size w u) := ⟨hu.out ▸ (hA.out.trans ((below_drew _).mono hA.out.size))⟩
    rw [hu.out]
    obtain ⟨z0, z1⟩ := box_load hX.out
    have f0 := frozen_of_row u w.heap.size 0 _ _ hX.out
    have f1 := frozen_of_row u w.heap.size 1 _ _ hX.out
    clear hS hu
    go_wp2_with fail
    have hx1 := heap_setCell_same u w.heap.size 0 _ 58 (.int .i64 0) hX.out
    have hx2 := heap_setCell_same _ w.heap.size 1 _ 58 (.int .i64 0) hx1
    have TB' : Tch (fun q => w.heap.size ≤ q) w ((u.setCell ⟨w.heap.size, 0, none⟩ (.int .i64 0)).setCell ⟨w.heap.size, 1, none⟩ (.int .i64 0)) :=
      (Tch.of_below hbu.out).trans ((Tch.setCell _ u w.heap.size 0 (.int .i64 0) (.inl (.inl (Nat.le_refl _)))).trans (Tch.setCell _ _ w.heap.size 1 (.int .i64 0) (.inl (.inl (.inl (Nat.le_refl _))))))
    have HX := Hd.mk hx2
    have HF := Hd.mk (RefAt.to (RefAt.keep ⟨_, _, _, _, _, _, H.out⟩ TB' (fun q e e' => by have := H0.out.lt q e; omega)) (ref_res (Tch.refl F w) TB'))
    clear hx1 hx2 TB' z0 z1 f0 f1
    (try simp only [Exit.inBlock, Exit.then])
    refine bodyPost_ret (v := .tuple #[plV (0, 0), .int .i64 3]) ?_ rfl ⟨rfl, HF.out⟩
    rw [results_cell_tmp rfl]
    simp [asAddr, Result.andThen]
    rw [run_loadVar_row _ _ 58 58 #[.int .i64 0, .int .i64 0] (0, 0) _ HX.out Try.underlying58 rfl (by kernel_rfl)]
    rfl
  · obtain ⟨k, hk⟩ := Int.eq_ofNat_of_zero_le (show 0 ≤ r.at' + 1 by omega)
    obtain ⟨⟨px, py⟩, hp⟩ : ∃ p, Hd (r.get (k : Int) = p) := ⟨_, ⟨rfl⟩⟩
    have hr : Hd (r.forward = ((px, py), 0, { r with at' := (k : Int) })) := ⟨by unfold RN.forward; rw [if_neg hneg, hk, hp.out]⟩
    have hg : r.row[k]? = some (px, py) := by
      have hkl : k < r.row.length := by omega
      have := hp.out
      unfold RN.get at this
      rw [Int.toNat_natCast, List.getD_eq_getElem?_getD, List.getElem?_eq_getElem hkl] at this
      rw [List.getElem?_eq_getElem hkl]
      simpa using this
    have hkn : (k : Int) < (n1 : Int) := by omega
    have hk0 : (0 : Int) ≤ (k : Int) := by omega
    have hge : ¬ (n1 : Int) - 1 ≤ v := by omega
    have hvk : v = (k : Int) - 1 := by omega
    have hbd : (k : Int) ≤ 1000 := by omega
    rw [hr.out]
    clear h hi hl h100 hlo hhi hv hneg hk
    go_enter Try.func131, Try.ntmps131
    go_wp2_with fail
    refine region_zone 11 [false, false, false, false, false, false, false, false, false, false, false] (by kernel_rfl) (by kernel_rfl) hmix (fun w' => w'.heap[g]? = some (.cells #[.slice A1 n1 c1, .int .i64 v, .slice A2 n2 c2] 175 (0, 0))) [] ?_ (fun hS => ?_)
    · exact (hA.out.block g hgl).trans hh.out
    refine wpAnyZ_take0 (i := 0) (oi := ⟨_, _, _, _, _, _⟩) (v := ?_) rfl (by decide +kernel) (fun _ _ _ h => h) (Or.inl ⟨by rfl, ?_⟩) (fun _ => hS) ?_
    rotate_left
    focus (intro w _; go_simp; (try with_reducible rfl); done)
    simp only [Act.put, List.setIfInBounds_toArray, List.set_cons_zero, List.set_cons_succ]
    refine wpAnyZ_take0 (i := 1) (oi := ⟨_, _, _, _, _, _⟩) (v := ?_) rfl (by decide +kernel) (fun _ _ _ h => h) (Or.inl ⟨by rfl, ?_⟩) (fun _ => hS) ?_
    rotate_left
    focus (intro w _; go_simp; (try with_reducible rfl); done)
    simp only [Act.put, List.setIfInBounds_toArray, List.set_cons_zero, List.set_cons_succ]
    refine wpAnyZ_take0 (i := 2) (oi := ⟨_, _, _, _, _, _⟩) (v := ?_) rfl (by decide +kernel) (fun _ _ _ h => h) (Or.inl ⟨by rfl, ?_⟩) (fun _ => hS) ?_
    rotate_left
    focus (intro w _; go_simp; (try with_reducible rfl); done)
    simp only [Act.put, List.setIfInBounds_toArray, List.set_cons_zero, List.set_cons_succ]
    refine wpAnyZ_take (i := 3) (oi := ⟨_, _, _, _, _, _⟩) (v := ?_) rfl (by decide +kernel) (fun _ _ _ h => h) (Or.inl ⟨by rfl, ?_⟩) hS ?_
    rotate_left
    focus (intro w hSw; (try dsimp only at hSw); (obtain ⟨z0, z1, z2, zf⟩ := ref_cells hSw; clear hSw); go_simp; (try with_reducible rfl); done)
    simp only [Act.put, List.setIfInBounds_toArray, List.set_cons_zero, List.set_cons_succ]
    refine wpAnyZ_take0 (i := 4) (oi := ⟨_, _, _, _, _, _⟩) (v := ?_) rfl (by decide +kernel) (fun _ _ _ h => h) (Or.inl ⟨by rfl, ?_⟩) (fun _ => hS) ?_
    rotate_left
    focus (intro w _; go_simp; (try with_reducible rfl); done)
    simp only [Act.put, List.setIfInBounds_toArray, List.set_cons_zero, List.set_cons_succ]
    refine wpAnyZ_take0 (i := 5) (oi := ⟨_, _, _, _, _, _⟩) (v := ?_) rfl (by decide +kernel) (fun _ _ _ h => h) (Or.inl ⟨by rfl, ?_⟩) (fun _ => hS) ?_
    rotate_left
    focus (intro w _; go_simp; (try with_reducible rfl); done)
    simp only [Act.put, List.setIfInBounds_toArray, List.set_cons_zero, List.set_cons_succ]
    refine wpAnyZ_take0 (i := 6) (oi := ⟨_, _, _, _, _, _⟩) (v := ?_) rfl (by decide +kernel) (fun _ _ _ h => h) (Or.inl ⟨by rfl, ?_⟩) (fun _ => hS) ?_
    rotate_left
    focus (intro w _; go_simp; (try with_reducible rfl); done)
    simp only [Act.put, List.setIfInBounds_toArray, List.set_cons_zero, List.set_cons_succ]
    refine wpAnyZ_take (i := 7) (oi := ⟨_, _, _, _, _, _⟩) (v := ?_) rfl (by decide +kernel) (fun _ _ _ h => h) (Or.inl ⟨by rfl, ?_⟩) hS ?_
    rotate_left
    focus (intro w hSw; (try dsimp only at hSw); (obtain ⟨z0, z1, z2, zf⟩ := ref_cells hSw; clear hSw); go_simp; (try with_reducible rfl); done)
    simp only [Act.put, List.setIfInBounds_toArray, List.set_cons_zero, List.set_cons_succ]
    refine wpAnyZ_take0 (i := 8) (oi := ⟨_, _, _, _, _, _⟩) (v := ?_) rfl (by decide +kernel) (fun _ _ _ h => h) (Or.inl ⟨by rfl, ?_⟩) (fun _ => hS) ?_
    rotate_left
    focus (intro w _; go_simp; (try with_reducible rfl); done)
    simp only [Act.put, List.setIfInBounds_toArray, List.set_cons_zero, List.set_cons_succ]
    refine wpAnyZ_take0 (i := 9) (oi := ⟨_, _, _, _, _, _⟩) (v := ?_) rfl (by decide +kernel) (fun _ _ _ h => h) (Or.inl ⟨by rfl, ?_⟩) (fun _ => hS) ?_
    rotate_left
    focus (intro w _; go_simp; (try with_reducible rfl); done)
    simp only [Act.put, List.setIfInBounds_toArray, List.set_cons_zero, List.set_cons_succ]
    refine wpAnyZ_take0 (i := 10) (oi := ⟨_, _, _, _, _, _⟩) (v := ?_) rfl (by decide +kernel) (fun _ _ _ h => h) (Or.inl ⟨by rfl, ?_⟩) (fun _ => hS) ?_
    rotate_left
    focus (intro w _; go_simp; (try with_reducible rfl); done)
    simp only [Act.put, List.setIfInBounds_toArray, List.set_cons_zero, List.set_cons_succ]
    refine wpAnyZ_done (by decide +kernel) ?_
    obtain ⟨u0, hu⟩ : ∃ u, Hd ((w.alloc (.cells #[.int .i64 0, .int .i64 0] 58)).drew = u) := ⟨_, ⟨rfl⟩⟩
    have hX0 : Hd (u0.heap[w.heap.size]? = some (.cells #[.int .i64 0, .int .i64 0] 58 (0, 0))) := ⟨hu.out ▸ (heap_alloc_new w (.cells #[.int .i64 0, .int .i64 0] 58))⟩
    have hbu : Hd (Below w.heap.size w u0) := ⟨hu.out ▸ (hA.out.trans ((below_drew _).mono hA.out.size))⟩
    rw [hu.out]
    obtain ⟨a0, a1, a2, af⟩ := ref_cells ((hbu.out.block g hgl).trans hh.out)
    have af1 := af 1
    clear hS hu
    go_wp2_with fail
    clear a0 a1 a2 af af1
    obtain ⟨N1, T1⟩ := H.out.stAt hbu.out (k : Int)
    have hxb : (u0.setCell ⟨g, 1, none⟩ (.int .i64 (k : Int))).heap[w.heap.size]? = some (.cells #[.int .i64 0, .int .i64 0] 58 (0, 0)) :=
      (heap_setCell_other _ ⟨g, 1, none⟩ w.heap.size _ (by show w.heap.size ≠ g; omega)).trans hX0.out
    obtain ⟨y, hy⟩ : ∃ y, Hd (u0.setCell ⟨g, 1, none⟩ (.int .i64 (k : Int)) = y) := ⟨_, ⟨rfl⟩⟩
    rw [hy.out]
    rw [hy.out] at N1 T1 hxb
    obtain ⟨ad, rfl, q0, q1⟩ := RdP.get' (Own.rd N1.o1) hg
    have Q0 := Hd.mk q0
    have Q1 := Hd.mk q1
    have NN := Hd.mk N1
    have TT := Hd.mk T1
    have hX := Hd.mk hxb
    clear q0 q1 N1 T1 hxb hg hy H hge
    have hgy : g < y.heap.size := NN.out.glt
    have hh : Hd (y.heap[g]? = some (.cells #[.slice (some ad) n1 c1, .int .i64 (k : Int), .slice A2 n2 c2] 175 (0, 0))) := ⟨NN.out.heap⟩
    refine region_zone 12 [false, false, false, false, false, false, false, false, false, false, false, false] (by kernel_rfl) (by kernel_rfl) hmix (fun w' => Below y.heap.size y w') [10] ?_ (fun hS => ?_)
    · exact below_drew y
    refine wpAnyZ_take0 (i := 0) (oi := ⟨_, _, _, _, _, _⟩) (v := ?_) rfl (by decide +kernel) (fun _ _ _ h => h) (Or.inl ⟨by rfl, ?_⟩) (fun _ => hS) ?_
    rotate_left
    focus (intro w _; go_simp; (try with_reducible rfl); done)
    simp only [Act.put, List.setIfInBounds_toArray, List.set_cons_zero, List.set_cons_succ]
    refine wpAnyZ_take0 (i := 1) (oi := ⟨_, _, _, _, _, _⟩) (v := ?_) rfl (by decide +kernel) (fun _ _ _ h => h) (Or.inl ⟨by rfl, ?_⟩) (fun _ => hS) ?_
    rotate_left
    focus (intro w _; go_simp; (try with_reducible rfl); done)
    simp only [Act.put, List.setIfInBounds_toArray, List.set_cons_zero, List.set_cons_succ]
    refine wpAnyZ_take0 (i := 2) (oi := ⟨_, _, _, _, _, _⟩) (v := ?_) rfl (by decide +kernel) (fun _ _ _ h => h) (Or.inl ⟨by rfl, ?_⟩) (fun _ => hS) ?_
    rotate_left
    focus (intro w _; go_simp; (try with_reducible rfl); done)
    simp only [Act.put, List.setIfInBounds_toArray, List.set_cons_zero, List.set_cons_succ]
    refine wpAnyZ_take (i := 3) (oi := ⟨_, _, _, _, _, _⟩) (v := ?_) rfl (by decide +kernel) (fun _ _ _ h => h) (Or.inl ⟨by rfl, ?_⟩) hS ?_
    rotate_left
    focus (intro w hSw; (try dsimp only at hSw); (obtain ⟨z0, z1, z2, zf⟩ := ref_cells ((hSw.block g hgy).trans hh.out); have y0 := below_cell hSw Q0.out; have y1 := below_cell hSw Q1.out; clear hSw); go_simp; (try with_reducible rfl); done)
    simp only [Act.put, List.setIfInBounds_toArray, List.set_cons_zero, List.set_cons_succ]
    refine wpAnyZ_take0 (i := 4) (oi := ⟨_, _, _, _, _, _⟩) (v := ?_) rfl (by decide +kernel) (fun _ _ _ h => h) (Or.inl ⟨by rfl, ?_⟩) (fun _ => hS) ?_
    rotate_left
    focus (intro w _; go_simp; (try with_reducible rfl); done)
    simp only [Act.put, List.setIfInBounds_toArray, List.set_cons_zero, List.set_cons_succ]
    refine wpAnyZ_take0 (i := 5) (oi := ⟨_, _, _, _, _, _⟩) (v := ?_) rfl (by decide +kernel) (fun _ _ _ h => h) (Or.inl ⟨by rfl, ?_⟩) (fun _ => hS) ?_
    rotate_left
    focus (intro w _; go_simp; (try with_reducible rfl); done)
    simp only [Act.put, List.setIfInBounds_toArray, List.set_cons_zero, List.set_cons_succ]
    refine wpAnyZ_take0 (i := 6) (oi := ⟨_, _, _, _, _, _⟩) (v := ?_) rfl (by decide +kernel) (fun _ _ _ h => h) (Or.inl ⟨by rfl, ?_⟩) (fun _ => hS) ?_
    rotate_left
    focus (intro w _; go_simp; (try with_reducible rfl); done)
    simp only [Act.put, List.setIfInBounds_toArray, List.set_cons_zero, List.set_cons_succ]
    refine wpAnyZ_take (i := 7) (oi := ⟨_, _, _, _, _, _⟩) (v := ?_) rfl (by decide +kernel) (fun _ _ _ h => h) (Or.inl ⟨by rfl, ?_⟩) hS ?_
    rotate_left
    focus (intro w hSw; (try dsimp only at hSw); (obtain ⟨z0, z1, z2, zf⟩ := ref_cells ((hSw.block g hgy).trans hh.out); have y0 := below_cell hSw Q0.out; have y1 := below_cell hSw Q1.out; clear hSw); go_simp; (try with_reducible rfl); done)
    simp only [Act.put, List.setIfInBounds_toArray, List.set_cons_zero, List.set_cons_succ]
    refine wpAnyZ_take0 (i := 8) (oi := ⟨_, _, _, _, _, _⟩) (v := ?_) rfl (by decide +kernel) (fun _ _ _ h => h) (Or.inl ⟨by rfl, ?_⟩) (fun _ => hS) ?_
    rotate_left
    focus (intro w _; go_simp; (try with_reducible rfl); done)
    simp only [Act.put, List.setIfInBounds_toArray, List.set_cons_zero, List.set_cons_succ]
    refine wpAnyZ_take (i := 9) (oi := ⟨_, _, _, _, _, _⟩) (v := ?_) rfl (by decide +kernel) (fun _ _ _ h => h) (Or.inl ⟨by rfl, ?_⟩) hS ?_
    rotate_left
    focus (intro w hSw; (try dsimp only at hSw); (obtain ⟨z0, z1, z2, zf⟩ := ref_cells ((hSw.block g hgy).trans hh.out); have y0 := below_cell hSw Q0.out; have y1 := below_cell hSw Q1.out; clear hSw); go_simp; (try with_reducible rfl); done)
    simp only [Act.put, List.setIfInBounds_toArray, List.set_cons_zero, List.set_cons_succ]
    obtain ⟨u, hu⟩ : ∃ u, Hd (y.drew = u) := ⟨_, ⟨rfl⟩⟩
    have hXu : u.heap[w.heap.size]? = some (.cells #[.int .i64 0, .int .i64 0] 58 (0, 0)) := hu.out ▸ hX.out
    have hbu : Hd (Below y.heap.size y u) := ⟨hu.out ▸ below_drew y⟩
    rw [hu.out]
    rw [hu.out] at hS
    obtain ⟨z0, z1⟩ := box_load hXu
    have f0 := frozen_of_row u w.heap.size 0 _ _ hXu
    have f1 := frozen_of_row u w.heap.size 1 _ _ hXu
    have XU := Hd.mk hXu
    clear hXu hu
    refine wpAnyZ_one (i := 10) rfl (by decide +kernel) (fun K hKK => ?_)
    go_simp
    refine hKK.out _ _ (fun hz => absurd hz (by decide +kernel)) ?_
    clear hKK
    refine wpAnyZ_take0 (i := 11) (oi := ⟨_, _, _, _, _, _⟩) (v := ?_) rfl (by decide +kernel) (fun _ _ _ h => h) (Or.inl ⟨by rfl, ?_⟩) (fun hz => absurd hz (by decide +kernel)) ?_
    rotate_left
    focus (intro w _; go_simp; (try with_reducible rfl); done)
    simp only [Act.put, List.setIfInBounds_toArray, List.set_cons_zero, List.set_cons_succ]
    refine wpAnyZ_done (by decide +kernel) ?_
    have hx1 := heap_setCell_same u w.heap.size 0 _ 58 (.int .i64 px) XU.out
    have hx2 := heap_setCell_same _ w.heap.size 1 _ 58 (.int .i64 py) hx1
    have TB' : Tch (fun q => w.heap.size ≤ q) y ((u.setCell ⟨w.heap.size, 0, none⟩ (.int .i64 px)).setCell ⟨w.heap.size, 1, none⟩ (.int .i64 py)) :=
      (Tch.of_below hbu.out).trans ((Tch.setCell _ u w.heap.size 0 (.int .i64 px) (.inl (.inl (Nat.le_refl _)))).trans (Tch.setCell _ _ w.heap.size 1 (.int .i64 py) (.inl (.inl (.inl (Nat.le_refl _))))))
    have HX := Hd.mk hx2
    have HF := Hd.mk (RefAt.to (RefAt.keep ⟨_, _, _, _, _, _, NN.out⟩ TB' (fun q e e' => by have := H0.out.lt q e; omega)) (ref_res TT.out TB'))
    clear hx1 hx2 TB' z0 z1 f0 f1 hS
    go_wp2
    (try simp only [Exit.inBlock, Exit.then])
    refine bodyPost_ret (v := .tuple #[plV (px, py), .int .i64 0]) ?_ rfl ⟨rfl, HF.out⟩
    rw [results_cell_tmp rfl]
    simp [asAddr, Result.andThen]
    rw [run_loadVar_row _ _ 58 58 #[.int .i64 px, .int .i64 py] (0, 0) _ HX.out Try.underlying58 rfl (by kernel_rfl)]
    rfl
set_option maxRecDepth 100000 in
set_option maxHeartbeats 1000000 in
theorem rnew82 (w : World) : Calls Try.prog 82 #[] w fun e w' => ∃ g F, e = .returned (.pointer (some ⟨g, 0, none⟩)) ∧ RefAt w' g F NS.new.rn ∧ (∀ k, F k → w.heap.size ≤ k) ∧ Below w.heap.size w w' := by
  go_enter Try.func82, Try.ntmps82
  go_wp2
  go_ret
  refine ⟨w.heap.size, fun k => w.heap.size ≤ k ∧ k < (w.alloc (.cells #[.slice none 0 0, .int .i64 (-1), .slice none 0 0] 175)).heap.size, rfl, ?_, fun k e => e.1, below_alloc w _⟩
  exact ref_parts (r := NS.new.rn) (heap_alloc_new w _) (Nat.le_refl _) (OwnP.nil_ _ (w.heap.size) none) (OwnP.nil_ _ (w.heap.size) none) (Nat.le_refl _) (Nat.le_refl _) (fun k e => by simp [ownBlk] at e)
set_option maxRecDepth 100000 in
set_option maxHeartbeats 1000000 in
theorem rmay166 (p : Pl) (w : World) : Calls Try.prog 166 #[plV p] w fun e w' => e = .returned (.bool (mayQ p)) ∧ Below w.heap.size w w' := by
  obtain ⟨x, y⟩ := p
  unfold plV
  have hA := Hd.mk (below_alloc w (.cells #[.int .i64 x, .int .i64 y] 58))
  have hc : (¬ 0 ≤ x) ∨ (0 ≤ x ∧ ¬ x < 1000) ∨ (0 ≤ x ∧ x < 1000 ∧ ¬ 0 ≤ y) ∨ (0 ≤ x ∧ x < 1000 ∧ 0 ≤ y ∧ ¬ y < 2000) ∨ (0 ≤ x ∧ x < 1000 ∧ 0 ≤ y ∧ y < 2000) := by omega
  rcases hc with h1 | ⟨h1, h2⟩ | ⟨h1, h2, h3⟩ | ⟨h1, h2, h3, h4⟩ | ⟨h1, h2, h3, h4⟩
  · have hm : Hd (mayQ (x, y) = false) := ⟨by simp [mayQ, mayP]; omega⟩
    rw [hm.out]
    go_enter Try.func166, Try.ntmps166
    go_wp2
    go_ret
    exact ⟨rfl, hA.out⟩
  · have hm : Hd (mayQ (x, y) = false) := ⟨by simp [mayQ, mayP]; omega⟩
    rw [hm.out]
    go_enter Try.func166, Try.ntmps166
    go_wp2
    go_ret
    exact ⟨rfl, hA.out⟩
  · have hm : Hd (mayQ (x, y) = false) := ⟨by simp [mayQ, mayP]; omega⟩
    rw [hm.out]
    go_enter Try.func166, Try.ntmps166
    go_wp2
    go_ret
    exact ⟨rfl, hA.out⟩
  · have hm : Hd (mayQ (x, y) = false) := ⟨by simp [mayQ, mayP]; omega⟩
    rw [hm.out]
    go_enter Try.func166, Try.ntmps166
    go_wp2
    go_ret
    exact ⟨rfl, hA.out⟩
  · have hm : Hd (mayQ (x, y) = true) := ⟨by simp [mayQ, mayP]; omega⟩
    rw [hm.out]
    go_enter Try.func166, Try.ntmps166
    go_wp2
    go_ret
    exact ⟨rfl, hA.out⟩
set_option maxRecDepth 100000 in
set_option maxHeartbeats 1000000 in
theorem place130 (p : Pl) (n : Int) (w : World) : Calls Try.prog 130 #[plV p, .int .i64 n, plV p, .int .i64 n] w fun e w' => e = .returned (.bool true) ∧ Below w.heap.size w w' := by
  obtain ⟨x, y⟩ := p
  unfold plV
  have hA := Hd.mk (below_alloc w (.cells #[.int .i64 x, .int .i64 y] 58))
  have hB := Hd.mk (hA.out.trans ((below_alloc (w.alloc (.cells #[.int .i64 x, .int .i64 y] 58)) (.cells #[.int .i64 x, .int .i64 y] 58)).mono (by simp)))
  go_enter Try.func130, Try.ntmps130
  go_wp2
  go_ret
  exact ⟨rfl, hB.out⟩
theorem pc_set1 {l : List Pl} {i : Nat} {p : Pl} (h : l[i]? = some p) (b : Int) : (pc l).set (i * 2 + 1) (.int .i64 b) = pc (l.set i (p.1, b)) := by
  induction l generalizing i with
  | nil => simp at h
  | cons q r ih =>
    cases i with
    | zero => simp at h; subst h; rfl
    | succ i =>
      rw [show (i + 1) * 2 + 1 = i * 2 + 1 + 1 + 1 by omega]
      simp only [pc, List.set_cons_succ]
      rw [ih (by simpa using h)]
/-- One cell of an own slice of places. -/
theorem OwnP.setLine {w : World} {base n c i G off : Nat} {l : List Pl} {p : Pl} (h : OwnP w base (some ⟨G, off, none⟩) n c l) (hi : l[i]? = some p) (b : Int) :
    OwnP (w.setCell ⟨G, off + i * 2 + 1, none⟩ (.int .i64 b)) base (some ⟨G, off, none⟩) n c (l.set i (p.1, b)) := by
  have hil : i < n := by have := (List.getElem?_eq_some_iff.1 hi).1; have := OwnP.len h; omega
  have h2 := Own.set_ h (j := i * 2 + 1) (by omega) rfl (.int .i64 b)
  rw [pc_set1 hi, add_plain, ← Nat.add_assoc] at h2
  exact h2
set_option maxRecDepth 100000 in
set_option maxHeartbeats 1000000 in
theorem rmove135 (g : Nat) (F : Nat → Prop) (r : RN) (x : Int) (w : World) (h : RefAt w g F r) (hi : RI r) :
    Calls Try.prog 135 #[.pointer (some ⟨g, 0, none⟩), .int .i64 x] w fun e w' => e = .returned (.int .i64 ((r.move x).1 : Int)) ∧ RefTo w w' g F (r.move x).2 := by
  obtain ⟨A1, n1, c1, A2, n2, c2, h⟩ := h
  have hmix := try_mixed
  have H := Hd.mk h
  have HN := Hd.mk (RefTo.of_below ⟨_, _, _, _, _, _, h⟩ (Below.refl _ _))
  obtain ⟨a0, a1, a2, af⟩ := ref_cells h.heap
  by_cases hneg : r.at' < 0
  · have hr : Hd (r.move x = (3, r)) := ⟨if_pos hneg⟩
    rw [hr.out]
    clear h hi
    go_enter Try.func135, Try.ntmps135
    go_wp2
    go_ret
    exact ⟨rfl, HN.out⟩
  by_cases hx0 : x < 0
  · have hr : Hd (r.move x = (1, r)) := ⟨by unfold RN.move; rw [if_neg hneg, if_pos (.inl hx0)]⟩
    rw [hr.out]
    clear h hi
    go_enter Try.func135, Try.ntmps135
    go_wp2
    go_ret
    exact ⟨rfl, HN.out⟩
  by_cases hx1 : 2000 ≤ x
  · have hr : Hd (r.move x = (1, r)) := ⟨by unfold RN.move; rw [if_neg hneg, if_pos (.inr hx1)]⟩
    rw [hr.out]
    clear h hi
    go_enter Try.func135, Try.ntmps135
    go_wp2
    go_ret
    exact ⟨rfl, HN.out⟩
  obtain ⟨k, hk⟩ := Int.eq_ofNat_of_zero_le (show 0 ≤ r.at' by omega)
  obtain ⟨p, hp⟩ : ∃ p, Hd (r.get r.at' = p) := ⟨_, ⟨rfl⟩⟩
  have hr : Hd (r.move x = (0, { r with row := r.row.set k (p.1, x) })) := ⟨by unfold RN.move; rw [if_neg hneg, if_neg (by omega), hp.out, hk]; rfl⟩
  have hg := rn_get_some hi hk
  rw [hp.out] at hg
  obtain ⟨G, off, rfl, q0, q1⟩ := OwnP.get h.o1 hg
  have hkn : (k : Int) < (n1 : Int) := by have := hi.hi; have := OwnP.len h.o1; omega
  have hk0 : (0 : Int) ≤ (k : Int) := by omega
  have hfz := OwnP.unfrozen h.o1 (by omega) (off + k * 2 + 1)
  have hblk : Hd (ownBlk (some ⟨G, off, none⟩) c1 = some G) := ⟨by have := (Own.le h.o1).1; have h1 : c1 ≠ 0 := (by omega); simp [ownBlk, h1]⟩
  rw [hr.out]
  rw [hk] at a1
  have hh : Hd (w.heap[g]? = some (.cells #[.slice (some ⟨G, off, none⟩) n1 c1, .int .i64 (k : Int), .slice A2 n2 c2] 175 (0, 0))) := ⟨by rw [h.heap, hk]⟩
  have hG := Hd.mk hg
  have hat : Hd (some (Obj.cells #[.slice (some ⟨G, off, none⟩) n1 c1, .int .i64 (k : Int), .slice A2 n2 c2] 175 (0, 0)) = some (.cells #[.slice (some ⟨G, off, none⟩) n1 c1, .int .i64 r.at', .slice A2 n2 c2] 175 (0, 0))) := ⟨by rw [hk]⟩
  clear h hi hk hg q0
  go_enter Try.func135, Try.ntmps135
  go_wp2_with fail
  refine region_zone 12 [false, false, false, false, false, false, false, false, false, false, false, false] (by kernel_rfl) (by kernel_rfl) hmix (fun w' => w'.heap[g]? = some (.cells #[.slice (some ⟨G, off, none⟩) n1 c1, .int .i64 (k : Int), .slice A2 n2 c2] 175 (0, 0))) [11] ?_ (fun hS => ?_)
  · exact hh.out
  refine wpAnyZ_take0 (i := 0) (oi := ⟨_, _, _, _, _, _⟩) (v := ?_) rfl (by decide +kernel) (fun _ _ _ h => h) (Or.inl ⟨by rfl, ?_⟩) (fun _ => hS) ?_
  rotate_left
  focus (intro w _; go_simp; (try with_reducible rfl); done)
  simp only [Act.put, List.setIfInBounds_toArray, List.set_cons_zero, List.set_cons_succ]
  refine wpAnyZ_take0 (i := 1) (oi := ⟨_, _, _, _, _, _⟩) (v := ?_) rfl (by decide +kernel) (fun _ _ _ h => h) (Or.inl ⟨by rfl, ?_⟩) (fun _ => hS) ?_
  rotate_left
  focus (intro w _; go_simp; (try with_reducible rfl); done)
  simp only [Act.put, List.setIfInBounds_toArray, List.set_cons_zero, List.set_cons_succ]
  refine wpAnyZ_take0 (i := 2) (oi := ⟨_, _, _, _, _, _⟩) (v := ?_) rfl (by decide +kernel) (fun _ _ _ h => h) (Or.inl ⟨by rfl, ?_⟩) (fun _ => hS) ?_
  rotate_left
  focus (intro w _; go_simp; (try with_reducible rfl); done)
  simp only [Act.put, List.setIfInBounds_toArray, List.set_cons_zero, List.set_cons_succ]
  refine wpAnyZ_take (i := 3) (oi := ⟨_, _, _, _, _, _⟩) (v := ?_) rfl (by decide +kernel) (fun _ _ _ h => h) (Or.inl ⟨by rfl, ?_⟩) hS ?_
  rotate_left
  focus (intro w hSw; (try dsimp only at hSw); (obtain ⟨z0, z1, z2, zf⟩ := ref_cells hSw; clear hSw); go_simp; (try with_reducible rfl); done)
  simp only [Act.put, List.setIfInBounds_toArray, List.set_cons_zero, List.set_cons_succ]
  refine wpAnyZ_take0 (i := 4) (oi := ⟨_, _, _, _, _, _⟩) (v := ?_) rfl (by decide +kernel) (fun _ _ _ h => h) (Or.inl ⟨by rfl, ?_⟩) (fun _ => hS) ?_
  rotate_left
  focus (intro w _; go_simp; (try with_reducible rfl); done)
  simp only [Act.put, List.setIfInBounds_toArray, List.set_cons_zero, List.set_cons_succ]
  refine wpAnyZ_take0 (i := 5) (oi := ⟨_, _, _, _, _, _⟩) (v := ?_) rfl (by decide +kernel) (fun _ _ _ h => h) (Or.inl ⟨by rfl, ?_⟩) (fun _ => hS) ?_
  rotate_left
  focus (intro w _; go_simp; (try with_reducible rfl); done)
  simp only [Act.put, List.setIfInBounds_toArray, List.set_cons_zero, List.set_cons_succ]
  refine wpAnyZ_take0 (i := 6) (oi := ⟨_, _, _, _, _, _⟩) (v := ?_) rfl (by decide +kernel) (fun _ _ _ h => h) (Or.inl ⟨by rfl, ?_⟩) (fun _ => hS) ?_
  rotate_left
  focus (intro w _; go_simp; (try with_reducible rfl); done)
  simp only [Act.put, List.setIfInBounds_toArray, List.set_cons_zero, List.set_cons_succ]
  refine wpAnyZ_take (i := 7) (oi := ⟨_, _, _, _, _, _⟩) (v := ?_) rfl (by decide +kernel) (fun _ _ _ h => h) (Or.inl ⟨by rfl, ?_⟩) hS ?_
  rotate_left
  focus (intro w hSw; (try dsimp only at hSw); (obtain ⟨z0, z1, z2, zf⟩ := ref_cells hSw; clear hSw); go_simp; (try with_reducible rfl); done)
  simp only [Act.put, List.setIfInBounds_toArray, List.set_cons_zero, List.set_cons_succ]
  refine wpAnyZ_take0 (i := 8) (oi := ⟨_, _, _, _, _, _⟩) (v := ?_) rfl (by decide +kernel) (fun _ _ _ h => h) (Or.inl ⟨by rfl, ?_⟩) (fun _ => hS) ?_
  rotate_left
  focus (intro w _; go_simp; (try with_reducible rfl); done)
  simp only [Act.put, List.setIfInBounds_toArray, List.set_cons_zero, List.set_cons_succ]
  refine wpAnyZ_take0 (i := 9) (oi := ⟨_, _, _, _, _, _⟩) (v := ?_) rfl (by decide +kernel) (fun _ _ _ h => h) (Or.inl ⟨by rfl, ?_⟩) (fun _ => hS) ?_
  rotate_left
  focus (intro w _; go_simp; (try with_reducible rfl); done)
  simp only [Act.put, List.setIfInBounds_toArray, List.set_cons_zero, List.set_cons_succ]
  refine wpAnyZ_take0 (i := 10) (oi := ⟨_, _, _, _, _, _⟩) (v := ?_) rfl (by decide +kernel) (fun _ _ _ h => h) (Or.inl ⟨by rfl, ?_⟩) (fun _ => hS) ?_
  rotate_left
  focus (intro w _; go_simp; (try with_reducible rfl); done)
  simp only [Act.put, List.setIfInBounds_toArray, List.set_cons_zero, List.set_cons_succ]
  refine wpAnyZ_one (i := 11) rfl (by decide +kernel) (fun K hKK => ?_)
  go_simp
  refine hKK.out _ _ (fun hz => absurd hz (by decide +kernel)) ?_
  clear hKK
  refine wpAnyZ_done (by decide +kernel) ?_
  have hne : G ≠ g := H.out.ne1 G hblk.out
  have T : Tch F w (w.drew.setCell ⟨G, off + k * 2 + 1, none⟩ (.int .i64 x)) := (Tch.of_below (below_drew w)).trans (Tch.setCell _ w.drew G _ _ (.inl (.inl (H.out.f1 G hblk.out))))
  have hx' : (w.drew.setCell ⟨G, off + k * 2 + 1, none⟩ (.int .i64 x)).heap[g]? = _ := (heap_setCell_other w.drew ⟨G, off + k * 2 + 1, none⟩ g _ (Ne.symm hne)).trans hh.out
  have HF := Hd.mk (RefC.upd (r' := { r with row := r.row.set k (p.1, x) }) H.out (by rw [hx']; exact hat.out) T (OwnP.setLine H.out.o1.drew hG.out x) (Own.keep H.out.o2 fun q e _ _ => heap_setCell_other w.drew ⟨G, _, none⟩ q _ (fun e' => H.out.d12 G hblk.out (by rw [show q = G from e'] at e; exact e))) (fun _ e => .inl e) (fun _ e => .inl e) H.out.d12)
  clear T hx' hS
  go_wp2
  go_ret
  exact ⟨rfl, HF.out⟩
end Go.Proofs.Ytkgdcglnkodgnaa
namespace Go.Proofs.Ytkgdcglnkodgnaa
open Go.RowKit
theorem RN.visit_new {r : RN} {p : Pl} (hm : mayQ p = true) (hn : ¬ (0 ≤ r.at' ∧ r.get r.at' = p)) :
    r.visit p = (0, ⟨if 33 < (r.row.take (r.at' + 1).toNat ++ [p]).length then (r.row.take (r.at' + 1).toNat ++ [p]).drop 1 else r.row.take (r.at' + 1).toNat ++ [p],
      ((if 33 < (r.row.take (r.at' + 1).toNat ++ [p]).length then (r.row.take (r.at' + 1).toNat ++ [p]).drop 1 else r.row.take (r.at' + 1).toNat ++ [p]).length : Int) - 1, r.m⟩) := by
  unfold RN.visit
  rw [if_neg (by simp [hm]), if_neg hn]
set_option maxRecDepth 100000 in
set_option maxHeartbeats 4000000 in
theorem rvisit137 (g : Nat) (F : Nat → Prop) (r : RN) (p : Pl) (w : World) (h : RefAt w g F r) (hi : RI r) :
    Calls Try.prog 137 #[.pointer (some ⟨g, 0, none⟩), plV p] w fun e w' => e = .returned (.int .i64 ((r.visit p).1 : Int)) ∧ RefTo w w' g F (r.visit p).2 := by
  obtain ⟨A1, n1, c1, A2, n2, c2, h⟩ := h
  obtain ⟨px, py⟩ := p
  unfold plV
  have hmix := try_mixed
  have hA := Hd.mk (below_alloc w (.cells #[.int .i64 px, .int .i64 py] 58))
  have hbx := Hd.mk (heap_alloc_new w (.cells #[.int .i64 px, .int .i64 py] 58))
  have H := Hd.mk h
  have HI := Hd.mk hi
  obtain ⟨b0, b1⟩ := box_load hbx.out
  clear h hi
  go_enter Try.func137, Try.ntmps137
  go_wp2_with fail
  clear b0 b1
  obtain ⟨w1, hw1⟩ : ∃ u, Hd (w.alloc (.cells #[.int .i64 px, .int .i64 py] 58) = u) := ⟨_, ⟨rfl⟩⟩
  rw [hw1.out] at hA hbx ⊢
  clear hw1
  refine (rmay166 (px, py) w1).mono ?_
  rintro e w2 ⟨rfl, b2⟩
  have hb2 := Hd.mk (hA.out.trans (b2.mono hA.out.size))
  have hbx2 := Hd.mk ((b2.block w.heap.size (Array.getElem?_eq_some_iff.1 hbx.out).1).trans hbx.out)
  clear b2 hbx hA
  by_cases hmay : mayQ (px, py) = false
  · have hr : Hd (r.visit (px, py) = (1, r)) := ⟨if_pos hmay⟩
    rw [hmay]
    go_wp2
    go_ret
    rw [hr.out]
    exact ⟨rfl, RefTo.of_below ⟨_, _, _, _, _, _, H.out⟩ hb2.out⟩
  have hmt : mayQ (px, py) = true := by simpa using hmay
  rw [hmt]
  have HM := Hd.mk hmt
  clear hmay hmt
  obtain ⟨v, hv⟩ : ∃ v, Hd (r.at' = v) := ⟨_, ⟨rfl⟩⟩
  have hh : Hd (w2.heap[g]? = some (.cells #[.slice A1 n1 c1, .int .i64 v, .slice A2 n2 c2] 175 (0, 0))) := ⟨(hb2.out.block g H.out.glt).trans (by rw [H.out.heap, hv.out])⟩
  go_wp2_with fail
  by_cases hsame : 0 ≤ v
  · obtain ⟨k, rfl⟩ := Int.eq_ofNat_of_zero_le hsame
    obtain ⟨⟨qx, qy⟩, hq⟩ : ∃ q, Hd (r.get r.at' = q) := ⟨_, ⟨rfl⟩⟩
    have hg := rn_get_some HI.out hv.out
    rw [hq.out] at hg
    obtain ⟨ad, rfl, q0, q1⟩ := RdP.get' (Rd.below (Own.rd H.out.o1) hb2.out) hg
    have hkn : (k : Int) < (n1 : Int) := by have := HI.out.hi; have := OwnP.len H.out.o1; have := hv.out; omega
    have hk0 : (0 : Int) ≤ (k : Int) := by omega
    have hge : decide ((k : Int) ≥ 0) = true := by simp
    have Q0 := Hd.mk q0
    have Q1 := Hd.mk q1
    clear q0 q1 hg hsame
    refine region_zone 19 [false, false, false, false, false, false, false, false, false, false, false, false, false, false, false, false, false, false, false] (by kernel_rfl) (by kernel_rfl) hmix (fun w' => Below w2.heap.size w2 w') [] ?_ (fun hS => ?_)
    · exact below_drew w2
    refine wpAnyZ_take0 (i := 0) (oi := ⟨_, _, _, _, _, _⟩) (v := ?_) rfl (by decide +kernel) (fun _ _ _ h => h) (Or.inl ⟨by rfl, ?_⟩) (fun _ => hS) ?_
    rotate_left
    focus (intro w _; go_simp; (try with_reducible rfl); done)
    simp only [Act.put, List.setIfInBounds_toArray, List.set_cons_zero, List.set_cons_succ]
    refine wpAnyZ_take0 (i := 1) (oi := ⟨_, _, _, _, _, _⟩) (v := ?_) rfl (by decide +kernel) (fun _ _ _ h => h) (Or.inl ⟨by rfl, ?_⟩) (fun _ => hS) ?_
    rotate_left
    focus (intro w _; go_simp; (try with_reducible rfl); done)
    simp only [Act.put, List.setIfInBounds_toArray, List.set_cons_zero, List.set_cons_succ]
    refine wpAnyZ_take0 (i := 2) (oi := ⟨_, _, _, _, _, _⟩) (v := ?_) rfl (by decide +kernel) (fun _ _ _ h => h) (Or.inl ⟨by rfl, ?_⟩) (fun _ => hS) ?_
    rotate_left
    focus (intro w _; go_simp; (try with_reducible rfl); done)
    simp only [Act.put, List.setIfInBounds_toArray, List.set_cons_zero, List.set_cons_succ]
    refine wpAnyZ_take (i := 3) (oi := ⟨_, _, _, _, _, _⟩) (v := ?_) rfl (by decide +kernel) (fun _ _ _ h => h) (Or.inl ⟨by rfl, ?_⟩) hS ?_
    rotate_left
    focus (intro w hSw; (try dsimp only at hSw); (obtain ⟨z0, z1, z2, zf⟩ := ref_cells ((hSw.block g (Array.getElem?_eq_some_iff.1 hh.out).1).trans hh.out); have y0 := below_cell hSw Q0.out; have y1 := below_cell hSw Q1.out; have x0 := box_load ((hSw.block _ (Array.getElem?_eq_some_iff.1 hbx2.out).1).trans hbx2.out); obtain ⟨x0, x1⟩ := x0; clear hSw); go_simp; (try with_reducible rfl); done)
    simp only [Act.put, List.setIfInBounds_toArray, List.set_cons_zero, List.set_cons_succ]
    refine wpAnyZ_take0 (i := 4) (oi := ⟨_, _, _, _, _, _⟩) (v := ?_) rfl (by decide +kernel) (fun _ _ _ h => h) (Or.inl ⟨by rfl, ?_⟩) (fun _ => hS) ?_
    rotate_left
    focus (intro w _; go_simp; (try with_reducible rfl); done)
    simp only [Act.put, List.setIfInBounds_toArray, List.set_cons_zero, List.set_cons_succ]
    refine wpAnyZ_take0 (i := 5) (oi := ⟨_, _, _, _, _, _⟩) (v := ?_) rfl (by decide +kernel) (fun _ _ _ h => h) (Or.inl ⟨by rfl, ?_⟩) (fun _ => hS) ?_
    rotate_left
    focus (intro w _; go_simp; (try with_reducible rfl); done)
    simp only [Act.put, List.setIfInBounds_toArray, List.set_cons_zero, List.set_cons_succ]
    refine wpAnyZ_take0 (i := 6) (oi := ⟨_, _, _, _, _, _⟩) (v := ?_) rfl (by decide +kernel) (fun _ _ _ h => h) (Or.inl ⟨by rfl, ?_⟩) (fun _ => hS) ?_
    rotate_left
    focus (intro w _; go_simp; (try with_reducible rfl); done)
    simp only [Act.put, List.setIfInBounds_toArray, List.set_cons_zero, List.set_cons_succ]
    refine wpAnyZ_take0 (i := 7) (oi := ⟨_, _, _, _, _, _⟩) (v := ?_) rfl (by decide +kernel) (fun _ _ _ h => h) (Or.inl ⟨by rfl, ?_⟩) (fun _ => hS) ?_
    rotate_left
    focus (intro w _; go_simp; (try with_reducible rfl); done)
    simp only [Act.put, List.setIfInBounds_toArray, List.set_cons_zero, List.set_cons_succ]
    refine wpAnyZ_take0 (i := 8) (oi := ⟨_, _, _, _, _, _⟩) (v := ?_) rfl (by decide +kernel) (fun _ _ _ h => h) (Or.inl ⟨by rfl, ?_⟩) (fun _ => hS) ?_
    rotate_left
    focus (intro w _; go_simp; (try with_reducible rfl); done)
    simp only [Act.put, List.setIfInBounds_toArray, List.set_cons_zero, List.set_cons_succ]
    refine wpAnyZ_take (i := 9) (oi := ⟨_, _, _, _, _, _⟩) (v := ?_) rfl (by decide +kernel) (fun _ _ _ h => h) (Or.inl ⟨by rfl, ?_⟩) hS ?_
    rotate_left
    focus (intro w hSw; (try dsimp only at hSw); (obtain ⟨z0, z1, z2, zf⟩ := ref_cells ((hSw.block g (Array.getElem?_eq_some_iff.1 hh.out).1).trans hh.out); have y0 := below_cell hSw Q0.out; have y1 := below_cell hSw Q1.out; have x0 := box_load ((hSw.block _ (Array.getElem?_eq_some_iff.1 hbx2.out).1).trans hbx2.out); obtain ⟨x0, x1⟩ := x0; clear hSw); go_simp; (try with_reducible rfl); done)
    simp only [Act.put, List.setIfInBounds_toArray, List.set_cons_zero, List.set_cons_succ]
    refine wpAnyZ_take0 (i := 10) (oi := ⟨_, _, _, _, _, _⟩) (v := ?_) rfl (by decide +kernel) (fun _ _ _ h => h) (Or.inl ⟨by rfl, ?_⟩) (fun _ => hS) ?_
    rotate_left
    focus (intro w _; go_simp; (try with_reducible rfl); done)
    simp only [Act.put, List.setIfInBounds_toArray, List.set_cons_zero, List.set_cons_succ]
    refine wpAnyZ_take0 (i := 11) (oi := ⟨_, _, _, _, _, _⟩) (v := ?_) rfl (by decide +kernel) (fun _ _ _ h => h) (Or.inl ⟨by rfl, ?_⟩) (fun _ => hS) ?_
    rotate_left
    focus (intro w _; go_simp; (try with_reducible rfl); done)
    simp only [Act.put, List.setIfInBounds_toArray, List.set_cons_zero, List.set_cons_succ]
    refine wpAnyZ_take0 (i := 12) (oi := ⟨_, _, _, _, _, _⟩) (v := ?_) rfl (by decide +kernel) (fun _ _ _ h => h) (Or.inl ⟨by rfl, ?_⟩) (fun _ => hS) ?_
    rotate_left
    focus (intro w _; go_simp; (try with_reducible rfl); done)
    simp only [Act.put, List.setIfInBounds_toArray, List.set_cons_zero, List.set_cons_succ]
    refine wpAnyZ_take (i := 13) (oi := ⟨_, _, _, _, _, _⟩) (v := ?_) rfl (by decide +kernel) (fun _ _ _ h => h) (Or.inl ⟨by rfl, ?_⟩) hS ?_
    rotate_left
    focus (intro w hSw; (try dsimp only at hSw); (obtain ⟨z0, z1, z2, zf⟩ := ref_cells ((hSw.block g (Array.getElem?_eq_some_iff.1 hh.out).1).trans hh.out); have y0 := below_cell hSw Q0.out; have y1 := below_cell hSw Q1.out; have x0 := box_load ((hSw.block _ (Array.getElem?_eq_some_iff.1 hbx2.out).1).trans hbx2.out); obtain ⟨x0, x1⟩ := x0; clear hSw); go_simp; (try with_reducible rfl); done)
    simp only [Act.put, List.setIfInBounds_toArray, List.set_cons_zero, List.set_cons_succ]
    refine wpAnyZ_take0 (i := 14) (oi := ⟨_, _, _, _, _, _⟩) (v := ?_) rfl (by decide +kernel) (fun _ _ _ h => h) (Or.inl ⟨by rfl, ?_⟩) (fun _ => hS) ?_
    rotate_left
    focus (intro w _; go_simp; (try with_reducible rfl); done)
    simp only [Act.put, List.setIfInBounds_toArray, List.set_cons_zero, List.set_cons_succ]
    refine wpAnyZ_take (i := 15) (oi := ⟨_, _, _, _, _, _⟩) (v := ?_) rfl (by decide +kernel) (fun _ _ _ h => h) (Or.inl ⟨by rfl, ?_⟩) hS ?_
    rotate_left
    focus (intro w hSw; (try dsimp only at hSw); (obtain ⟨z0, z1, z2, zf⟩ := ref_cells ((hSw.block g (Array.getElem?_eq_some_iff.1 hh.out).1).trans hh.out); have y0 := below_cell hSw Q0.out; have y1 := below_cell hSw Q1.out; have x0 := box_load ((hSw.block _ (Array.getElem?_eq_some_iff.1 hbx2.out).1).trans hbx2.out); obtain ⟨x0, x1⟩ := x0; clear hSw); go_simp; (try with_reducible rfl); done)
    simp only [Act.put, List.setIfInBounds_toArray, List.set_cons_zero, List.set_cons_succ]
    refine wpAnyZ_take (i := 16) (oi := ⟨_, _, _, _, _, _⟩) (v := ?_) rfl (by decide +kernel) (fun _ _ _ h => h) (Or.inl ⟨by rfl, ?_⟩) hS ?_
    rotate_left
    focus (intro w hSw; (try dsimp only at hSw); (obtain ⟨z0, z1, z2, zf⟩ := ref_cells ((hSw.block g (Array.getElem?_eq_some_iff.1 hh.out).1).trans hh.out); have y0 := below_cell hSw Q0.out; have y1 := below_cell hSw Q1.out; have x0 := box_load ((hSw.block _ (Array.getElem?_eq_some_iff.1 hbx2.out).1).trans hbx2.out); obtain ⟨x0, x1⟩ := x0; clear hSw); go_simp; (try with_reducible rfl); done)
    simp only [Act.put, List.setIfInBounds_toArray, List.set_cons_zero, List.set_cons_succ]
    refine wpAnyZ_one (i := 17) rfl (by decide +kernel) (fun K hKK => ?_)
    go_simp
    refine (same106 (qx, qy) (px, py) _).mono ?_
    rintro e w3 ⟨rfl, b3⟩
    have S3 := (below_drew w2).trans b3
    clear hS
    have hS := S3
    refine hKK.out _ _ (fun _ => hS) ?_
    clear hKK
    refine wpAnyZ_take0 (i := 18) (oi := ⟨_, _, _, _, _, _⟩) (v := ?_) rfl (by decide +kernel) (fun _ _ _ h => h) (Or.inl ⟨by rfl, ?_⟩) (fun _ => hS) ?_
    rotate_left
    focus (intro w _; go_simp; (try with_reducible rfl); done)
    simp only [Act.put, List.setIfInBounds_toArray, List.set_cons_zero, List.set_cons_succ]
    refine wpAnyZ_done (by decide +kernel) ?_
    have hb3 := Hd.mk (hb2.out.trans (S3.mono hb2.out.size))
    have hbx3 := Hd.mk ((S3.block _ (Array.getElem?_eq_some_iff.1 hbx2.out).1).trans hbx2.out)
    have hy3 := Hd.mk ((S3.block g (Array.getElem?_eq_some_iff.1 hh.out).1).trans hh.out)
    clear hS S3 b3
    by_cases hpq : (qx, qy) = (px, py)
    · have hr : Hd (r.visit (px, py) = (0, r)) := ⟨by
        unfold RN.visit
        rw [if_neg (by simp [HM.out]), if_pos ⟨by rw [hv.out]; exact hk0, by rw [hq.out]; exact hpq⟩]⟩
      have hd : (decide (qx = px) && decide (qy = py)) = true := by cases hdd : (decide (qx = px) && decide (qy = py)) <;> simp_all
      simp only [hd]
      go_wp2
      go_ret
      rw [hr.out]
      exact ⟨rfl, RefTo.of_below ⟨_, _, _, _, _, _, H.out⟩ hb3.out⟩
    · have hvis0 := Hd.mk (RN.visit_new (r := r) (p := (px, py)) HM.out (fun e => hpq (by rw [← hq.out]; exact e.2)))
      have hd : (decide (qx = px) && decide (qy = py)) = false := by cases hdd : (decide (qx = px) && decide (qy = py)) <;> simp_all
      obtain ⟨kk, hkk⟩ : ∃ kk : Nat, (k : Int) = (kk : Int) - 1 := ⟨k + 1, by omega⟩
      have hvis : Hd (r.visit (px, py) = _) := ⟨hvis0.out⟩
      rw [show (r.at' + 1).toNat = kk by have := hv.out; omega] at hvis
      have hh3 := hy3
      rw [hkk] at hh3 hv
      simp only [hd]
      clear hpq hd hvis0 hy3 hkk hkn hk0 Q0 Q1 hq hge hh hbx2
      obtain ⟨u3, hu3⟩ : ∃ u, u = w3 := ⟨_, rfl⟩
      subst hu3
      generalize (some ad) = A1 at *
      go_wp2_with fail
      have hkn3 : kk ≤ n1 := by have := HI.out.hi; have := OwnP.len H.out.o1; have := hv.out; omega
      have hl100 : n1 ≤ 100 := by have := HI.out.len; have := OwnP.len H.out.o1; omega
      have hc3 : n1 ≤ c1 := (Own.le H.out.o1).1
      have hkc : (kk : Int) ≤ (c1 : Int) := by omega
      have hkk0 : (0 : Int) ≤ (kk : Int) := by omega
      have hbd : (kk : Int) ≤ 1000 := by omega
      have hwk : IntKind.i64.wrap (kk : Int) = (kk : Int) := IntWalk.i64_in _ (by omega)
      have R1 := Hd.mk (OwnP.takeRd (Own.below H.out.o1 hb3.out) hkn3)
      have hg3 : Hd (g < u3.heap.size) := ⟨(Array.getElem?_eq_some_iff.1 hh3.out).1⟩
      have hg3p := hg3.out
      refine region_zone 18 [false, false, false, false, false, false, false, false, false, false, false, false, false, false, false, false, false, false] (by kernel_rfl) (by kernel_rfl) hmix (fun w' => Below u3.heap.size u3 w') [17] ?_ (fun hS => ?_)
      · exact below_drew u3
      refine wpAnyZ_take0 (i := 0) (oi := ⟨_, _, _, _, _, _⟩) (v := ?_) rfl (by decide +kernel) (fun _ _ _ h => h) (Or.inl ⟨by rfl, ?_⟩) (fun _ => hS) ?_
      rotate_left
      focus (intro w _; go_simp; (try with_reducible rfl); done)
      simp only [Act.put, List.setIfInBounds_toArray, List.set_cons_zero, List.set_cons_succ]
      refine wpAnyZ_take0 (i := 1) (oi := ⟨_, _, _, _, _, _⟩) (v := ?_) rfl (by decide +kernel) (fun _ _ _ h => h) (Or.inl ⟨by rfl, ?_⟩) (fun _ => hS) ?_
      rotate_left
      focus (intro w _; go_simp; (try with_reducible rfl); done)
      simp only [Act.put, List.setIfInBounds_toArray, List.set_cons_zero, List.set_cons_succ]
      refine wpAnyZ_take0 (i := 2) (oi := ⟨_, _, _, _, _, _⟩) (v := ?_) rfl (by decide +kernel) (fun _ _ _ h => h) (Or.inl ⟨by rfl, ?_⟩) (fun _ => hS) ?_
      rotate_left
      focus (intro w _; go_simp; (try with_reducible rfl); done)
      simp only [Act.put, List.setIfInBounds_toArray, List.set_cons_zero, List.set_cons_succ]
      refine wpAnyZ_take0 (i := 3) (oi := ⟨_, _, _, _, _, _⟩) (v := ?_) rfl (by decide +kernel) (fun _ _ _ h => h) (Or.inl ⟨by rfl, ?_⟩) (fun _ => hS) ?_
      rotate_left
      focus (intro w _; go_simp; (try with_reducible rfl); done)
      simp only [Act.put, List.setIfInBounds_toArray, List.set_cons_zero, List.set_cons_succ]
      refine wpAnyZ_take (i := 4) (oi := ⟨_, _, _, _, _, _⟩) (v := ?_) rfl (by decide +kernel) (fun _ _ _ h => h) (Or.inl ⟨by rfl, ?_⟩) hS ?_
      rotate_left
      focus (intro w hSw; (try dsimp only at hSw); (obtain ⟨z0, z1, z2, zf⟩ := ref_cells ((hSw.block g hg3p).trans hh3.out); clear hSw); go_simp; (try with_reducible rfl); done)
      simp only [Act.put, List.setIfInBounds_toArray, List.set_cons_zero, List.set_cons_succ]
      refine wpAnyZ_take0 (i := 5) (oi := ⟨_, _, _, _, _, _⟩) (v := ?_) rfl (by decide +kernel) (fun _ _ _ h => h) (Or.inl ⟨by rfl, ?_⟩) (fun _ => hS) ?_
      rotate_left
      focus (intro w _; go_simp; (try with_reducible rfl); done)
      simp only [Act.put, List.setIfInBounds_toArray, List.set_cons_zero, List.set_cons_succ]
      refine wpAnyZ_take0 (i := 6) (oi := ⟨_, _, _, _, _, _⟩) (v := ?_) rfl (by decide +kernel) (fun _ _ _ h => h) (Or.inl ⟨by rfl, ?_⟩) (fun _ => hS) ?_
      rotate_left
      focus (intro w _; go_simp; (try with_reducible rfl); done)
      simp only [Act.put, List.setIfInBounds_toArray, List.set_cons_zero, List.set_cons_succ]
      refine wpAnyZ_take0 (i := 7) (oi := ⟨_, _, _, _, _, _⟩) (v := ?_) rfl (by decide +kernel) (fun _ _ _ h => h) (Or.inl ⟨by rfl, ?_⟩) (fun _ => hS) ?_
      rotate_left
      focus (intro w _; go_simp; (try with_reducible rfl); done)
      simp only [Act.put, List.setIfInBounds_toArray, List.set_cons_zero, List.set_cons_succ]
      refine wpAnyZ_take (i := 8) (oi := ⟨_, _, _, _, _, _⟩) (v := ?_) rfl (by decide +kernel) (fun _ _ _ h => h) (Or.inl ⟨by rfl, ?_⟩) hS ?_
      rotate_left
      focus (intro w hSw; (try dsimp only at hSw); (obtain ⟨z0, z1, z2, zf⟩ := ref_cells ((hSw.block g hg3p).trans hh3.out); clear hSw); go_simp; (try with_reducible rfl); done)
      simp only [Act.put, List.setIfInBounds_toArray, List.set_cons_zero, List.set_cons_succ]
      refine wpAnyZ_take0 (i := 9) (oi := ⟨_, _, _, _, _, _⟩) (v := ?_) rfl (by decide +kernel) (fun _ _ _ h => h) (Or.inl ⟨by rfl, ?_⟩) (fun _ => hS) ?_
      rotate_left
      focus (intro w _; go_simp; (try with_reducible rfl); done)
      simp only [Act.put, List.setIfInBounds_toArray, List.set_cons_zero, List.set_cons_succ]
      refine wpAnyZ_take0 (i := 10) (oi := ⟨_, _, _, _, _, _⟩) (v := ?_) rfl (by decide +kernel) (fun _ _ _ h => h) (Or.inl ⟨by rfl, ?_⟩) (fun _ => hS) ?_
      rotate_left
      focus (intro w _; go_simp; (try with_reducible rfl); done)
      simp only [Act.put, List.setIfInBounds_toArray, List.set_cons_zero, List.set_cons_succ]
      refine wpAnyZ_take (i := 12) (oi := ⟨_, _, _, _, _, _⟩) (v := ?_) rfl (by decide +kernel) (fun _ _ _ h => h) (Or.inl ⟨by rfl, ?_⟩) hS ?_
      rotate_left
      focus (intro w hSw; (try dsimp only at hSw); (obtain ⟨x0, x1⟩ := box_load ((hSw.block _ (Array.getElem?_eq_some_iff.1 hbx3.out).1).trans hbx3.out); clear hSw); go_simp; (try with_reducible rfl); done)
      simp only [Act.put, List.setIfInBounds_toArray, List.set_cons_zero, List.set_cons_succ]
      refine wpAnyZ_two (i := 11) (j := 13) rfl rfl (by decide +kernel) (fun K hKK => ?_) (fun K hKK => ?_)
      · go_simp
        refine (rtwin119 A1 kk c1 (r.row.take kk) u3.drew (Rd.below R1.out (below_drew u3)) (by omega)).mono ?_
        rintro e x1 ⟨A', c', rfl, o1, b1⟩
        have S1 := (below_drew u3).trans b1
        clear hS
        have hS := S1
        refine hKK.out _ _ (fun _ => hS) ?_
        clear hKK
        refine wpAnyZ_one (i := 13) rfl (by decide +kernel) (fun K hKK => ?_)
        go_simp
        have S2 := S1.trans ((below_alloc x1 (.cells #[.int .i64 px, .int .i64 py] 58)).mono S1.size)
        clear hS
        have hS := S2
        refine hKK.out _ _ (fun _ => hS) ?_
        clear hKK
        have o1' := Own.alloc o1 (.cells #[.int .i64 px, .int .i64 py] 58)
        have rb := RdP.new x1 [(px, py)] (cs := #[.int .i64 px, .int .i64 py]) rfl (m := 1) rfl
        refine wpAnyZ_one (i := 14) rfl (by decide +kernel) (fun K hKK => ?_)
        refine st_appP (by rfl) (.tmp 38) (.tmp 40) (m := 1) (by rfl) (by rfl) (by rfl) o1' rb (by omega) S2.size ?_
        rintro vv x2 ⟨A3, c3, rfl, o2, g2, _⟩
        have S3' := S2.grown g2 S2.size (fun q e => (Own.lt o1' e).1)
        clear hS
        have hS := S3'
        refine hKK.out _ _ (fun _ => hS) ?_
        clear hKK
        simp only [Act.put, List.setIfInBounds_toArray, List.set_cons_zero, List.set_cons_succ]
        refine wpAnyZ_take0 (i := 15) (oi := ⟨_, _, _, _, _, _⟩) (v := ?_) rfl (by decide +kernel) (fun _ _ _ h => h) (Or.inl ⟨by rfl, ?_⟩) (fun _ => hS) ?_
        rotate_left
        focus (intro w _; go_simp; (try with_reducible rfl); done)
        simp only [Act.put, List.setIfInBounds_toArray, List.set_cons_zero, List.set_cons_succ]
        refine wpAnyZ_take0 (i := 16) (oi := ⟨_, _, _, _, _, _⟩) (v := ?_) rfl (by decide +kernel) (fun _ _ _ h => h) (Or.inl ⟨by rfl, ?_⟩) (fun _ => hS) ?_
        rotate_left
        focus (intro w _; go_simp; (try with_reducible rfl); done)
        simp only [Act.put, List.setIfInBounds_toArray, List.set_cons_zero, List.set_cons_succ]
        have hx3 := (S3'.block g hg3.out).trans hh3.out
        have O3 := Hd.mk o2
        have HS := Hd.mk S3'
        have HX := Hd.mk hx3
        clear S3' S2 S1 o1' o1 b1 o2 g2 rb
        obtain ⟨z0, z1, -, zf⟩ := ref_cells hx3
        have zf0 := zf 0
        refine wpAnyZ_one (i := 17) rfl (by decide +kernel) (fun K hKK => ?_)
        go_simp
        refine hKK.out _ _ (fun hz => absurd hz (by decide +kernel)) ?_
        clear hKK
        refine wpAnyZ_done (by decide +kernel) ?_
        clear z0 z1 zf0 zf hx3 hS
        have hx4 := Hd.mk (heap_setCell_same x2 g 0 _ 175 (.slice A3 (kk + 1) c3) HX.out)
        have O4 := Hd.mk (own_cell (j := 0) (v := .slice A3 (kk + 1) c3) O3.out hg3.out)
        have T4 : Hd (Tch F w (x2.setCell ⟨g, 0, none⟩ (.slice A3 (kk + 1) c3))) := ⟨(Tch.of_below (hb3.out.trans (HS.out.mono hb3.out.size))).trans (Tch.setCell _ x2 g 0 _ (.inl (.inl H.out.fg)))⟩
        have M4 := Hd.mk (own_cell' (j := 0) (v := .slice A3 (kk + 1) c3) (Own.below H.out.o2 (hb3.out.trans (HS.out.mono hb3.out.size))) H.out.ne2)
        have hle := (Own.le O3.out).1
        obtain ⟨x4, hx⟩ : ∃ u, Hd (x2.setCell ⟨g, 0, none⟩ (.slice A3 (kk + 1) c3) = u) := ⟨_, ⟨rfl⟩⟩
        rw [hx.out] at hx4 O4 T4 M4 ⊢
        clear O3 HS HX hx
        obtain ⟨a0, a1, a2, af⟩ := ref_cells hx4.out
        have af0 := af 0
        have af1 := af 1
        by_cases h33 : 33 < kk + 1
        · have h33i : (33 : Int) < (kk : Int) + 1 := by omega
          have hcut := Own.cut O4.out (l := 1) (k := kk + 1) (by omega) (Nat.le_refl _)
          rw [if_neg (by omega), Nat.add_sub_cancel] at hcut
          have hcl : ((pc (r.row.take kk ++ [(px, py)])).drop (1 * 2)).take (kk * 2) = pc ((r.row.take kk ++ [(px, py)]).drop 1) := by
            rw [← pc_drop, List.take_of_length_le]
            rw [List.length_drop, pc_length]
            have := OwnP.len O4.out
            omega
          rw [hcl] at hcut
          have HC := Hd.mk hcut
          have hlast : Hd (r.visit (px, py) = (0, ⟨(r.row.take kk ++ [(px, py)]).drop 1, (kk : Int) - 1, r.m⟩)) := ⟨by
            have hl := OwnP.len O4.out
            rw [hvis.out, if_pos (by rw [hl]; exact h33), List.length_drop, hl]
            congr 3
            all_goals omega⟩
          have hD : (if c3 = 1 then A3 else A3.map (·.add (1 * 2))) = A3.map (·.add 2) := if_neg (by omega)
          have hc1 : ¬ c3 = 1 := by omega
          clear hcut hcl h33 hD
          go_wp2
          clear a0 a1 a2 af af0 af1
          go_ret
          have y1 := heap_setCell_same x4 g 0 _ 175 (.slice (A3.map (·.add 2)) kk (c3 - 1)) hx4.out
          have y2 := heap_setCell_same _ g 1 _ 175 (.int .i64 ((kk : Int) - 1)) y1
          have T5 := (T4.out.trans (Tch.setCell _ x4 g 0 (.slice (A3.map (·.add 2)) kk (c3 - 1)) (.inl (.inl H.out.fg)))).trans (Tch.setCell _ _ g 1 (.int .i64 ((kk : Int) - 1)) (.inl (.inl H.out.fg)))
          rw [hlast.out]
          refine ⟨rfl, RefC.upd (r' := ⟨(r.row.take kk ++ [(px, py)]).drop 1, (kk : Int) - 1, r.m⟩) H.out y2 T5 (Own.mono (own_cell (own_cell HC.out hg3.out) hg3.out) (Nat.zero_le _)) (own_cell' (own_cell' M4.out H.out.ne2) H.out.ne2) (fun q e => .inr (Nat.le_trans hb3.out.size (Own.lt HC.out e).1)) (fun q e => .inl e) (fun q e e' => ?_)⟩
          have h1 : u3.heap.size ≤ q := (Own.lt HC.out e).1
          have h2 := H.out.lt q (H.out.f2 q e')
          have h3 := hb3.out.size
          omega
        · have h33i : ¬ (33 : Int) < (kk : Int) + 1 := by omega
          have hlast : Hd (r.visit (px, py) = (0, ⟨r.row.take kk ++ [(px, py)], (kk : Int), r.m⟩)) := ⟨by
            have hl := OwnP.len O4.out
            rw [hvis.out, if_neg (by rw [hl]; exact h33), hl]
            congr 3
            all_goals omega⟩
          clear h33
          go_wp2
          clear a0 a1 a2 af af0 af1
          go_ret
          have y2 := heap_setCell_same x4 g 1 _ 175 (.int .i64 (kk : Int)) hx4.out
          have T5 := T4.out.trans (Tch.setCell _ x4 g 1 (.int .i64 (kk : Int)) (.inl (.inl H.out.fg)))
          rw [hlast.out]
          refine ⟨rfl, RefC.upd (r' := ⟨r.row.take kk ++ [(px, py)], (kk : Int), r.m⟩) H.out y2 T5 (Own.mono (own_cell O4.out hg3.out) (Nat.zero_le _)) (own_cell' M4.out H.out.ne2) (fun q e => .inr (Nat.le_trans hb3.out.size (Own.lt O4.out e).1)) (fun q e => .inl e) (fun q e e' => ?_)⟩
          have h1 : u3.heap.size ≤ q := (Own.lt O4.out e).1
          have h2 := H.out.lt q (H.out.f2 q e')
          have h3 := hb3.out.size
          omega
      · go_simp
        have S1 := (below_drew u3).trans (below_alloc u3.drew (.cells #[.int .i64 px, .int .i64 py] 58))
        clear hS
        have hS := S1
        refine hKK.out _ _ (fun _ => hS) ?_
        clear hKK
        refine wpAnyZ_one (i := 11) rfl (by decide +kernel) (fun K hKK => ?_)
        go_simp
        refine (rtwin119 A1 kk c1 (r.row.take kk) _ (Rd.below R1.out S1) (by omega)).mono ?_
        rintro e x1 ⟨A', c', rfl, o1, b1⟩
        have S2 := S1.trans (b1.mono S1.size)
        clear hS
        have hS := S2
        refine hKK.out _ _ (fun _ => hS) ?_
        clear hKK
        have o1' : OwnP x1 u3.heap.size A' kk c' (r.row.take kk) := Own.mono o1 S1.size
        have rb := Rd.below (RdP.new u3.drew [(px, py)] (cs := #[.int .i64 px, .int .i64 py]) rfl (m := 1) rfl) b1
        refine wpAnyZ_one (i := 14) rfl (by decide +kernel) (fun K hKK => ?_)
        refine st_appP (by rfl) (.tmp 38) (.tmp 40) (m := 1) (by rfl) (by rfl) (by rfl) o1' rb (by omega) S2.size ?_
        rintro vv x2 ⟨A3, c3, rfl, o2, g2, _⟩
        have S3' := S2.grown g2 S2.size (fun q e => (Own.lt o1' e).1)
        clear hS
        have hS := S3'
        refine hKK.out _ _ (fun _ => hS) ?_
        clear hKK
        simp only [Act.put, List.setIfInBounds_toArray, List.set_cons_zero, List.set_cons_succ]
        refine wpAnyZ_take0 (i := 15) (oi := ⟨_, _, _, _, _, _⟩) (v := ?_) rfl (by decide +kernel) (fun _ _ _ h => h) (Or.inl ⟨by rfl, ?_⟩) (fun _ => hS) ?_
        rotate_left
        focus (intro w _; go_simp; (try with_reducible rfl); done)
        simp only [Act.put, List.setIfInBounds_toArray, List.set_cons_zero, List.set_cons_succ]
        refine wpAnyZ_take0 (i := 16) (oi := ⟨_, _, _, _, _, _⟩) (v := ?_) rfl (by decide +kernel) (fun _ _ _ h => h) (Or.inl ⟨by rfl, ?_⟩) (fun _ => hS) ?_
        rotate_left
        focus (intro w _; go_simp; (try with_reducible rfl); done)
        simp only [Act.put, List.setIfInBounds_toArray, List.set_cons_zero, List.set_cons_succ]
        have hx3 := (S3'.block g hg3.out).trans hh3.out
        have O3 := Hd.mk o2
        have HS := Hd.mk S3'
        have HX := Hd.mk hx3
        clear S3' S2 S1 o1' o1 b1 o2 g2 rb
        obtain ⟨z0, z1, -, zf⟩ := ref_cells hx3
        have zf0 := zf 0
        refine wpAnyZ_one (i := 17) rfl (by decide +kernel) (fun K hKK => ?_)
        go_simp
        refine hKK.out _ _ (fun hz => absurd hz (by decide +kernel)) ?_
        clear hKK
        refine wpAnyZ_done (by decide +kernel) ?_
        clear z0 z1 zf0 zf hx3 hS
        have hx4 := Hd.mk (heap_setCell_same x2 g 0 _ 175 (.slice A3 (kk + 1) c3) HX.out)
        have O4 := Hd.mk (own_cell (j := 0) (v := .slice A3 (kk + 1) c3) O3.out hg3.out)
        have T4 : Hd (Tch F w (x2.setCell ⟨g, 0, none⟩ (.slice A3 (kk + 1) c3))) := ⟨(Tch.of_below (hb3.out.trans (HS.out.mono hb3.out.size))).trans (Tch.setCell _ x2 g 0 _ (.inl (.inl H.out.fg)))⟩
        have M4 := Hd.mk (own_cell' (j := 0) (v := .slice A3 (kk + 1) c3) (Own.below H.out.o2 (hb3.out.trans (HS.out.mono hb3.out.size))) H.out.ne2)
        have hle := (Own.le O3.out).1
        obtain ⟨x4, hx⟩ : ∃ u, Hd (x2.setCell ⟨g, 0, none⟩ (.slice A3 (kk + 1) c3) = u) := ⟨_, ⟨rfl⟩⟩
        rw [hx.out] at hx4 O4 T4 M4 ⊢
        clear O3 HS HX hx
        obtain ⟨a0, a1, a2, af⟩ := ref_cells hx4.out
        have af0 := af 0
        have af1 := af 1
        by_cases h33 : 33 < kk + 1
        · have h33i : (33 : Int) < (kk : Int) + 1 := by omega
          have hcut := Own.cut O4.out (l := 1) (k := kk + 1) (by omega) (Nat.le_refl _)
          rw [if_neg (by omega), Nat.add_sub_cancel] at hcut
          have hcl : ((pc (r.row.take kk ++ [(px, py)])).drop (1 * 2)).take (kk * 2) = pc ((r.row.take kk ++ [(px, py)]).drop 1) := by
            rw [← pc_drop, List.take_of_length_le]
            rw [List.length_drop, pc_length]
            have := OwnP.len O4.out
            omega
          rw [hcl] at hcut
          have HC := Hd.mk hcut
          have hlast : Hd (r.visit (px, py) = (0, ⟨(r.row.take kk ++ [(px, py)]).drop 1, (kk : Int) - 1, r.m⟩)) := ⟨by
            have hl := OwnP.len O4.out
            rw [hvis.out, if_pos (by rw [hl]; exact h33), List.length_drop, hl]
            congr 3
            all_goals omega⟩
          have hD : (if c3 = 1 then A3 else A3.map (·.add (1 * 2))) = A3.map (·.add 2) := if_neg (by omega)
          have hc1 : ¬ c3 = 1 := by omega
          clear hcut hcl h33 hD
          go_wp2
          clear a0 a1 a2 af af0 af1
          go_ret
          have y1 := heap_setCell_same x4 g 0 _ 175 (.slice (A3.map (·.add 2)) kk (c3 - 1)) hx4.out
          have y2 := heap_setCell_same _ g 1 _ 175 (.int .i64 ((kk : Int) - 1)) y1
          have T5 := (T4.out.trans (Tch.setCell _ x4 g 0 (.slice (A3.map (·.add 2)) kk (c3 - 1)) (.inl (.inl H.out.fg)))).trans (Tch.setCell _ _ g 1 (.int .i64 ((kk : Int) - 1)) (.inl (.inl H.out.fg)))
          rw [hlast.out]
          refine ⟨rfl, RefC.upd (r' := ⟨(r.row.take kk ++ [(px, py)]).drop 1, (kk : Int) - 1, r.m⟩) H.out y2 T5 (Own.mono (own_cell (own_cell HC.out hg3.out) hg3.out) (Nat.zero_le _)) (own_cell' (own_cell' M4.out H.out.ne2) H.out.ne2) (fun q e => .inr (Nat.le_trans hb3.out.size (Own.lt HC.out e).1)) (fun q e => .inl e) (fun q e e' => ?_)⟩
          have h1 : u3.heap.size ≤ q := (Own.lt HC.out e).1
          have h2 := H.out.lt q (H.out.f2 q e')
          have h3 := hb3.out.size
          omega
        · have h33i : ¬ (33 : Int) < (kk : Int) + 1 := by omega
          have hlast : Hd (r.visit (px, py) = (0, ⟨r.row.take kk ++ [(px, py)], (kk : Int), r.m⟩)) := ⟨by
            have hl := OwnP.len O4.out
            rw [hvis.out, if_neg (by rw [hl]; exact h33), hl]
            congr 3
            all_goals omega⟩
          clear h33
          go_wp2
          clear a0 a1 a2 af af0 af1
          go_ret
          have y2 := heap_setCell_same x4 g 1 _ 175 (.int .i64 (kk : Int)) hx4.out
          have T5 := T4.out.trans (Tch.setCell _ x4 g 1 (.int .i64 (kk : Int)) (.inl (.inl H.out.fg)))
          rw [hlast.out]
          refine ⟨rfl, RefC.upd (r' := ⟨r.row.take kk ++ [(px, py)], (kk : Int), r.m⟩) H.out y2 T5 (Own.mono (own_cell O4.out hg3.out) (Nat.zero_le _)) (own_cell' M4.out H.out.ne2) (fun q e => .inr (Nat.le_trans hb3.out.size (Own.lt O4.out e).1)) (fun q e => .inl e) (fun q e e' => ?_)⟩
          have h1 : u3.heap.size ≤ q := (Own.lt O4.out e).1
          have h2 := H.out.lt q (H.out.f2 q e')
          have h3 := hb3.out.size
          omega
  · have hv1 : v = -1 := by have := HI.out.lo; have := hv.out; omega
    subst hv1
    have hvis : Hd (r.visit (px, py) = _) := ⟨RN.visit_new (r := r) (p := (px, py)) HM.out (fun e => hsame (by rw [← hv.out]; exact e.1))⟩
    clear hsame
    obtain ⟨z0, z1, z2, zf⟩ := ref_cells hh.out
    have hdm : decide ((-1 : Int) ≥ 0) = false := by decide
    go_quiet (fail)
    clear z0 z1 z2 zf hdm
    obtain ⟨kk, hkk⟩ : ∃ kk : Nat, (-1 : Int) = (kk : Int) - 1 := ⟨0, by omega⟩
    rw [show (r.at' + 1).toNat = kk by have := hv.out; omega] at hvis
    have hS : Below w2.heap.size w2 (w2.drewN nq) := below_drewN (Below.refl _ _) nq
    have hb3 := Hd.mk (hb2.out.trans (hS.mono hb2.out.size))
    have hbx3 := Hd.mk ((hS.block _ (Array.getElem?_eq_some_iff.1 hbx2.out).1).trans hbx2.out)
    have hh3 := Hd.mk ((hS.block g (Array.getElem?_eq_some_iff.1 hh.out).1).trans hh.out)
    rw [hkk] at hh3 hv
    obtain ⟨u3, hu3⟩ : ∃ u, Hd (w2.drewN nq = u) := ⟨_, ⟨rfl⟩⟩
    rw [hu3.out] at hb3 hbx3 hh3 ⊢
    clear hS hkk hu3
    go_wp2_with fail
    have hkn3 : kk ≤ n1 := by have := HI.out.hi; have := OwnP.len H.out.o1; have := hv.out; omega
    have hl100 : n1 ≤ 100 := by have := HI.out.len; have := OwnP.len H.out.o1; omega
    have hc3 : n1 ≤ c1 := (Own.le H.out.o1).1
    have hkc : (kk : Int) ≤ (c1 : Int) := by omega
    have hkk0 : (0 : Int) ≤ (kk : Int) := by omega
    have hbd : (kk : Int) ≤ 1000 := by omega
    have hwk : IntKind.i64.wrap (kk : Int) = (kk : Int) := IntWalk.i64_in _ (by omega)
    have R1 := Hd.mk (OwnP.takeRd (Own.below H.out.o1 hb3.out) hkn3)
    have hg3 : Hd (g < u3.heap.size) := ⟨(Array.getElem?_eq_some_iff.1 hh3.out).1⟩
    have hg3p := hg3.out
    refine region_zone 18 [false, false, false, false, false, false, false, false, false, false, false, false, false, false, false, false, false, false] (by kernel_rfl) (by kernel_rfl) hmix (fun w' => Below u3.heap.size u3 w') [17] ?_ (fun hS => ?_)
    · exact below_drew u3
    refine wpAnyZ_take0 (i := 0) (oi := ⟨_, _, _, _, _, _⟩) (v := ?_) rfl (by decide +kernel) (fun _ _ _ h => h) (Or.inl ⟨by rfl, ?_⟩) (fun _ => hS) ?_
    rotate_left
    focus (intro w _; go_simp; (try with_reducible rfl); done)
    simp only [Act.put, List.setIfInBounds_toArray, List.set_cons_zero, List.set_cons_succ]
    refine wpAnyZ_take0 (i := 1) (oi := ⟨_, _, _, _, _, _⟩) (v := ?_) rfl (by decide +kernel) (fun _ _ _ h => h) (Or.inl ⟨by rfl, ?_⟩) (fun _ => hS) ?_
    rotate_left
    focus (intro w _; go_simp; (try with_reducible rfl); done)
    simp only [Act.put, List.setIfInBounds_toArray, List.set_cons_zero, List.set_cons_succ]
    refine wpAnyZ_take0 (i := 2) (oi := ⟨_, _, _, _, _, _⟩) (v := ?_) rfl (by decide +kernel) (fun _ _ _ h => h) (Or.inl ⟨by rfl, ?_⟩) (fun _ => hS) ?_
    rotate_left
    focus (intro w _; go_simp; (try with_reducible rfl); done)
    simp only [Act.put, List.setIfInBounds_toArray, List.set_cons_zero, List.set_cons_succ]
    refine wpAnyZ_take0 (i := 3) (oi := ⟨_, _, _, _, _, _⟩) (v := ?_) rfl (by decide +kernel) (fun _ _ _ h => h) (Or.inl ⟨by rfl, ?_⟩) (fun _ => hS) ?_
    rotate_left
    focus (intro w _; go_simp; (try with_reducible rfl); done)
    simp only [Act.put, List.setIfInBounds_toArray, List.set_cons_zero, List.set_cons_succ]
    refine wpAnyZ_take (i := 4) (oi := ⟨_, _, _, _, _, _⟩) (v := ?_) rfl (by decide +kernel) (fun _ _ _ h => h) (Or.inl ⟨by rfl, ?_⟩) hS ?_
    rotate_left
    focus (intro w hSw; (try dsimp only at hSw); (obtain ⟨z0, z1, z2, zf⟩ := ref_cells ((hSw.block g hg3p).trans hh3.out); clear hSw); go_simp; (try with_reducible rfl); done)
    simp only [Act.put, List.setIfInBounds_toArray, List.set_cons_zero, List.set_cons_succ]
    refine wpAnyZ_take0 (i := 5) (oi := ⟨_, _, _, _, _, _⟩) (v := ?_) rfl (by decide +kernel) (fun _ _ _ h => h) (Or.inl ⟨by rfl, ?_⟩) (fun _ => hS) ?_
    rotate_left
    focus (intro w _; go_simp; (try with_reducible rfl); done)
    simp only [Act.put, List.setIfInBounds_toArray, List.set_cons_zero, List.set_cons_succ]
    refine wpAnyZ_take0 (i := 6) (oi := ⟨_, _, _, _, _, _⟩) (v := ?_) rfl (by decide +kernel) (fun _ _ _ h => h) (Or.inl ⟨by rfl, ?_⟩) (fun _ => hS) ?_
    rotate_left
    focus (intro w _; go_simp; (try with_reducible rfl); done)
    simp only [Act.put, List.setIfInBounds_toArray, List.set_cons_zero, List.set_cons_succ]
    refine wpAnyZ_take0 (i := 7) (oi := ⟨_, _, _, _, _, _⟩) (v := ?_) rfl (by decide +kernel) (fun _ _ _ h => h) (Or.inl ⟨by rfl, ?_⟩) (fun _ => hS) ?_
    rotate_left
    focus (intro w _; go_simp; (try with_reducible rfl); done)
    simp only [Act.put, List.setIfInBounds_toArray, List.set_cons_zero, List.set_cons_succ]
    refine wpAnyZ_take (i := 8) (oi := ⟨_, _, _, _, _, _⟩) (v := ?_) rfl (by decide +kernel) (fun _ _ _ h => h) (Or.inl ⟨by rfl, ?_⟩) hS ?_
    rotate_left
    focus (intro w hSw; (try dsimp only at hSw); (obtain ⟨z0, z1, z2, zf⟩ := ref_cells ((hSw.block g hg3p).trans hh3.out); clear hSw); go_simp; (try with_reducible rfl); done)
    simp only [Act.put, List.setIfInBounds_toArray, List.set_cons_zero, List.set_cons_succ]
    refine wpAnyZ_take0 (i := 9) (oi := ⟨_, _, _, _, _, _⟩) (v := ?_) rfl (by decide +kernel) (fun _ _ _ h => h) (Or.inl ⟨by rfl, ?_⟩) (fun _ => hS) ?_
    rotate_left
    focus (intro w _; go_simp; (try with_reducible rfl); done)
    simp only [Act.put, List.setIfInBounds_toArray, List.set_cons_zero, List.set_cons_succ]
    refine wpAnyZ_take0 (i := 10) (oi := ⟨_, _, _, _, _, _⟩) (v := ?_) rfl (by decide +kernel) (fun _ _ _ h => h) (Or.inl ⟨by rfl, ?_⟩) (fun _ => hS) ?_
    rotate_left
    focus (intro w _; go_simp; (try with_reducible rfl); done)
    simp only [Act.put, List.setIfInBounds_toArray, List.set_cons_zero, List.set_cons_succ]
    refine wpAnyZ_take (i := 12) (oi := ⟨_, _, _, _, _, _⟩) (v := ?_) rfl (by decide +kernel) (fun _ _ _ h => h) (Or.inl ⟨by rfl, ?_⟩) hS ?_
    rotate_left
    focus (intro w hSw; (try dsimp only at hSw); (obtain ⟨x0, x1⟩ := box_load ((hSw.block _ (Array.getElem?_eq_some_iff.1 hbx3.out).1).trans hbx3.out); clear hSw); go_simp; (try with_reducible rfl); done)
    simp only [Act.put, List.setIfInBounds_toArray, List.set_cons_zero, List.set_cons_succ]
    refine wpAnyZ_two (i := 11) (j := 13) rfl rfl (by decide +kernel) (fun K hKK => ?_) (fun K hKK => ?_)
    · go_simp
      refine (rtwin119 A1 kk c1 (r.row.take kk) u3.drew (Rd.below R1.out (below_drew u3)) (by omega)).mono ?_
      rintro e x1 ⟨A', c', rfl, o1, b1⟩
      have S1 := (below_drew u3).trans b1
      clear hS
      have hS := S1
      refine hKK.out _ _ (fun _ => hS) ?_
      clear hKK
      refine wpAnyZ_one (i := 13) rfl (by decide +kernel) (fun K hKK => ?_)
      go_simp
      have S2 := S1.trans ((below_alloc x1 (.cells #[.int .i64 px, .int .i64 py] 58)).mono S1.size)
      clear hS
      have hS := S2
      refine hKK.out _ _ (fun _ => hS) ?_
      clear hKK
      have o1' := Own.alloc o1 (.cells #[.int .i64 px, .int .i64 py] 58)
      have rb := RdP.new x1 [(px, py)] (cs := #[.int .i64 px, .int .i64 py]) rfl (m := 1) rfl
      refine wpAnyZ_one (i := 14) rfl (by decide +kernel) (fun K hKK => ?_)
      refine st_appP (by rfl) (.tmp 38) (.tmp 40) (m := 1) (by rfl) (by rfl) (by rfl) o1' rb (by omega) S2.size ?_
      rintro vv x2 ⟨A3, c3, rfl, o2, g2, _⟩
      have S3' := S2.grown g2 S2.size (fun q e => (Own.lt o1' e).1)
      clear hS
      have hS := S3'
      refine hKK.out _ _ (fun _ => hS) ?_
      clear hKK
      simp only [Act.put, List.setIfInBounds_toArray, List.set_cons_zero, List.set_cons_succ]
      refine wpAnyZ_take0 (i := 15) (oi := ⟨_, _, _, _, _, _⟩) (v := ?_) rfl (by decide +kernel) (fun _ _ _ h => h) (Or.inl ⟨by rfl, ?_⟩) (fun _ => hS) ?_
      rotate_left
      focus (intro w _; go_simp; (try with_reducible rfl); done)
      simp only [Act.put, List.setIfInBounds_toArray, List.set_cons_zero, List.set_cons_succ]
      refine wpAnyZ_take0 (i := 16) (oi := ⟨_, _, _, _, _, _⟩) (v := ?_) rfl (by decide +kernel) (fun _ _ _ h => h) (Or.inl ⟨by rfl, ?_⟩) (fun _ => hS) ?_
      rotate_left
      focus (intro w _; go_simp; (try with_reducible rfl); done)
      simp only [Act.put, List.setIfInBounds_toArray, List.set_cons_zero, List.set_cons_succ]
      have hx3 := (S3'.block g hg3.out).trans hh3.out
      have O3 := Hd.mk o2
      have HS := Hd.mk S3'
      have HX := Hd.mk hx3
      clear S3' S2 S1 o1' o1 b1 o2 g2 rb
      obtain ⟨z0, z1, -, zf⟩ := ref_cells hx3
      have zf0 := zf 0
      refine wpAnyZ_one (i := 17) rfl (by decide +kernel) (fun K hKK => ?_)
      go_simp
      refine hKK.out _ _ (fun hz => absurd hz (by decide +kernel)) ?_
      clear hKK
      refine wpAnyZ_done (by decide +kernel) ?_
      clear z0 z1 zf0 zf hx3 hS
      have hx4 := Hd.mk (heap_setCell_same x2 g 0 _ 175 (.slice A3 (kk + 1) c3) HX.out)
      have O4 := Hd.mk (own_cell (j := 0) (v := .slice A3 (kk + 1) c3) O3.out hg3.out)
      have T4 : Hd (Tch F w (x2.setCell ⟨g, 0, none⟩ (.slice A3 (kk + 1) c3))) := ⟨(Tch.of_below (hb3.out.trans (HS.out.mono hb3.out.size))).trans (Tch.setCell _ x2 g 0 _ (.inl (.inl H.out.fg)))⟩
      have M4 := Hd.mk (own_cell' (j := 0) (v := .slice A3 (kk + 1) c3) (Own.below H.out.o2 (hb3.out.trans (HS.out.mono hb3.out.size))) H.out.ne2)
      have hle := (Own.le O3.out).1
      obtain ⟨x4, hx⟩ : ∃ u, Hd (x2.setCell ⟨g, 0, none⟩ (.slice A3 (kk + 1) c3) = u) := ⟨_, ⟨rfl⟩⟩
      rw [hx.out] at hx4 O4 T4 M4 ⊢
      clear O3 HS HX hx
      obtain ⟨a0, a1, a2, af⟩ := ref_cells hx4.out
      have af0 := af 0
      have af1 := af 1
      by_cases h33 : 33 < kk + 1
      · have h33i : (33 : Int) < (kk : Int) + 1 := by omega
        have hcut := Own.cut O4.out (l := 1) (k := kk + 1) (by omega) (Nat.le_refl _)
        rw [if_neg (by omega), Nat.add_sub_cancel] at hcut
        have hcl : ((pc (r.row.take kk ++ [(px, py)])).drop (1 * 2)).take (kk * 2) = pc ((r.row.take kk ++ [(px, py)]).drop 1) := by
          rw [← pc_drop, List.take_of_length_le]
          rw [List.length_drop, pc_length]
          have := OwnP.len O4.out
          omega
        rw [hcl] at hcut
        have HC := Hd.mk hcut
        have hlast : Hd (r.visit (px, py) = (0, ⟨(r.row.take kk ++ [(px, py)]).drop 1, (kk : Int) - 1, r.m⟩)) := ⟨by
          have hl := OwnP.len O4.out
          rw [hvis.out, if_pos (by rw [hl]; exact h33), List.length_drop, hl]
          congr 3
          all_goals omega⟩
        have hD : (if c3 = 1 then A3 else A3.map (·.add (1 * 2))) = A3.map (·.add 2) := if_neg (by omega)
        have hc1 : ¬ c3 = 1 := by omega
        clear hcut hcl h33 hD
        go_wp2
        clear a0 a1 a2 af af0 af1
        go_ret
        have y1 := heap_setCell_same x4 g 0 _ 175 (.slice (A3.map (·.add 2)) kk (c3 - 1)) hx4.out
        have y2 := heap_setCell_same _ g 1 _ 175 (.int .i64 ((kk : Int) - 1)) y1
        have T5 := (T4.out.trans (Tch.setCell _ x4 g 0 (.slice (A3.map (·.add 2)) kk (c3 - 1)) (.inl (.inl H.out.fg)))).trans (Tch.setCell _ _ g 1 (.int .i64 ((kk : Int) - 1)) (.inl (.inl H.out.fg)))
        rw [hlast.out]
        refine ⟨rfl, RefC.upd (r' := ⟨(r.row.take kk ++ [(px, py)]).drop 1, (kk : Int) - 1, r.m⟩) H.out y2 T5 (Own.mono (own_cell (own_cell HC.out hg3.out) hg3.out) (Nat.zero_le _)) (own_cell' (own_cell' M4.out H.out.ne2) H.out.ne2) (fun q e => .inr (Nat.le_trans hb3.out.size (Own.lt HC.out e).1)) (fun q e => .inl e) (fun q e e' => ?_)⟩
        have h1 : u3.heap.size ≤ q := (Own.lt HC.out e).1
        have h2 := H.out.lt q (H.out.f2 q e')
        have h3 := hb3.out.size
        omega
      · have h33i : ¬ (33 : Int) < (kk : Int) + 1 := by omega
        have hlast : Hd (r.visit (px, py) = (0, ⟨r.row.take kk ++ [(px, py)], (kk : Int), r.m⟩)) := ⟨by
          have hl := OwnP.len O4.out
          rw [hvis.out, if_neg (by rw [hl]; exact h33), hl]
          congr 3
          all_goals omega⟩
        clear h33
        go_wp2
        clear a0 a1 a2 af af0 af1
        go_ret
        have y2 := heap_setCell_same x4 g 1 _ 175 (.int .i64 (kk : Int)) hx4.out
        have T5 := T4.out.trans (Tch.setCell _ x4 g 1 (.int .i64 (kk : Int)) (.inl (.inl H.out.fg)))
        rw [hlast.out]
        refine ⟨rfl, RefC.upd (r' := ⟨r.row.take kk ++ [(px, py)], (kk : Int), r.m⟩) H.out y2 T5 (Own.mono (own_cell O4.out hg3.out) (Nat.zero_le _)) (own_cell' M4.out H.out.ne2) (fun q e => .inr (Nat.le_trans hb3.out.size (Own.lt O4.out e).1)) (fun q e => .inl e) (fun q e e' => ?_)⟩
        have h1 : u3.heap.size ≤ q := (Own.lt O4.out e).1
        have h2 := H.out.lt q (H.out.f2 q e')
        have h3 := hb3.out.size
        omega
    · go_simp
      have S1 := (below_drew u3).trans (below_alloc u3.drew (.cells #[.int .i64 px, .int .i64 py] 58))
      clear hS
      have hS := S1
      refine hKK.out _ _ (fun _ => hS) ?_
      clear hKK
      refine wpAnyZ_one (i := 11) rfl (by decide +kernel) (fun K hKK => ?_)
      go_simp
      refine (rtwin119 A1 kk c1 (r.row.take kk) _ (Rd.below R1.out S1) (by omega)).mono ?_
      rintro e x1 ⟨A', c', rfl, o1, b1⟩
      have S2 := S1.trans (b1.mono S1.size)
      clear hS
      have hS := S2
      refine hKK.out _ _ (fun _ => hS) ?_
      clear hKK
      have o1' : OwnP x1 u3.heap.size A' kk c' (r.row.take kk) := Own.mono o1 S1.size
      have rb := Rd.below (RdP.new u3.drew [(px, py)] (cs := #[.int .i64 px, .int .i64 py]) rfl (m := 1) rfl) b1
      refine wpAnyZ_one (i := 14) rfl (by decide +kernel) (fun K hKK => ?_)
      refine st_appP (by rfl) (.tmp 38) (.tmp 40) (m := 1) (by rfl) (by rfl) (by rfl) o1' rb (by omega) S2.size ?_
      rintro vv x2 ⟨A3, c3, rfl, o2, g2, _⟩
      have S3' := S2.grown g2 S2.size (fun q e => (Own.lt o1' e).1)
      clear hS
      have hS := S3'
      refine hKK.out _ _ (fun _ => hS) ?_
      clear hKK
      simp only [Act.put, List.setIfInBounds_toArray, List.set_cons_zero, List.set_cons_succ]
      refine wpAnyZ_take0 (i := 15) (oi := ⟨_, _, _, _, _, _⟩) (v := ?_) rfl (by decide +kernel) (fun _ _ _ h => h) (Or.inl ⟨by rfl, ?_⟩) (fun _ => hS) ?_
      rotate_left
      focus (intro w _; go_simp; (try with_reducible rfl); done)
      simp only [Act.put, List.setIfInBounds_toArray, List.set_cons_zero, List.set_cons_succ]
      refine wpAnyZ_take0 (i := 16) (oi := ⟨_, _, _, _, _, _⟩) (v := ?_) rfl (by decide +kernel) (fun _ _ _ h => h) (Or.inl ⟨by rfl, ?_⟩) (fun _ => hS) ?_
      rotate_left
      focus (intro w _; go_simp; (try with_reducible rfl); done)
      simp only [Act.put, List.setIfInBounds_toArray, List.set_cons_zero, List.set_cons_succ]
      have hx3 := (S3'.block g hg3.out).trans hh3.out
      have O3 := Hd.mk o2
      have HS := Hd.mk S3'
      have HX := Hd.mk hx3
      clear S3' S2 S1 o1' o1 b1 o2 g2 rb
      obtain ⟨z0, z1, -, zf⟩ := ref_cells hx3
      have zf0 := zf 0
      refine wpAnyZ_one (i := 17) rfl (by decide +kernel) (fun K hKK => ?_)
      go_simp
      refine hKK.out _ _ (fun hz => absurd hz (by decide +kernel)) ?_
      clear hKK
      refine wpAnyZ_done (by decide +kernel) ?_
      clear z0 z1 zf0 zf hx3 hS
      have hx4 := Hd.mk (heap_setCell_same x2 g 0 _ 175 (.slice A3 (kk + 1) c3) HX.out)
      have O4 := Hd.mk (own_cell (j := 0) (v := .slice A3 (kk + 1) c3) O3.out hg3.out)
      have T4 : Hd (Tch F w (x2.setCell ⟨g, 0, none⟩ (.slice A3 (kk + 1) c3))) := ⟨(Tch.of_below (hb3.out.trans (HS.out.mono hb3.out.size))).trans (Tch.setCell _ x2 g 0 _ (.inl (.inl H.out.fg)))⟩
      have M4 := Hd.mk (own_cell' (j := 0) (v := .slice A3 (kk + 1) c3) (Own.below H.out.o2 (hb3.out.trans (HS.out.mono hb3.out.size))) H.out.ne2)
      have hle := (Own.le O3.out).1
      obtain ⟨x4, hx⟩ : ∃ u, Hd (x2.setCell ⟨g, 0, none⟩ (.slice A3 (kk + 1) c3) = u) := ⟨_, ⟨rfl⟩⟩
      rw [hx.out] at hx4 O4 T4 M4 ⊢
      clear O3 HS HX hx
      obtain ⟨a0, a1, a2, af⟩ := ref_cells hx4.out
      have af0 := af 0
      have af1 := af 1
      by_cases h33 : 33 < kk + 1
      · have h33i : (33 : Int) < (kk : Int) + 1 := by omega
        have hcut := Own.cut O4.out (l := 1) (k := kk + 1) (by omega) (Nat.le_refl _)
        rw [if_neg (by omega), Nat.add_sub_cancel] at hcut
        have hcl : ((pc (r.row.take kk ++ [(px, py)])).drop (1 * 2)).take (kk * 2) = pc ((r.row.take kk ++ [(px, py)]).drop 1) := by
          rw [← pc_drop, List.take_of_length_le]
          rw [List.length_drop, pc_length]
          have := OwnP.len O4.out
          omega
        rw [hcl] at hcut
        have HC := Hd.mk hcut
        have hlast : Hd (r.visit (px, py) = (0, ⟨(r.row.take kk ++ [(px, py)]).drop 1, (kk : Int) - 1, r.m⟩)) := ⟨by
          have hl := OwnP.len O4.out
          rw [hvis.out, if_pos (by rw [hl]; exact h33), List.length_drop, hl]
          congr 3
          all_goals omega⟩
        have hD : (if c3 = 1 then A3 else A3.map (·.add (1 * 2))) = A3.map (·.add 2) := if_neg (by omega)
        have hc1 : ¬ c3 = 1 := by omega
        clear hcut hcl h33 hD
        go_wp2
        clear a0 a1 a2 af af0 af1
        go_ret
        have y1 := heap_setCell_same x4 g 0 _ 175 (.slice (A3.map (·.add 2)) kk (c3 - 1)) hx4.out
        have y2 := heap_setCell_same _ g 1 _ 175 (.int .i64 ((kk : Int) - 1)) y1
        have T5 := (T4.out.trans (Tch.setCell _ x4 g 0 (.slice (A3.map (·.add 2)) kk (c3 - 1)) (.inl (.inl H.out.fg)))).trans (Tch.setCell _ _ g 1 (.int .i64 ((kk : Int) - 1)) (.inl (.inl H.out.fg)))
        rw [hlast.out]
        refine ⟨rfl, RefC.upd (r' := ⟨(r.row.take kk ++ [(px, py)]).drop 1, (kk : Int) - 1, r.m⟩) H.out y2 T5 (Own.mono (own_cell (own_cell HC.out hg3.out) hg3.out) (Nat.zero_le _)) (own_cell' (own_cell' M4.out H.out.ne2) H.out.ne2) (fun q e => .inr (Nat.le_trans hb3.out.size (Own.lt HC.out e).1)) (fun q e => .inl e) (fun q e e' => ?_)⟩
        have h1 : u3.heap.size ≤ q := (Own.lt HC.out e).1
        have h2 := H.out.lt q (H.out.f2 q e')
        have h3 := hb3.out.size
        omega
      · have h33i : ¬ (33 : Int) < (kk : Int) + 1 := by omega
        have hlast : Hd (r.visit (px, py) = (0, ⟨r.row.take kk ++ [(px, py)], (kk : Int), r.m⟩)) := ⟨by
          have hl := OwnP.len O4.out
          rw [hvis.out, if_neg (by rw [hl]; exact h33), hl]
          congr 3
          all_goals omega⟩
        clear h33
        go_wp2
        clear a0 a1 a2 af af0 af1
        go_ret
        have y2 := heap_setCell_same x4 g 1 _ 175 (.int .i64 (kk : Int)) hx4.out
        have T5 := T4.out.trans (Tch.setCell _ x4 g 1 (.int .i64 (kk : Int)) (.inl (.inl H.out.fg)))
        rw [hlast.out]
        refine ⟨rfl, RefC.upd (r' := ⟨r.row.take kk ++ [(px, py)], (kk : Int), r.m⟩) H.out y2 T5 (Own.mono (own_cell O4.out hg3.out) (Nat.zero_le _)) (own_cell' M4.out H.out.ne2) (fun q e => .inr (Nat.le_trans hb3.out.size (Own.lt O4.out e).1)) (fun q e => .inl e) (fun q e e' => ?_)⟩
        have h1 : u3.heap.size ≤ q := (Own.lt O4.out e).1
        have h2 := H.out.lt q (H.out.f2 q e')
        have h3 := hb3.out.size
        omega
end Go.Proofs.Ytkgdcglnkodgnaa
namespace Go.Proofs.Ytkgdcglnkodgnaa
open Go.RowKit
theorem RN.visit_m (r : RN) (p : Pl) : (r.visit p).2.m = r.m := by
  unfold RN.visit
  split
  · rfl
  · split <;> rfl
set_option maxRecDepth 100000 in
set_option maxHeartbeats 2000000 in
theorem rjump134 (g : Nat) (F : Nat → Prop) (r : RN) (x : Int) (w : World) (h : RefAt w g F r) (hi : RI r) :
    Calls Try.prog 134 #[.pointer (some ⟨g, 0, none⟩), .int .i64 x] w fun e w' => e = .returned (.tuple #[plV (r.jump x).1, .int .i64 ((r.jump x).2.1 : Int)]) ∧ RefTo w w' g F (r.jump x).2.2 := by
  obtain ⟨A1, n1, c1, A2, n2, c2, h⟩ := h
  have hmix := try_mixed
  have hA := Hd.mk (below_alloc w (.cells #[.int .i64 0, .int .i64 0] 58))
  have hgl := h.glt
  have H := Hd.mk h
  have HI := Hd.mk hi
  have hl := OwnP.len h.o2
  obtain ⟨a0, a1, a2, af⟩ := ref_cells h.heap
  by_cases hx0 : x < 0
  · have hr : Hd (r.jump x = ((0, 0), 1, r)) := ⟨if_pos (.inl hx0)⟩
    rw [hr.out]
    clear h hi hl
    go_enter Try.func134, Try.ntmps134
    go_wp2_with fail
    (try simp only [Exit.inBlock, Exit.then])
    refine bodyPost_ret (v := .tuple #[plV (0, 0), .int .i64 1]) ?_ rfl ⟨rfl, RefTo.of_below ⟨_, _, _, _, _, _, H.out⟩ hA.out⟩
    rw [results_cell_tmp rfl]
    simp [asAddr, Result.andThen]
    rw [run_loadVar_row _ _ 58 58 #[.int .i64 0, .int .i64 0] (0, 0) _ (heap_alloc_new w _) Try.underlying58 rfl (by kernel_rfl)]
    rfl
  by_cases hx1 : (n2 : Int) ≤ x
  · have hr : Hd (r.jump x = ((0, 0), 1, r)) := ⟨if_pos (.inr (by omega))⟩
    rw [hr.out]
    clear h hi hl
    go_enter Try.func134, Try.ntmps134
    go_wp2_with fail
    (try simp only [Exit.inBlock, Exit.then])
    refine bodyPost_ret (v := .tuple #[plV (0, 0), .int .i64 1]) ?_ rfl ⟨rfl, RefTo.of_below ⟨_, _, _, _, _, _, H.out⟩ hA.out⟩
    rw [results_cell_tmp rfl]
    simp [asAddr, Result.andThen]
    rw [run_loadVar_row _ _ 58 58 #[.int .i64 0, .int .i64 0] (0, 0) _ (heap_alloc_new w _) Try.underlying58 rfl (by kernel_rfl)]
    rfl
  obtain ⟨k, rfl⟩ := Int.eq_ofNat_of_zero_le (show 0 ≤ x by omega)
  obtain ⟨⟨px, py⟩, hp⟩ : ∃ p, r.m[k]? = some p := ⟨r.m[k]'(by omega), List.getElem?_eq_getElem _⟩
  have hgd : r.m.getD k (0, 0) = (px, py) := by rw [List.getD_eq_getElem?_getD, hp]; rfl
  have hr : Hd (r.jump (k : Int) = ((px, py), 0, (r.visit (px, py)).2)) := ⟨by
    unfold RN.jump
    rw [if_neg (by omega), Int.toNat_natCast, hgd]⟩
  obtain ⟨ad, rfl, q0, q1⟩ := RdP.get' (Own.rd h.o2) hp
  have hkn : (k : Int) < (n2 : Int) := by omega
  have hk0 : (0 : Int) ≤ (k : Int) := by omega
  have q0' : ad.block < w.heap.size := by have := cell_lt q0; rwa [block_add] at this
  have HP := Hd.mk hp
  rw [hr.out]
  clear h hi hl hgd hp hx0 hx1
  have q0b := below_cell hA.out q0
  have q1b := below_cell hA.out q1
  go_enter Try.func134, Try.ntmps134
  go_wp2_with fail
  clear a0 a1 a2 af q0 q1 q0b q1b q0'
  obtain ⟨V, hV⟩ : ∃ V, Hd (w.alloc (.cells #[.int .i64 0, .int .i64 0] 58) = V) := ⟨_, ⟨rfl⟩⟩
  have hbx := Hd.mk (heap_alloc_new w (.cells #[.int .i64 0, .int .i64 0] 58))
  rw [hV.out] at hA hbx ⊢
  have hVs : Hd (w.heap.size < V.heap.size) := ⟨by rw [← hV.out]; simp⟩
  refine (rvisit137 g F r (px, py) V (RefAt.below ⟨_, _, _, _, _, _, H.out⟩ hA.out) HI.out).mono ?_
  rintro e w3 ⟨rfl, h3⟩
  have hm3 := Hd.mk (RN.visit_m r (px, py))
  obtain ⟨r', hr'⟩ : ∃ r', Hd ((r.visit (px, py)).2 = r') := ⟨_, ⟨rfl⟩⟩
  rw [hr'.out] at h3 hm3
  have T3 := Hd.mk h3.2
  have R3 := Hd.mk h3.1
  have hbx3 : Hd (w3.heap[w.heap.size]? = some (.cells #[.int .i64 0, .int .i64 0] 58 (0, 0))) := ⟨(h3.2.block w.heap.size hVs.out (fun e => by have := H.out.lt _ e; omega)).trans hbx.out⟩
  obtain ⟨⟨B1, m1, d1, B2, m2, d2, hC⟩, -⟩ := h3
  obtain ⟨a0, a1, a2, af⟩ := ref_cells hC.heap
  have hp3 := HP.out
  rw [← hm3.out] at hp3
  obtain ⟨ad2, rfl, q0, q1⟩ := RdP.get' (Own.rd hC.o2) hp3
  have hkn3 : (k : Int) < (m2 : Int) := by
    have h1 := OwnP.len hC.o2
    have h2 := (List.getElem?_eq_some_iff.1 hp3).1
    omega
  obtain ⟨x0, x1⟩ := box_load hbx3.out
  have f0 := frozen_of_row w3 w.heap.size 0 _ _ hbx3.out
  have f1 := frozen_of_row w3 w.heap.size 1 _ _ hbx3.out
  have hx1 := heap_setCell_same w3 w.heap.size 0 _ 58 (.int .i64 px) hbx3.out
  have hx2 := Hd.mk (heap_setCell_same _ w.heap.size 1 _ 58 (.int .i64 py) hx1)
  have TW : Tch F w w3 := (Tch.of_below hA.out).trans (T3.out.mono (fun _ _ e => .inl e))
  have TB : Tch (fun q => q = w.heap.size) w3 ((w3.setCell ⟨w.heap.size, 0, none⟩ (.int .i64 px)).setCell ⟨w.heap.size, 1, none⟩ (.int .i64 py)) :=
    (Tch.setCell (fun q => q = w.heap.size) w3 w.heap.size 0 (.int .i64 px) (.inl rfl)).trans (Tch.setCell _ _ w.heap.size 1 (.int .i64 py) (.inl (.inl rfl)))
  have RF : Hd (RefAt ((w3.setCell ⟨w.heap.size, 0, none⟩ (.int .i64 px)).setCell ⟨w.heap.size, 1, none⟩ (.int .i64 py)) g (up F V w3) r') := ⟨R3.out.keep TB (fun q e e' => by
    rcases e with e | e
    · have := H.out.lt q e; omega
    · have := hVs.out; omega)⟩
  have HF : Hd (RefTo w ((w3.setCell ⟨w.heap.size, 0, none⟩ (.int .i64 px)).setCell ⟨w.heap.size, 1, none⟩ (.int .i64 py)) g F r') := ⟨⟨RF.out.mono (fun q e => e.imp id (fun e => ⟨by have := hVs.out; omega, Nat.lt_of_lt_of_le e.2 TB.size⟩)) (fun q e => by
    rcases e with e | e
    · have h1 := H.out.lt q e; have h2 := TW.size; have h3 := TB.size; omega
    · exact e.2), ref_res TW (TB.mono (fun q _ e => by omega))⟩⟩
  clear hC hp3 R3 TW TB RF T3 hx1
  go_wp2_with fail
  (try simp only [Exit.inBlock, Exit.then])
  refine bodyPost_ret (v := .tuple #[plV (px, py), .int .i64 0]) ?_ rfl ⟨rfl, by rw [hr'.out]; exact HF.out⟩
  rw [results_cell_tmp rfl]
  simp [asAddr, Result.andThen]
  rw [run_loadVar_row _ _ 58 58 #[.int .i64 px, .int .i64 py] (0, 0) _ hx2.out Try.underlying58 rfl (by kernel_rfl)]
  rfl
set_option maxRecDepth 100000 in
set_option maxHeartbeats 2000000 in
theorem runmark133 (g : Nat) (F : Nat → Prop) (r : RN) (x : Int) (w : World) (h : RefAt w g F r) (hi : RI r) :
    Calls Try.prog 133 #[.pointer (some ⟨g, 0, none⟩), .int .i64 x] w fun e w' => e = .returned (.int .i64 ((r.unmark x).1 : Int)) ∧ RefTo w w' g F (r.unmark x).2 := by
  obtain ⟨A1, n1, c1, A2, n2, c2, h⟩ := h
  have hmix := try_mixed
  have H := Hd.mk h
  have hl := OwnP.len h.o2
  have HN := Hd.mk (RefTo.of_below ⟨_, _, _, _, _, _, h⟩ (Below.refl _ _))
  obtain ⟨a0, a1, a2, af⟩ := ref_cells h.heap
  by_cases hx0 : x < 0
  · have hr : Hd (r.unmark x = (1, r)) := ⟨if_pos (.inl hx0)⟩
    rw [hr.out]
    clear h hi hl
    go_enter Try.func133, Try.ntmps133
    go_wp2
    go_ret
    exact ⟨rfl, HN.out⟩
  by_cases hx1 : (n2 : Int) ≤ x
  · have hr : Hd (r.unmark x = (1, r)) := ⟨if_pos (.inr (by omega))⟩
    rw [hr.out]
    clear h hi hl
    go_enter Try.func133, Try.ntmps133
    go_wp2
    go_ret
    exact ⟨rfl, HN.out⟩
  obtain ⟨k, rfl⟩ := Int.eq_ofNat_of_zero_le (show 0 ≤ x by omega)
  have hr : Hd (r.unmark (k : Int) = (0, { r with m := r.m.take k ++ r.m.drop (k + 1) })) := ⟨by
    unfold RN.unmark
    rw [if_neg (by omega), Int.toNat_natCast]⟩
  have hkn : k < n2 := by omega
  have hn100 : n2 ≤ 100 := by have := hi.mks; omega
  have hkn' : (k : Int) < (n2 : Int) := by omega
  have hk0 : (0 : Int) ≤ (k : Int) := by omega
  have hc2 := (Own.le h.o2).1
  have hkc : (k : Int) ≤ (c2 : Int) := by omega
  have hnc : (n2 : Int) ≤ (c2 : Int) := by omega
  have hk1 : (k : Int) + 1 ≤ (n2 : Int) := by omega
  have hk10 : (0 : Int) ≤ (k : Int) + 1 := by omega
  have hwk : IntKind.i64.wrap ((k : Int) + 1) = (k : Int) + 1 := IntWalk.i64_in _ (by omega)
  have htn : ((k : Int) + 1).toNat = k + 1 := by omega
  have R1 := Hd.mk (OwnP.takeRd h.o2 (k := k) (by omega))
  have hcut := RdP.cut (Own.rd h.o2) (a := k + 1) (b := n2) (m := c2) (by omega) (Nat.le_refl _) hc2
  rw [List.take_of_length_le (by rw [List.length_drop]; omega)] at hcut
  obtain ⟨D, hD⟩ : ∃ D, (if c2 = k + 1 then A2 else A2.map (·.add ((k + 1) * 2))) = D := ⟨_, rfl⟩
  rw [hD] at hcut
  have R2 := Hd.mk hcut
  have hh := Hd.mk h.heap
  have hgl := h.glt
  rw [hr.out]
  clear h hi hl hcut hx0 hx1
  go_enter Try.func133, Try.ntmps133
  go_wp2_with fail
  clear a0 a1 a2 af
  refine region_zone 19 [false, false, false, false, false, false, false, false, false, false, false, false, false, false, false, false, false, false, false] (by kernel_rfl) (by kernel_rfl) hmix (fun w' => Below w.heap.size w w') [18] ?_ (fun hS => ?_)
  · exact below_drew w
  refine wpAnyZ_take0 (i := 0) (oi := ⟨_, _, _, _, _, _⟩) (v := ?_) rfl (by decide +kernel) (fun _ _ _ h => h) (Or.inl ⟨by rfl, ?_⟩) (fun _ => hS) ?_
  rotate_left
  focus (intro w _; go_simp; (try with_reducible rfl); done)
  simp only [Act.put, List.setIfInBounds_toArray, List.set_cons_zero, List.set_cons_succ]
  refine wpAnyZ_take0 (i := 1) (oi := ⟨_, _, _, _, _, _⟩) (v := ?_) rfl (by decide +kernel) (fun _ _ _ h => h) (Or.inl ⟨by rfl, ?_⟩) (fun _ => hS) ?_
  rotate_left
  focus (intro w _; go_simp; (try with_reducible rfl); done)
  simp only [Act.put, List.setIfInBounds_toArray, List.set_cons_zero, List.set_cons_succ]
  refine wpAnyZ_take0 (i := 2) (oi := ⟨_, _, _, _, _, _⟩) (v := ?_) rfl (by decide +kernel) (fun _ _ _ h => h) (Or.inl ⟨by rfl, ?_⟩) (fun _ => hS) ?_
  rotate_left
  focus (intro w _; go_simp; (try with_reducible rfl); done)
  simp only [Act.put, List.setIfInBounds_toArray, List.set_cons_zero, List.set_cons_succ]
  refine wpAnyZ_take0 (i := 3) (oi := ⟨_, _, _, _, _, _⟩) (v := ?_) rfl (by decide +kernel) (fun _ _ _ h => h) (Or.inl ⟨by rfl, ?_⟩) (fun _ => hS) ?_
  rotate_left
  focus (intro w _; go_simp; (try with_reducible rfl); done)
  simp only [Act.put, List.setIfInBounds_toArray, List.set_cons_zero, List.set_cons_succ]
  refine wpAnyZ_take (i := 4) (oi := ⟨_, _, _, _, _, _⟩) (v := ?_) rfl (by decide +kernel) (fun _ _ _ h => h) (Or.inl ⟨by rfl, ?_⟩) hS ?_
  rotate_left
  focus (intro w hSw; (try dsimp only at hSw); (obtain ⟨z0, z1, z2, zf⟩ := ref_cells ((hSw.block g hgl).trans hh.out); clear hSw); go_simp; (try with_reducible rfl); done)
  simp only [Act.put, List.setIfInBounds_toArray, List.set_cons_zero, List.set_cons_succ]
  refine wpAnyZ_take0 (i := 5) (oi := ⟨_, _, _, _, _, _⟩) (v := ?_) rfl (by decide +kernel) (fun _ _ _ h => h) (Or.inl ⟨by rfl, ?_⟩) (fun _ => hS) ?_
  rotate_left
  focus (intro w _; go_simp; (try with_reducible rfl); done)
  simp only [Act.put, List.setIfInBounds_toArray, List.set_cons_zero, List.set_cons_succ]
  refine wpAnyZ_take0 (i := 6) (oi := ⟨_, _, _, _, _, _⟩) (v := ?_) rfl (by decide +kernel) (fun _ _ _ h => h) (Or.inl ⟨by rfl, ?_⟩) (fun _ => hS) ?_
  rotate_left
  focus (intro w _; go_simp; (try with_reducible rfl); done)
  simp only [Act.put, List.setIfInBounds_toArray, List.set_cons_zero, List.set_cons_succ]
  refine wpAnyZ_take0 (i := 8) (oi := ⟨_, _, _, _, _, _⟩) (v := ?_) rfl (by decide +kernel) (fun _ _ _ h => h) (Or.inl ⟨by rfl, ?_⟩) (fun _ => hS) ?_
  rotate_left
  focus (intro w _; go_simp; (try with_reducible rfl); done)
  simp only [Act.put, List.setIfInBounds_toArray, List.set_cons_zero, List.set_cons_succ]
  refine wpAnyZ_take0 (i := 9) (oi := ⟨_, _, _, _, _, _⟩) (v := ?_) rfl (by decide +kernel) (fun _ _ _ h => h) (Or.inl ⟨by rfl, ?_⟩) (fun _ => hS) ?_
  rotate_left
  focus (intro w _; go_simp; (try with_reducible rfl); done)
  simp only [Act.put, List.setIfInBounds_toArray, List.set_cons_zero, List.set_cons_succ]
  refine wpAnyZ_take0 (i := 10) (oi := ⟨_, _, _, _, _, _⟩) (v := ?_) rfl (by decide +kernel) (fun _ _ _ h => h) (Or.inl ⟨by rfl, ?_⟩) (fun _ => hS) ?_
  rotate_left
  focus (intro w _; go_simp; (try with_reducible rfl); done)
  simp only [Act.put, List.setIfInBounds_toArray, List.set_cons_zero, List.set_cons_succ]
  refine wpAnyZ_take (i := 11) (oi := ⟨_, _, _, _, _, _⟩) (v := ?_) rfl (by decide +kernel) (fun _ _ _ h => h) (Or.inl ⟨by rfl, ?_⟩) hS ?_
  rotate_left
  focus (intro w hSw; (try dsimp only at hSw); (obtain ⟨z0, z1, z2, zf⟩ := ref_cells ((hSw.block g hgl).trans hh.out); clear hSw); go_simp; (try with_reducible rfl); done)
  simp only [Act.put, List.setIfInBounds_toArray, List.set_cons_zero, List.set_cons_succ]
  refine wpAnyZ_take0 (i := 12) (oi := ⟨_, _, _, _, _, _⟩) (v := ?_) rfl (by decide +kernel) (fun _ _ _ h => h) (Or.inl ⟨by rfl, ?_⟩) (fun _ => hS) ?_
  rotate_left
  focus (intro w _; go_simp; (try with_reducible rfl); done)
  simp only [Act.put, List.setIfInBounds_toArray, List.set_cons_zero, List.set_cons_succ]
  refine wpAnyZ_take0 (i := 13) (oi := ⟨_, _, _, _, _, _⟩) (v := ?_) rfl (by decide +kernel) (fun _ _ _ h => h) (Or.inl ⟨by rfl, ?_⟩) (fun _ => hS) ?_
  rotate_left
  focus (intro w _; go_simp; (try with_reducible rfl); done)
  simp only [Act.put, List.setIfInBounds_toArray, List.set_cons_zero, List.set_cons_succ]
  refine wpAnyZ_take0 (i := 14) (oi := ⟨_, _, _, _, _, _⟩) (v := ?_) rfl (by decide +kernel) (fun _ _ _ h => h) (Or.inl ⟨by rfl, ?_⟩) (fun _ => hS) ?_
  rotate_left
  focus (intro w _; go_simp; (try with_reducible rfl); done)
  simp only [Act.put, List.setIfInBounds_toArray, List.set_cons_zero, List.set_cons_succ]
  clear hD
  refine wpAnyZ_one (i := 7) rfl (by decide +kernel) (fun K hKK => ?_)
  go_simp
  refine (rtwin119 A2 k c2 (r.m.take k) w.drew (Rd.below R1.out (below_drew w)) (by omega)).mono ?_
  rintro e x1 ⟨A', c', rfl, o1, b1⟩
  have S1 := (below_drew w).trans b1
  clear hS
  have hS := S1
  refine hKK.out _ _ (fun _ => hS) ?_
  clear hKK
  refine wpAnyZ_one (i := 15) rfl (by decide +kernel) (fun K hKK => ?_)
  refine st_appP (by rfl) (.tmp 23) (.tmp 30) (m := n2 - (k + 1)) (by rfl) (by rfl) (by rfl) o1 (Rd.below R2.out S1) (by omega) S1.size ?_
  rintro vv x2 ⟨A3, c3, rfl, o2, g2, _⟩
  have S2 := S1.grown g2 S1.size (fun q e => (Own.lt o1 e).1)
  clear hS
  have hS := S2
  refine hKK.out _ _ (fun _ => hS) ?_
  clear hKK
  simp only [Act.put, List.setIfInBounds_toArray, List.set_cons_zero, List.set_cons_succ]
  refine wpAnyZ_take0 (i := 16) (oi := ⟨_, _, _, _, _, _⟩) (v := ?_) rfl (by decide +kernel) (fun _ _ _ h => h) (Or.inl ⟨by rfl, ?_⟩) (fun _ => hS) ?_
  rotate_left
  focus (intro w _; go_simp; (try with_reducible rfl); done)
  simp only [Act.put, List.setIfInBounds_toArray, List.set_cons_zero, List.set_cons_succ]
  refine wpAnyZ_take0 (i := 17) (oi := ⟨_, _, _, _, _, _⟩) (v := ?_) rfl (by decide +kernel) (fun _ _ _ h => h) (Or.inl ⟨by rfl, ?_⟩) (fun _ => hS) ?_
  rotate_left
  focus (intro w _; go_simp; (try with_reducible rfl); done)
  simp only [Act.put, List.setIfInBounds_toArray, List.set_cons_zero, List.set_cons_succ]
  have hx3 := (S2.block g hgl).trans hh.out
  have O3 := Hd.mk o2
  have HS := Hd.mk S2
  have HX := Hd.mk hx3
  clear S2 S1 o1 b1 o2 g2
  obtain ⟨z0, z1, z2, zf⟩ := ref_cells hx3
  have zf2 := zf 2
  refine wpAnyZ_one (i := 18) rfl (by decide +kernel) (fun K hKK => ?_)
  go_simp
  refine hKK.out _ _ (fun hz => absurd hz (by decide +kernel)) ?_
  clear hKK
  refine wpAnyZ_done (by decide +kernel) ?_
  clear z0 z1 z2 zf zf2 hx3 hS
  have y2 := heap_setCell_same x2 g 2 _ 175 (.slice A3 (k + (n2 - (k + 1))) c3) HX.out
  have T5 := (Tch.of_below (F := F) HS.out).trans (Tch.setCell _ x2 g 2 (.slice A3 (k + (n2 - (k + 1))) c3) (.inl (.inl H.out.fg)))
  have HF := Hd.mk (RefC.upd (r' := { r with m := r.m.take k ++ r.m.drop (k + 1) }) H.out y2 T5 (own_cell' (Own.below H.out.o1 HS.out) H.out.ne1) (Own.mono (own_cell O3.out (by exact hgl)) (Nat.zero_le _)) (fun q e => .inl e) (fun q e => .inr (Own.lt O3.out e).1) (fun q e e' => by
    have h1 : w.heap.size ≤ q := (Own.lt O3.out e').1
    have h2 := H.out.lt q (H.out.f1 q e)
    omega))
  clear y2 T5
  go_wp2
  go_ret
  exact ⟨rfl, HF.out⟩
set_option maxRecDepth 100000 in
set_option maxHeartbeats 2000000 in
theorem rmark132 (g : Nat) (F : Nat → Prop) (r : RN) (w : World) (h : RefAt w g F r) (hi : RI r) :
    Calls Try.prog 132 #[.pointer (some ⟨g, 0, none⟩)] w fun e w' => e = .returned (.tuple #[.int .i64 r.mark.1, .int .i64 (r.mark.2.1 : Int)]) ∧ RefTo w w' g F r.mark.2.2 := by
  obtain ⟨A1, n1, c1, A2, n2, c2, h⟩ := h
  have hmix := try_mixed
  have H := Hd.mk h
  have HL := Hd.mk (OwnP.len h.o2)
  obtain ⟨a0, a1, a2, af⟩ := ref_cells h.heap
  by_cases hneg : r.at' < 0
  · have hr : Hd (r.mark = (0, 3, r)) := ⟨if_pos hneg⟩
    have HN := Hd.mk (RefTo.of_below ⟨_, _, _, _, _, _, h⟩ (Below.refl _ _))
    clear h hi
    go_enter Try.func132, Try.ntmps132
    go_wp2
    go_ret2
    rw [hr.out]
    exact ⟨rfl, HN.out⟩
  obtain ⟨k, hk⟩ := Int.eq_ofNat_of_zero_le (show 0 ≤ r.at' by omega)
  obtain ⟨⟨px, py⟩, hp⟩ : ∃ p, Hd (r.get r.at' = p) := ⟨_, ⟨rfl⟩⟩
  have hg := rn_get_some hi hk
  rw [hp.out] at hg
  obtain ⟨ad, rfl, q0, q1⟩ := RdP.get' (Own.rd h.o1) hg
  have hkn : (k : Int) < (n1 : Int) := by have := hi.hi; have := OwnP.len h.o1; omega
  have hk0 : (0 : Int) ≤ (k : Int) := by omega
  have hkk : ¬ (k : Int) < 0 := by omega
  have hn2 : n2 ≤ 100 := by have := hi.mks; have := HL.out; omega
  have hmk : Hd (r.mark = if (px, py) ∈ r.m then (0, 261, r) else if 16 ≤ n2 then (0, 260, r) else ((n2 : Int), 0, { r with m := r.m ++ [(px, py)] })) := ⟨by unfold RN.mark; rw [if_neg hneg, hp.out, HL.out]⟩
  have hh : Hd (w.heap[g]? = some (.cells #[.slice (some ad) n1 c1, .int .i64 (k : Int), .slice A2 n2 c2] 175 (0, 0))) := ⟨by rw [h.heap, hk]⟩
  have hat := Hd.mk hk
  have hgl := h.glt
  have Q0 := Hd.mk q0
  have Q1 := Hd.mk q1
  rw [hk] at a1
  clear h hi hneg hg q0 q1 hk
  go_enter Try.func132, Try.ntmps132
  go_wp2_with fail
  clear a0 a1 a2 af
  go_loopw [4] (fun i wr => ∃ j : Nat, i = .int .i64 (j : Int) ∧ j ≤ n2 ∧ Hd ((px, py) ∉ r.m.take j) ∧ Hd (Below w.heap.size w wr))
    (fun i _ => n2 - (intOf i).toNat)
  case atStart => exact ⟨0, rfl, by omega, ⟨by simp⟩, ⟨Below.refl _ _⟩⟩
  case round =>
    obtain ⟨j, rfl, hj, hnm, hb⟩ := hrel
    have hhr := Hd.mk ((hb.out.block g hgl).trans hh.out)
    obtain ⟨a0, a1, a2, af⟩ := ref_cells hhr.out
    have hgr : g < wr.heap.size := Nat.lt_of_lt_of_le hgl hb.out.size
    by_cases hlt : j < n2
    · obtain ⟨⟨qx, qy⟩, hq⟩ : ∃ q, r.m[j]? = some q := ⟨r.m[j]'(by have := HL.out; omega), List.getElem?_eq_getElem _⟩
      obtain ⟨ad2, rfl, p0, p1⟩ := RdP.get' (Rd.below (Own.rd H.out.o2) hb.out) hq
      have hji : (j : Int) < (n2 : Int) := by omega
      have hj0 : (0 : Int) ≤ (j : Int) := by omega
      have P0 := Hd.mk p0
      have P1 := Hd.mk p1
      have Q0r := Hd.mk (below_cell hb.out Q0.out)
      have Q1r := Hd.mk (below_cell hb.out Q1.out)
      have HQ := Hd.mk hq
      clear p0 p1 hq
      go_wp2_with fail
      clear a0 a1 a2 af
      refine region_zone 18 [false, false, false, false, false, false, false, false, false, false, false, false, false, false, false, false, false, false] (by kernel_rfl) (by kernel_rfl) hmix (fun w' => Below wr.heap.size wr w') [] ?_ (fun hS => ?_)
      · exact below_drew wr
      refine wpAnyZ_take0 (i := 0) (oi := ⟨_, _, _, _, _, _⟩) (v := ?_) rfl (by decide +kernel) (fun _ _ _ h => h) (Or.inl ⟨by rfl, ?_⟩) (fun _ => hS) ?_
      rotate_left
      focus (intro w _; go_simp; (try with_reducible rfl); done)
      simp only [Act.put, List.setIfInBounds_toArray, List.set_cons_zero, List.set_cons_succ]
      refine wpAnyZ_take0 (i := 1) (oi := ⟨_, _, _, _, _, _⟩) (v := ?_) rfl (by decide +kernel) (fun _ _ _ h => h) (Or.inl ⟨by rfl, ?_⟩) (fun _ => hS) ?_
      rotate_left
      focus (intro w _; go_simp; (try with_reducible rfl); done)
      simp only [Act.put, List.setIfInBounds_toArray, List.set_cons_zero, List.set_cons_succ]
      refine wpAnyZ_take0 (i := 2) (oi := ⟨_, _, _, _, _, _⟩) (v := ?_) rfl (by decide +kernel) (fun _ _ _ h => h) (Or.inl ⟨by rfl, ?_⟩) (fun _ => hS) ?_
      rotate_left
      focus (intro w _; go_simp; (try with_reducible rfl); done)
      simp only [Act.put, List.setIfInBounds_toArray, List.set_cons_zero, List.set_cons_succ]
      refine wpAnyZ_take (i := 3) (oi := ⟨_, _, _, _, _, _⟩) (v := ?_) rfl (by decide +kernel) (fun _ _ _ h => h) (Or.inl ⟨by rfl, ?_⟩) hS ?_
      rotate_left
      focus (intro w hSw; (try dsimp only at hSw); (obtain ⟨z0, z1, z2, zf⟩ := ref_cells ((hSw.block g hgr).trans hhr.out); have y0 := below_cell hSw P0.out; have y1 := below_cell hSw P1.out; have x0 := below_cell hSw Q0r.out; have x1 := below_cell hSw Q1r.out; clear hSw); go_simp; (try with_reducible rfl); done)
      simp only [Act.put, List.setIfInBounds_toArray, List.set_cons_zero, List.set_cons_succ]
      refine wpAnyZ_take0 (i := 4) (oi := ⟨_, _, _, _, _, _⟩) (v := ?_) rfl (by decide +kernel) (fun _ _ _ h => h) (Or.inl ⟨by rfl, ?_⟩) (fun _ => hS) ?_
      rotate_left
      focus (intro w _; go_simp; (try with_reducible rfl); done)
      simp only [Act.put, List.setIfInBounds_toArray, List.set_cons_zero, List.set_cons_succ]
      refine wpAnyZ_take0 (i := 5) (oi := ⟨_, _, _, _, _, _⟩) (v := ?_) rfl (by decide +kernel) (fun _ _ _ h => h) (Or.inl ⟨by rfl, ?_⟩) (fun _ => hS) ?_
      rotate_left
      focus (intro w _; go_simp; (try with_reducible rfl); done)
      simp only [Act.put, List.setIfInBounds_toArray, List.set_cons_zero, List.set_cons_succ]
      refine wpAnyZ_take (i := 6) (oi := ⟨_, _, _, _, _, _⟩) (v := ?_) rfl (by decide +kernel) (fun _ _ _ h => h) (Or.inl ⟨by rfl, ?_⟩) hS ?_
      rotate_left
      focus (intro w hSw; (try dsimp only at hSw); (obtain ⟨z0, z1, z2, zf⟩ := ref_cells ((hSw.block g hgr).trans hhr.out); have y0 := below_cell hSw P0.out; have y1 := below_cell hSw P1.out; have x0 := below_cell hSw Q0r.out; have x1 := below_cell hSw Q1r.out; clear hSw); go_simp; (try with_reducible rfl); done)
      simp only [Act.put, List.setIfInBounds_toArray, List.set_cons_zero, List.set_cons_succ]
      refine wpAnyZ_take0 (i := 7) (oi := ⟨_, _, _, _, _, _⟩) (v := ?_) rfl (by decide +kernel) (fun _ _ _ h => h) (Or.inl ⟨by rfl, ?_⟩) (fun _ => hS) ?_
      rotate_left
      focus (intro w _; go_simp; (try with_reducible rfl); done)
      simp only [Act.put, List.setIfInBounds_toArray, List.set_cons_zero, List.set_cons_succ]
      refine wpAnyZ_take0 (i := 8) (oi := ⟨_, _, _, _, _, _⟩) (v := ?_) rfl (by decide +kernel) (fun _ _ _ h => h) (Or.inl ⟨by rfl, ?_⟩) (fun _ => hS) ?_
      rotate_left
      focus (intro w _; go_simp; (try with_reducible rfl); done)
      simp only [Act.put, List.setIfInBounds_toArray, List.set_cons_zero, List.set_cons_succ]
      refine wpAnyZ_take0 (i := 9) (oi := ⟨_, _, _, _, _, _⟩) (v := ?_) rfl (by decide +kernel) (fun _ _ _ h => h) (Or.inl ⟨by rfl, ?_⟩) (fun _ => hS) ?_
      rotate_left
      focus (intro w _; go_simp; (try with_reducible rfl); done)
      simp only [Act.put, List.setIfInBounds_toArray, List.set_cons_zero, List.set_cons_succ]
      refine wpAnyZ_take (i := 10) (oi := ⟨_, _, _, _, _, _⟩) (v := ?_) rfl (by decide +kernel) (fun _ _ _ h => h) (Or.inl ⟨by rfl, ?_⟩) hS ?_
      rotate_left
      focus (intro w hSw; (try dsimp only at hSw); (obtain ⟨z0, z1, z2, zf⟩ := ref_cells ((hSw.block g hgr).trans hhr.out); have y0 := below_cell hSw P0.out; have y1 := below_cell hSw P1.out; have x0 := below_cell hSw Q0r.out; have x1 := below_cell hSw Q1r.out; clear hSw); go_simp; (try with_reducible rfl); done)
      simp only [Act.put, List.setIfInBounds_toArray, List.set_cons_zero, List.set_cons_succ]
      refine wpAnyZ_take0 (i := 11) (oi := ⟨_, _, _, _, _, _⟩) (v := ?_) rfl (by decide +kernel) (fun _ _ _ h => h) (Or.inl ⟨by rfl, ?_⟩) (fun _ => hS) ?_
      rotate_left
      focus (intro w _; go_simp; (try with_reducible rfl); done)
      simp only [Act.put, List.setIfInBounds_toArray, List.set_cons_zero, List.set_cons_succ]
      refine wpAnyZ_take0 (i := 12) (oi := ⟨_, _, _, _, _, _⟩) (v := ?_) rfl (by decide +kernel) (fun _ _ _ h => h) (Or.inl ⟨by rfl, ?_⟩) (fun _ => hS) ?_
      rotate_left
      focus (intro w _; go_simp; (try with_reducible rfl); done)
      simp only [Act.put, List.setIfInBounds_toArray, List.set_cons_zero, List.set_cons_succ]
      refine wpAnyZ_take0 (i := 13) (oi := ⟨_, _, _, _, _, _⟩) (v := ?_) rfl (by decide +kernel) (fun _ _ _ h => h) (Or.inl ⟨by rfl, ?_⟩) (fun _ => hS) ?_
      rotate_left
      focus (intro w _; go_simp; (try with_reducible rfl); done)
      simp only [Act.put, List.setIfInBounds_toArray, List.set_cons_zero, List.set_cons_succ]
      refine wpAnyZ_take (i := 14) (oi := ⟨_, _, _, _, _, _⟩) (v := ?_) rfl (by decide +kernel) (fun _ _ _ h => h) (Or.inl ⟨by rfl, ?_⟩) hS ?_
      rotate_left
      focus (intro w hSw; (try dsimp only at hSw); (obtain ⟨z0, z1, z2, zf⟩ := ref_cells ((hSw.block g hgr).trans hhr.out); have y0 := below_cell hSw P0.out; have y1 := below_cell hSw P1.out; have x0 := below_cell hSw Q0r.out; have x1 := below_cell hSw Q1r.out; clear hSw); go_simp; (try with_reducible rfl); done)
      simp only [Act.put, List.setIfInBounds_toArray, List.set_cons_zero, List.set_cons_succ]
      refine wpAnyZ_take0 (i := 15) (oi := ⟨_, _, _, _, _, _⟩) (v := ?_) rfl (by decide +kernel) (fun _ _ _ h => h) (Or.inl ⟨by rfl, ?_⟩) (fun _ => hS) ?_
      rotate_left
      focus (intro w _; go_simp; (try with_reducible rfl); done)
      simp only [Act.put, List.setIfInBounds_toArray, List.set_cons_zero, List.set_cons_succ]
      refine wpAnyZ_take (i := 16) (oi := ⟨_, _, _, _, _, _⟩) (v := ?_) rfl (by decide +kernel) (fun _ _ _ h => h) (Or.inl ⟨by rfl, ?_⟩) hS ?_
      rotate_left
      focus (intro w hSw; (try dsimp only at hSw); (obtain ⟨z0, z1, z2, zf⟩ := ref_cells ((hSw.block g hgr).trans hhr.out); have y0 := below_cell hSw P0.out; have y1 := below_cell hSw P1.out; have x0 := below_cell hSw Q0r.out; have x1 := below_cell hSw Q1r.out; clear hSw); go_simp; (try with_reducible rfl); done)
      simp only [Act.put, List.setIfInBounds_toArray, List.set_cons_zero, List.set_cons_succ]
      refine wpAnyZ_one (i := 17) rfl (by decide +kernel) (fun K hKK => ?_)
      go_simp
      refine (same106 (qx, qy) (px, py) _).mono ?_
      rintro e w3 ⟨rfl, b3⟩
      have hb3 := Hd.mk ((below_drew wr).trans b3)
      have hB := Hd.mk (hb.out.trans (hb3.out.mono hb.out.size))
      clear hS
      have hS := hb3.out
      refine hKK.out _ _ (fun _ => hS) ?_
      clear hKK
      refine wpAnyZ_done (by decide +kernel) ?_
      clear hS
      by_cases hpq : (qx, qy) = (px, py)
      · have hr : Hd (r.mark = (0, 261, r)) := ⟨by
          rw [hmk.out, if_pos]
          rw [← hpq]
          exact List.mem_of_getElem? HQ.out⟩
        have hd : (decide ((qx, qy) = (px, py))) = true := decide_eq_true hpq
        simp only [hd]
        go_wp2
        go_ret2
        rw [hr.out]
        exact ⟨rfl, RefTo.of_below ⟨_, _, _, _, _, _, H.out⟩ hB.out⟩
      · have hd : (decide ((qx, qy) = (px, py))) = false := decide_eq_false hpq
        have hnm' : Hd ((px, py) ∉ r.m.take (j + 1)) := ⟨by rw [take_snocP HQ.out]; simp only [List.mem_append, List.mem_singleton, not_or]; exact ⟨hnm.out, fun e => hpq e.symm⟩⟩
        simp only [hd]
        go_wp2_with fail
        go_roundw
        case rel => exact ⟨j + 1, by go_num, by omega, hnm', hB⟩
        case measure => simp [intOf]; omega
    · obtain rfl : j = n2 := by omega
      have hji : ¬ ((j : Int) < (j : Int)) := by omega
      have hnot : Hd ((px, py) ∉ r.m) := ⟨by have := hnm.out; rwa [List.take_of_length_le (by rw [HL.out]; omega)] at this⟩
      by_cases h16 : 16 ≤ j
      · have hr : Hd (r.mark = (0, 260, r)) := ⟨by rw [hmk.out, if_neg hnot.out, if_pos h16]⟩
        have h16i : (16 : Int) ≤ (j : Int) := by omega
        go_wp2
        go_ret2
        rw [hr.out]
        exact ⟨rfl, RefTo.of_below ⟨_, _, _, _, _, _, H.out⟩ hb.out⟩
      · have hr : Hd (r.mark = ((j : Int), 0, { r with m := r.m ++ [(px, py)] })) := ⟨by rw [hmk.out, if_neg hnot.out, if_neg h16]⟩
        have h16i : ¬ (16 : Int) ≤ (j : Int) := by omega
        have Q0r := Hd.mk (below_cell hb.out Q0.out)
        have Q1r := Hd.mk (below_cell hb.out Q1.out)
        have M0 := Hd.mk (Own.below H.out.o2 hb.out)
        go_wp2_with fail
        clear a0 a1 a2 af
        obtain ⟨wr, hwr⟩ : ∃ u, u = wr := ⟨_, rfl⟩
        subst hwr
        have hSall : Hd (∀ u : World, Below wr.heap.size wr u → u.heap[g]? = some (.cells #[.slice (some ad) n1 c1, .int .i64 (k : Int), .slice A2 j c2] 175 (0, 0)) ∧ u.cell? (ad.add (k * 2)) = some (.int .i64 px) ∧ u.cell? ⟨(ad.add (k * 2)).block, (ad.add (k * 2)).off + 1, none⟩ = some (.int .i64 py)) :=
          ⟨fun u hu => ⟨(hu.block g hgr).trans hhr.out, below_cell hu Q0r.out, below_cell hu Q1r.out⟩⟩
        refine region_zone 20 [false, false, false, false, false, false, false, false, false, false, false, false, false, false, false, false, false, false, false, false] (by kernel_rfl) (by kernel_rfl) hmix (fun w' => w'.heap[g]? = some (.cells #[.slice (some ad) n1 c1, .int .i64 (k : Int), .slice A2 j c2] 175 (0, 0)) ∧ w'.cell? (ad.add (k * 2)) = some (.int .i64 px) ∧ w'.cell? ⟨(ad.add (k * 2)).block, (ad.add (k * 2)).off + 1, none⟩ = some (.int .i64 py)) [19] ?_ (fun hS => ?_)
        · exact hSall.out _ (below_drew wr)
        refine wpAnyZ_take0 (i := 0) (oi := ⟨_, _, _, _, _, _⟩) (v := ?_) rfl (by decide +kernel) (fun _ _ _ h => h) (Or.inl ⟨by rfl, ?_⟩) (fun _ => hS) ?_
        rotate_left
        focus (intro w _; go_simp; (try with_reducible rfl); done)
        simp only [Act.put, List.setIfInBounds_toArray, List.set_cons_zero, List.set_cons_succ]
        refine wpAnyZ_take0 (i := 1) (oi := ⟨_, _, _, _, _, _⟩) (v := ?_) rfl (by decide +kernel) (fun _ _ _ h => h) (Or.inl ⟨by rfl, ?_⟩) (fun _ => hS) ?_
        rotate_left
        focus (intro w _; go_simp; (try with_reducible rfl); done)
        simp only [Act.put, List.setIfInBounds_toArray, List.set_cons_zero, List.set_cons_succ]
        refine wpAnyZ_take0 (i := 2) (oi := ⟨_, _, _, _, _, _⟩) (v := ?_) rfl (by decide +kernel) (fun _ _ _ h => h) (Or.inl ⟨by rfl, ?_⟩) (fun _ => hS) ?_
        rotate_left
        focus (intro w _; go_simp; (try with_reducible rfl); done)
        simp only [Act.put, List.setIfInBounds_toArray, List.set_cons_zero, List.set_cons_succ]
        refine wpAnyZ_take0 (i := 3) (oi := ⟨_, _, _, _, _, _⟩) (v := ?_) rfl (by decide +kernel) (fun _ _ _ h => h) (Or.inl ⟨by rfl, ?_⟩) (fun _ => hS) ?_
        rotate_left
        focus (intro w _; go_simp; (try with_reducible rfl); done)
        simp only [Act.put, List.setIfInBounds_toArray, List.set_cons_zero, List.set_cons_succ]
        refine wpAnyZ_take (i := 4) (oi := ⟨_, _, _, _, _, _⟩) (v := ?_) rfl (by decide +kernel) (fun _ _ _ h => h) (Or.inl ⟨by rfl, ?_⟩) hS ?_
        rotate_left
        focus (intro w hSw; (try dsimp only at hSw); (obtain ⟨hSg, x0, x1⟩ := hSw; obtain ⟨z0, z1, z2, zf⟩ := ref_cells hSg; clear hSg); go_simp; (try with_reducible rfl); done)
        simp only [Act.put, List.setIfInBounds_toArray, List.set_cons_zero, List.set_cons_succ]
        refine wpAnyZ_take0 (i := 5) (oi := ⟨_, _, _, _, _, _⟩) (v := ?_) rfl (by decide +kernel) (fun _ _ _ h => h) (Or.inl ⟨by rfl, ?_⟩) (fun _ => hS) ?_
        rotate_left
        focus (intro w _; go_simp; (try with_reducible rfl); done)
        simp only [Act.put, List.setIfInBounds_toArray, List.set_cons_zero, List.set_cons_succ]
        refine wpAnyZ_take0 (i := 6) (oi := ⟨_, _, _, _, _, _⟩) (v := ?_) rfl (by decide +kernel) (fun _ _ _ h => h) (Or.inl ⟨by rfl, ?_⟩) (fun _ => hS) ?_
        rotate_left
        focus (intro w _; go_simp; (try with_reducible rfl); done)
        simp only [Act.put, List.setIfInBounds_toArray, List.set_cons_zero, List.set_cons_succ]
        refine wpAnyZ_take0 (i := 7) (oi := ⟨_, _, _, _, _, _⟩) (v := ?_) rfl (by decide +kernel) (fun _ _ _ h => h) (Or.inl ⟨by rfl, ?_⟩) (fun _ => hS) ?_
        rotate_left
        focus (intro w _; go_simp; (try with_reducible rfl); done)
        simp only [Act.put, List.setIfInBounds_toArray, List.set_cons_zero, List.set_cons_succ]
        refine wpAnyZ_take (i := 8) (oi := ⟨_, _, _, _, _, _⟩) (v := ?_) rfl (by decide +kernel) (fun _ _ _ h => h) (Or.inl ⟨by rfl, ?_⟩) hS ?_
        rotate_left
        focus (intro w hSw; (try dsimp only at hSw); (obtain ⟨hSg, x0, x1⟩ := hSw; obtain ⟨z0, z1, z2, zf⟩ := ref_cells hSg; clear hSg); go_simp; (try with_reducible rfl); done)
        simp only [Act.put, List.setIfInBounds_toArray, List.set_cons_zero, List.set_cons_succ]
        refine wpAnyZ_take0 (i := 9) (oi := ⟨_, _, _, _, _, _⟩) (v := ?_) rfl (by decide +kernel) (fun _ _ _ h => h) (Or.inl ⟨by rfl, ?_⟩) (fun _ => hS) ?_
        rotate_left
        focus (intro w _; go_simp; (try with_reducible rfl); done)
        simp only [Act.put, List.setIfInBounds_toArray, List.set_cons_zero, List.set_cons_succ]
        refine wpAnyZ_take0 (i := 10) (oi := ⟨_, _, _, _, _, _⟩) (v := ?_) rfl (by decide +kernel) (fun _ _ _ h => h) (Or.inl ⟨by rfl, ?_⟩) (fun _ => hS) ?_
        rotate_left
        focus (intro w _; go_simp; (try with_reducible rfl); done)
        simp only [Act.put, List.setIfInBounds_toArray, List.set_cons_zero, List.set_cons_succ]
        refine wpAnyZ_take0 (i := 11) (oi := ⟨_, _, _, _, _, _⟩) (v := ?_) rfl (by decide +kernel) (fun _ _ _ h => h) (Or.inl ⟨by rfl, ?_⟩) (fun _ => hS) ?_
        rotate_left
        focus (intro w _; go_simp; (try with_reducible rfl); done)
        simp only [Act.put, List.setIfInBounds_toArray, List.set_cons_zero, List.set_cons_succ]
        refine wpAnyZ_take (i := 12) (oi := ⟨_, _, _, _, _, _⟩) (v := ?_) rfl (by decide +kernel) (fun _ _ _ h => h) (Or.inl ⟨by rfl, ?_⟩) hS ?_
        rotate_left
        focus (intro w hSw; (try dsimp only at hSw); (obtain ⟨hSg, x0, x1⟩ := hSw; obtain ⟨z0, z1, z2, zf⟩ := ref_cells hSg; clear hSg); go_simp; (try with_reducible rfl); done)
        simp only [Act.put, List.setIfInBounds_toArray, List.set_cons_zero, List.set_cons_succ]
        refine wpAnyZ_take0 (i := 13) (oi := ⟨_, _, _, _, _, _⟩) (v := ?_) rfl (by decide +kernel) (fun _ _ _ h => h) (Or.inl ⟨by rfl, ?_⟩) (fun _ => hS) ?_
        rotate_left
        focus (intro w _; go_simp; (try with_reducible rfl); done)
        simp only [Act.put, List.setIfInBounds_toArray, List.set_cons_zero, List.set_cons_succ]
        refine wpAnyZ_take (i := 14) (oi := ⟨_, _, _, _, _, _⟩) (v := ?_) rfl (by decide +kernel) (fun _ _ _ h => h) (Or.inl ⟨by rfl, ?_⟩) hS ?_
        rotate_left
        focus (intro w hSw; (try dsimp only at hSw); (obtain ⟨hSg, x0, x1⟩ := hSw; obtain ⟨z0, z1, z2, zf⟩ := ref_cells hSg; clear hSg); go_simp; (try with_reducible rfl); done)
        simp only [Act.put, List.setIfInBounds_toArray, List.set_cons_zero, List.set_cons_succ]
        refine wpAnyZ_one (i := 15) rfl (by decide +kernel) (fun K hKK => ?_)
        go_simp
        have S1 := (below_drew wr).trans (below_alloc wr.drew (.cells #[.int .i64 px, .int .i64 py] 58))
        clear hS
        have hS := hSall.out _ S1
        refine hKK.out _ _ (fun _ => hS) ?_
        clear hKK
        refine wpAnyZ_one (i := 16) rfl (by decide +kernel) (fun K hKK => ?_)
        refine st_appP (by rfl) (.tmp 47) (.tmp 58) (m := 1) (by rfl) (by rfl) (by rfl) (Own.below M0.out S1) (RdP.new wr.drew [(px, py)] (cs := #[.int .i64 px, .int .i64 py]) rfl rfl) (by omega) (Nat.zero_le _) ?_
        rintro vv x2 hap
        obtain ⟨A', c', rfl, hs⟩ := Slot.ofApp1 (Own.below M0.out S1) hap
        have hadb : Hd (ownBlk (some ad) c1 = some ad.block) := ⟨by have h1 := (Own.le H.out.o1).1; have h2 : c1 ≠ 0 := (by omega); simp [ownBlk, h2]⟩
        have hadl : ad.block < w.heap.size := H.out.lt _ (H.out.f1 _ hadb.out)
        have hrow : ∀ p : Addr, p.block = ad.block → x2.cell? p = (wr.drew.alloc (.cells #[.int .i64 px, .int .i64 py] 58)).cell? p := fun p hpb =>
          World.cell?_of_block (by rw [hpb]; exact hs.tch.block _ (Nat.lt_of_lt_of_le hadl (Nat.le_trans hb.out.size S1.size)) (fun e => H.out.d12 _ hadb.out e))
        have hx3 : x2.heap[g]? = _ := (hs.tch.block g (Nat.lt_of_lt_of_le hgr S1.size) (fun e => H.out.ne2 g e rfl)).trans ((S1.block g hgr).trans hhr.out)
        clear hS
        have hS := And.intro hx3 (And.intro ((hrow _ (by rw [block_add])).trans (hSall.out _ S1).2.1) ((hrow _ (by show (ad.add (k * 2)).block = ad.block; rw [block_add])).trans (hSall.out _ S1).2.2))
        refine hKK.out _ _ (fun _ => hS) ?_
        clear hKK
        simp only [Act.put, List.setIfInBounds_toArray, List.set_cons_zero, List.set_cons_succ]
        refine wpAnyZ_take0 (i := 17) (oi := ⟨_, _, _, _, _, _⟩) (v := ?_) rfl (by decide +kernel) (fun _ _ _ h => h) (Or.inl ⟨by rfl, ?_⟩) (fun _ => hS) ?_
        rotate_left
        focus (intro w _; go_simp; (try with_reducible rfl); done)
        simp only [Act.put, List.setIfInBounds_toArray, List.set_cons_zero, List.set_cons_succ]
        refine wpAnyZ_take0 (i := 18) (oi := ⟨_, _, _, _, _, _⟩) (v := ?_) rfl (by decide +kernel) (fun _ _ _ h => h) (Or.inl ⟨by rfl, ?_⟩) (fun _ => hS) ?_
        rotate_left
        focus (intro w _; go_simp; (try with_reducible rfl); done)
        simp only [Act.put, List.setIfInBounds_toArray, List.set_cons_zero, List.set_cons_succ]
        have HS := Hd.mk hs
        have HS1 := Hd.mk S1
        have HX := Hd.mk hx3
        clear hs S1 hap hrow
        obtain ⟨z0, z1, z2, zf⟩ := ref_cells hx3
        have zf2 := zf 2
        refine wpAnyZ_one (i := 19) rfl (by decide +kernel) (fun K hKK => ?_)
        go_simp
        refine hKK.out _ _ (fun hz => absurd hz (by decide +kernel)) ?_
        clear hKK
        refine wpAnyZ_done (by decide +kernel) ?_
        clear z0 z1 z2 zf zf2 hx3 hS
        have y2 := Hd.mk (heap_setCell_same x2 g 2 _ 175 (.slice A' (j + 1) c') HX.out)
        have HBx := Hd.mk (hb.out.trans (HS1.out.mono hb.out.size))
        have T2 := (Tch.of_below (F := F) HBx.out).trans (HS.out.tch.mono (fun q _ e => .inl (H.out.f2 q e)))
        have T5 := T2.trans (Tch.setCell _ x2 g 2 (.slice A' (j + 1) c') (.inl (.inl H.out.fg)))
        have ne' := OwnP.ne_nav (by decide) HS.out.own HX.out
        have HF := Hd.mk (RefC.upd (r' := { r with m := r.m ++ [(px, py)] }) H.out (by rw [y2.out, hat.out]; rfl) T5 (own_cell' (Own.keep (Own.below H.out.o1 HBx.out) fun q e _ hl => HS.out.tch.block q hl (fun e' => H.out.d12 q e e')) H.out.ne1) (own_cell' HS.out.own ne') (fun q e => .inl e) (fun q e => (HS.out.blk q e).imp id (fun e => Nat.le_trans HBx.out.size e)) (fun q e e' => by
          rcases HS.out.blk q e' with e2 | e2
          · exact H.out.d12 q e e2
          · have h2 := H.out.lt q (H.out.f1 q e)
            have h3 := HBx.out.size
            omega))
        obtain ⟨a0, a1, a2, af⟩ := ref_cells y2.out
        clear T2 T5 ne'
        go_wp2
        go_ret2
        rw [hr.out]
        exact ⟨rfl, HF.out⟩
end Go.Proofs.Ytkgdcglnkodgnaa
namespace Go.Proofs.Ytkgdcglnkodgnaa
open Go.RowKit
theorem apartP_lastD (c : Pl) (l : List Pl) : (apartP c l).getLastD c = l.getLastD c := by
  induction l generalizing c with
  | nil => rfl
  | cons p r ih =>
    unfold apartP
    by_cases h : p = c
    · subst h
      rw [if_pos rfl, ih]
      cases r <;> rfl
    · rw [if_neg h]
      have := ih p
      cases hr : apartP p r with
      | nil =>
        rw [hr] at this
        cases r with
        | nil => rfl
        | cons a b => simp at this ⊢; exact this
      | cons a b =>
        rw [hr] at this
        cases r with
        | nil => simp [apartP] at hr
        | cons a' b' => simp at this ⊢; exact this
theorem apartP_snoc (c x : Pl) (l : List Pl) : apartP c (l ++ [x]) = apartP c l ++ (if x = l.getLastD c then [] else [x]) := by
  induction l generalizing c with
  | nil =>
    by_cases h : x = c <;> simp [h, apartP]
  | cons p r ih =>
    simp only [List.cons_append]
    unfold apartP
    have hlast : (p :: r).getLastD c = r.getLastD p := by cases r <;> rfl
    by_cases h : p = c
    · rw [if_pos h, if_pos h, ih, hlast]
    · rw [if_neg h, if_neg h, ih, hlast]; rfl
theorem apartP_len (c : Pl) (l : List Pl) : (apartP c l).length ≤ l.length := (apartP_sub c l).length_le
theorem head_rev (c : Pl) (l : List Pl) : ((apartP c l).reverse ++ [c])[0]? = some (l.getLastD c) := by
  rw [← apartP_lastD]
  cases h : (apartP c l).reverse with
  | nil =>
    have : apartP c l = [] := by simpa using h
    simp [this]
  | cons a b =>
    have e : apartP c l = b.reverse ++ [a] := by
      have := congrArg List.reverse h
      simpa using this
    simp [e]
theorem last_app (c : Pl) (L l : List Pl) : (L ++ [c] ++ apartP c l)[(L ++ [c] ++ apartP c l).length - 1]? = some (l.getLastD c) := by
  rw [← apartP_lastD, ← List.getLast?_eq_getElem?]
  cases h : (apartP c l) with
  | nil => simp
  | cons a b => simp [List.getLast?_append, List.getLast?_cons]
theorem own1 {w : World} {base : Nat} (p : Pl) (hb : base ≤ w.heap.size) : OwnP (w.alloc (.cells #[.int .i64 p.1, .int .i64 p.2] 58)) base (some ⟨w.heap.size, 0, none⟩) 1 1 [p] :=
  Own.made (e := 58) (size := 2) w #[.int .i64 p.1, .int .i64 p.2] 1 1 hb (Nat.le_refl _) (by unfold maxLen; omega) rfl
set_option maxRecDepth 100000 in
set_option maxHeartbeats 4000000 in
theorem rthin165 (g : Nat) (F : Nat → Prop) (r : RN) (w : World) (h : RefAt w g F r) (hi : r.at' < r.row.length) (hl : r.row.length ≤ 100) :
    Calls Try.prog 165 #[.pointer (some ⟨g, 0, none⟩)] w fun e w' => e = .returned (.tuple #[]) ∧ RefTo w w' g F r.thin := by
  obtain ⟨A1, n1, c1, A2, n2, c2, h⟩ := h
  have hmix := try_mixed
  have H := Hd.mk h
  have HL := Hd.mk (OwnP.len h.o1)
  obtain ⟨a0, a1, a2, af⟩ := ref_cells h.heap
  by_cases hneg : r.at' < 0
  · have hr : Hd (r.thin = r) := ⟨if_pos hneg⟩
    have HN := Hd.mk (RefTo.of_below ⟨_, _, _, _, _, _, h⟩ (Below.refl _ _))
    clear h hi
    go_enter Try.func165, Try.ntmps165
    go_wp2
    (try simp only [Exit.inBlock, Exit.then])
    refine bodyPost_ret (results_none rfl _ _ _) rfl ?_
    rw [hr.out]
    exact ⟨rfl, HN.out⟩
  obtain ⟨k, hk⟩ := Int.eq_ofNat_of_zero_le (show 0 ≤ r.at' by omega)
  have hkl : k < r.row.length := by omega
  obtain ⟨⟨px, py⟩, hp⟩ : ∃ p, Hd (r.get r.at' = p) := ⟨_, ⟨rfl⟩⟩
  have hg : r.row[k]? = some (px, py) := by
    have := hp.out
    unfold RN.get at this
    rw [hk, Int.toNat_natCast, List.getD_eq_getElem?_getD, List.getElem?_eq_getElem hkl] at this
    rw [List.getElem?_eq_getElem hkl]
    simpa using this
  have hr : Hd (r.thin = ⟨(apartP (px, py) (r.row.take k).reverse).reverse ++ [(px, py)] ++ apartP (px, py) (r.row.drop (k + 1)), (((apartP (px, py) (r.row.take k).reverse).reverse ++ [(px, py)]).length : Int) - 1, r.m⟩) := ⟨by
    unfold RN.thin
    rw [if_neg hneg, hp.out, hk, Int.toNat_natCast, show ((k : Int) + 1).toNat = k + 1 by omega]⟩
  obtain ⟨ad, rfl, q0, q1⟩ := RdP.get' (Own.rd h.o1) hg
  have hkn : (k : Int) < (n1 : Int) := by have := HL.out; omega
  have hk0 : (0 : Int) ≤ (k : Int) := by omega
  have hkk : ¬ (k : Int) < 0 := by omega
  have hn1 : n1 ≤ 100 := by have := HL.out; omega
  have hn1i : (n1 : Int) ≤ 100 := by omega
  have hh : Hd (w.heap[g]? = some (.cells #[.slice (some ad) n1 c1, .int .i64 (k : Int), .slice A2 n2 c2] 175 (0, 0))) := ⟨by rw [h.heap, hk]⟩
  have hgl := h.glt
  have Q0 := Hd.mk q0
  have Q1 := Hd.mk q1
  rw [hk] at a1
  clear h hi hneg hg q0 q1 hk hkl hl
  go_enter Try.func165, Try.ntmps165
  go_wp2_with fail
  clear a0 a1 a2 af
  refine region_zone 12 [false, false, false, false, false, false, false, false, false, false, false, false] (by kernel_rfl) (by kernel_rfl) hmix (fun w' => Below w.heap.size w w') [] ?_ (fun hS => ?_)
  · exact below_drew w
  refine wpAnyZ_take0 (i := 0) (oi := ⟨_, _, _, _, _, _⟩) (v := ?_) rfl (by decide +kernel) (fun _ _ _ h => h) (Or.inl ⟨by rfl, ?_⟩) (fun _ => hS) ?_
  rotate_left
  focus (intro w _; go_simp; (try with_reducible rfl); done)
  simp only [Act.put, List.setIfInBounds_toArray, List.set_cons_zero, List.set_cons_succ]
  refine wpAnyZ_take0 (i := 1) (oi := ⟨_, _, _, _, _, _⟩) (v := ?_) rfl (by decide +kernel) (fun _ _ _ h => h) (Or.inl ⟨by rfl, ?_⟩) (fun _ => hS) ?_
  rotate_left
  focus (intro w _; go_simp; (try with_reducible rfl); done)
  simp only [Act.put, List.setIfInBounds_toArray, List.set_cons_zero, List.set_cons_succ]
  refine wpAnyZ_take0 (i := 2) (oi := ⟨_, _, _, _, _, _⟩) (v := ?_) rfl (by decide +kernel) (fun _ _ _ h => h) (Or.inl ⟨by rfl, ?_⟩) (fun _ => hS) ?_
  rotate_left
  focus (intro w _; go_simp; (try with_reducible rfl); done)
  simp only [Act.put, List.setIfInBounds_toArray, List.set_cons_zero, List.set_cons_succ]
  refine wpAnyZ_take (i := 3) (oi := ⟨_, _, _, _, _, _⟩) (v := ?_) rfl (by decide +kernel) (fun _ _ _ h => h) (Or.inl ⟨by rfl, ?_⟩) hS ?_
  rotate_left
  focus (intro w hSw; (try dsimp only at hSw); (obtain ⟨z0, z1, z2, zf⟩ := ref_cells ((hSw.block g hgl).trans hh.out); have x0 := below_cell hSw Q0.out; have x1 := below_cell hSw Q1.out; clear hSw); go_simp; (try with_reducible rfl); done)
  simp only [Act.put, List.setIfInBounds_toArray, List.set_cons_zero, List.set_cons_succ]
  refine wpAnyZ_take0 (i := 4) (oi := ⟨_, _, _, _, _, _⟩) (v := ?_) rfl (by decide +kernel) (fun _ _ _ h => h) (Or.inl ⟨by rfl, ?_⟩) (fun _ => hS) ?_
  rotate_left
  focus (intro w _; go_simp; (try with_reducible rfl); done)
  simp only [Act.put, List.setIfInBounds_toArray, List.set_cons_zero, List.set_cons_succ]
  refine wpAnyZ_take0 (i := 5) (oi := ⟨_, _, _, _, _, _⟩) (v := ?_) rfl (by decide +kernel) (fun _ _ _ h => h) (Or.inl ⟨by rfl, ?_⟩) (fun _ => hS) ?_
  rotate_left
  focus (intro w _; go_simp; (try with_reducible rfl); done)
  simp only [Act.put, List.setIfInBounds_toArray, List.set_cons_zero, List.set_cons_succ]
  refine wpAnyZ_take0 (i := 6) (oi := ⟨_, _, _, _, _, _⟩) (v := ?_) rfl (by decide +kernel) (fun _ _ _ h => h) (Or.inl ⟨by rfl, ?_⟩) (fun _ => hS) ?_
  rotate_left
  focus (intro w _; go_simp; (try with_reducible rfl); done)
  simp only [Act.put, List.setIfInBounds_toArray, List.set_cons_zero, List.set_cons_succ]
  refine wpAnyZ_take (i := 7) (oi := ⟨_, _, _, _, _, _⟩) (v := ?_) rfl (by decide +kernel) (fun _ _ _ h => h) (Or.inl ⟨by rfl, ?_⟩) hS ?_
  rotate_left
  focus (intro w hSw; (try dsimp only at hSw); (obtain ⟨z0, z1, z2, zf⟩ := ref_cells ((hSw.block g hgl).trans hh.out); have x0 := below_cell hSw Q0.out; have x1 := below_cell hSw Q1.out; clear hSw); go_simp; (try with_reducible rfl); done)
  simp only [Act.put, List.setIfInBounds_toArray, List.set_cons_zero, List.set_cons_succ]
  refine wpAnyZ_take0 (i := 8) (oi := ⟨_, _, _, _, _, _⟩) (v := ?_) rfl (by decide +kernel) (fun _ _ _ h => h) (Or.inl ⟨by rfl, ?_⟩) (fun _ => hS) ?_
  rotate_left
  focus (intro w _; go_simp; (try with_reducible rfl); done)
  simp only [Act.put, List.setIfInBounds_toArray, List.set_cons_zero, List.set_cons_succ]
  refine wpAnyZ_take (i := 9) (oi := ⟨_, _, _, _, _, _⟩) (v := ?_) rfl (by decide +kernel) (fun _ _ _ h => h) (Or.inl ⟨by rfl, ?_⟩) hS ?_
  rotate_left
  focus (intro w hSw; (try dsimp only at hSw); (obtain ⟨z0, z1, z2, zf⟩ := ref_cells ((hSw.block g hgl).trans hh.out); have x0 := below_cell hSw Q0.out; have x1 := below_cell hSw Q1.out; clear hSw); go_simp; (try with_reducible rfl); done)
  simp only [Act.put, List.setIfInBounds_toArray, List.set_cons_zero, List.set_cons_succ]
  refine wpAnyZ_one (i := 10) rfl (by decide +kernel) (fun K hKK => ?_)
  go_simp
  have S1 := (below_drew w).trans (below_alloc w.drew (.cells #[.int .i64 px, .int .i64 py] 58))
  clear hS
  have hS := S1
  refine hKK.out _ _ (fun _ => hS) ?_
  clear hKK
  refine wpAnyZ_take0 (i := 11) (oi := ⟨_, _, _, _, _, _⟩) (v := ?_) rfl (by decide +kernel) (fun _ _ _ h => h) (Or.inl ⟨by rfl, ?_⟩) (fun _ => hS) ?_
  rotate_left
  focus (intro w _; go_simp; (try with_reducible rfl); done)
  simp only [Act.put, List.setIfInBounds_toArray, List.set_cons_zero, List.set_cons_succ]
  refine wpAnyZ_done (by decide +kernel) ?_
  have O1 := Hd.mk (own1 (w := w.drew) (base := w.heap.size) (px, py) (Nat.le_refl _))
  have B1 := Hd.mk S1
  obtain ⟨u1, hu1⟩ : ∃ u, Hd (w.drew.alloc (.cells #[.int .i64 px, .int .i64 py] 58) = u) := ⟨_, ⟨rfl⟩⟩
  rw [show (w.alloc (.cells #[.int .i64 px, .int .i64 py] 58)).drew = w.drew.alloc (.cells #[.int .i64 px, .int .i64 py] 58) from rfl]
  rw [hu1.out] at B1 ⊢
  have O1' : Hd (OwnP u1 w.heap.size (some ⟨w.heap.size, 0, none⟩) 1 1 [(px, py)]) := ⟨hu1.out ▸ O1.out⟩
  obtain ⟨a0, a1, a2, af⟩ := ref_cells ((B1.out.block g hgl).trans hh.out)
  clear hS S1 O1 hu1
  go_wp2_with fail
  clear a0 a1 a2 af
  go_loopw [2, 3] (fun v i wr => ∃ (t : Nat) (A' : Option Addr) (n' c' : Nat), v = .slice A' n' c' ∧ i = .int .i64 ((t : Int) - 1) ∧ t ≤ k ∧ OwnP wr w.heap.size A' n' c' ((apartP (px, py) ((r.row.take k).drop t).reverse).reverse ++ [(px, py)]) ∧ Hd (Below w.heap.size w wr))
    (fun _ i _ => (intOf i + 1).toNat)
  case atStart => exact ⟨k, _, 1, 1, rfl, rfl, Nat.le_refl _, by rw [List.drop_of_length_le (by rw [List.length_take]; omega)]; exact O1'.out, B1⟩
  case round =>
    obtain ⟨t, A', n', c', rfl, rfl, ht, ho, hb⟩ := hrel
    have hln := Hd.mk (OwnP.len ho)
    have hlb := Hd.mk (apartP_len (px, py) ((r.row.take k).drop t).reverse)
    have hn' : n' ≤ 101 := by
      have h1 := hln.out
      have h2 := hlb.out
      simp only [List.length_append, List.length_reverse, List.length_drop, List.length_take, List.length_singleton] at h1 h2
      omega
    have hhr := Hd.mk ((hb.out.block g hgl).trans hh.out)
    have hgr : g < wr.heap.size := Nat.lt_of_lt_of_le hgl hb.out.size
    have hsz := Hd.mk hb.out.size
    by_cases hlt : 0 < t
    · obtain ⟨u, rfl⟩ : ∃ u, t = u + 1 := ⟨t - 1, by omega⟩
      obtain ⟨⟨qx, qy⟩, hq⟩ : ∃ q, r.row[u]? = some q := ⟨r.row[u]'(by have := HL.out; omega), List.getElem?_eq_getElem _⟩
      obtain ⟨ad2, e, p0, p1⟩ := RdP.get' (Rd.below (Own.rd H.out.o1) hb.out) hq
      injection e with e
      subst e
      have hui : (u : Int) < (n1 : Int) := by omega
      have hu0 : (0 : Int) ≤ (u : Int) := by omega
      have hge : ((u + 1 : Nat) : Int) - 1 = (u : Int) := by omega
      rw [hge]
      have hX : Hd (((r.row.take k).drop u).reverse = ((r.row.take k).drop (u + 1)).reverse ++ [(qx, qy)]) := ⟨by
        have hlu : u < (r.row.take k).length := by rw [List.length_take]; have := HL.out; omega
        rw [List.drop_eq_getElem_cons hlu]
        simp only [List.reverse_cons]
        congr 2
        rw [List.getElem_take]
        exact (List.getElem?_eq_some_iff.1 hq).2⟩
      obtain ⟨X, hXd⟩ : ∃ X, Hd (((r.row.take k).drop (u + 1)).reverse = X) := ⟨_, ⟨rfl⟩⟩
      rw [hXd.out] at hX ho hlb hln
      obtain ⟨⟨lx, ly⟩, hlast⟩ : ∃ p, Hd (X.getLastD (px, py) = p) := ⟨_, ⟨rfl⟩⟩
      have hh0 := head_rev (px, py) X
      rw [hlast.out] at hh0
      obtain ⟨ad3, rfl, y0, y1⟩ := RdP.get' (Own.rd ho) hh0
      rw [show (0 * 2 : Nat) = 0 from rfl, show ∀ a : Addr, a.add 0 = a from fun a => by simp [Addr.add]] at y0 y1
      have hn0 : 0 < n' := by have := hln.out; simp only [List.length_append, List.length_singleton] at this; omega
      have hn0i : (0 : Int) < (n' : Int) := by omega
      have hsn := Hd.mk (apartP_snoc (px, py) (qx, qy) X)
      rw [hlast.out, ← hX.out] at hsn
      have P0 := Hd.mk p0
      have P1 := Hd.mk p1
      have Y0 := Hd.mk y0
      have Y1 := Hd.mk y1
      have HO := Hd.mk ho
      clear p0 p1 y0 y1 ho hh0 hq hge hX
      go_wp2_with fail
      refine region_zone 12 [false, false, false, false, false, false, false, false, false, false, false, false] (by kernel_rfl) (by kernel_rfl) hmix (fun w' => Below wr.heap.size wr w') [] ?_ (fun hS => ?_)
      · exact below_drew wr
      refine wpAnyZ_take0 (i := 0) (oi := ⟨_, _, _, _, _, _⟩) (v := ?_) rfl (by decide +kernel) (fun _ _ _ h => h) (Or.inl ⟨by rfl, ?_⟩) (fun _ => hS) ?_
      rotate_left
      focus (intro w _; go_simp; (try with_reducible rfl); done)
      simp only [Act.put, List.setIfInBounds_toArray, List.set_cons_zero, List.set_cons_succ]
      refine wpAnyZ_take0 (i := 1) (oi := ⟨_, _, _, _, _, _⟩) (v := ?_) rfl (by decide +kernel) (fun _ _ _ h => h) (Or.inl ⟨by rfl, ?_⟩) (fun _ => hS) ?_
      rotate_left
      focus (intro w _; go_simp; (try with_reducible rfl); done)
      simp only [Act.put, List.setIfInBounds_toArray, List.set_cons_zero, List.set_cons_succ]
      refine wpAnyZ_take0 (i := 2) (oi := ⟨_, _, _, _, _, _⟩) (v := ?_) rfl (by decide +kernel) (fun _ _ _ h => h) (Or.inl ⟨by rfl, ?_⟩) (fun _ => hS) ?_
      rotate_left
      focus (intro w _; go_simp; (try with_reducible rfl); done)
      simp only [Act.put, List.setIfInBounds_toArray, List.set_cons_zero, List.set_cons_succ]
      refine wpAnyZ_take (i := 3) (oi := ⟨_, _, _, _, _, _⟩) (v := ?_) rfl (by decide +kernel) (fun _ _ _ h => h) (Or.inl ⟨by rfl, ?_⟩) hS ?_
      rotate_left
      focus (intro w hSw; (try dsimp only at hSw); (obtain ⟨z0, z1, z2, zf⟩ := ref_cells ((hSw.block g hgr).trans hhr.out); have y0 := below_cell hSw P0.out; have y1 := below_cell hSw P1.out; have x0 := below_cell hSw Y0.out; have x1 := below_cell hSw Y1.out; clear hSw); go_simp; (try with_reducible rfl); done)
      simp only [Act.put, List.setIfInBounds_toArray, List.set_cons_zero, List.set_cons_succ]
      refine wpAnyZ_take0 (i := 4) (oi := ⟨_, _, _, _, _, _⟩) (v := ?_) rfl (by decide +kernel) (fun _ _ _ h => h) (Or.inl ⟨by rfl, ?_⟩) (fun _ => hS) ?_
      rotate_left
      focus (intro w _; go_simp; (try with_reducible rfl); done)
      simp only [Act.put, List.setIfInBounds_toArray, List.set_cons_zero, List.set_cons_succ]
      refine wpAnyZ_take0 (i := 5) (oi := ⟨_, _, _, _, _, _⟩) (v := ?_) rfl (by decide +kernel) (fun _ _ _ h => h) (Or.inl ⟨by rfl, ?_⟩) (fun _ => hS) ?_
      rotate_left
      focus (intro w _; go_simp; (try with_reducible rfl); done)
      simp only [Act.put, List.setIfInBounds_toArray, List.set_cons_zero, List.set_cons_succ]
      refine wpAnyZ_take (i := 6) (oi := ⟨_, _, _, _, _, _⟩) (v := ?_) rfl (by decide +kernel) (fun _ _ _ h => h) (Or.inl ⟨by rfl, ?_⟩) hS ?_
      rotate_left
      focus (intro w hSw; (try dsimp only at hSw); (obtain ⟨z0, z1, z2, zf⟩ := ref_cells ((hSw.block g hgr).trans hhr.out); have y0 := below_cell hSw P0.out; have y1 := below_cell hSw P1.out; have x0 := below_cell hSw Y0.out; have x1 := below_cell hSw Y1.out; clear hSw); go_simp; (try with_reducible rfl); done)
      simp only [Act.put, List.setIfInBounds_toArray, List.set_cons_zero, List.set_cons_succ]
      refine wpAnyZ_take0 (i := 7) (oi := ⟨_, _, _, _, _, _⟩) (v := ?_) rfl (by decide +kernel) (fun _ _ _ h => h) (Or.inl ⟨by rfl, ?_⟩) (fun _ => hS) ?_
      rotate_left
      focus (intro w _; go_simp; (try with_reducible rfl); done)
      simp only [Act.put, List.setIfInBounds_toArray, List.set_cons_zero, List.set_cons_succ]
      refine wpAnyZ_take0 (i := 8) (oi := ⟨_, _, _, _, _, _⟩) (v := ?_) rfl (by decide +kernel) (fun _ _ _ h => h) (Or.inl ⟨by rfl, ?_⟩) (fun _ => hS) ?_
      rotate_left
      focus (intro w _; go_simp; (try with_reducible rfl); done)
      simp only [Act.put, List.setIfInBounds_toArray, List.set_cons_zero, List.set_cons_succ]
      refine wpAnyZ_take (i := 9) (oi := ⟨_, _, _, _, _, _⟩) (v := ?_) rfl (by decide +kernel) (fun _ _ _ h => h) (Or.inl ⟨by rfl, ?_⟩) hS ?_
      rotate_left
      focus (intro w hSw; (try dsimp only at hSw); (obtain ⟨z0, z1, z2, zf⟩ := ref_cells ((hSw.block g hgr).trans hhr.out); have y0 := below_cell hSw P0.out; have y1 := below_cell hSw P1.out; have x0 := below_cell hSw Y0.out; have x1 := below_cell hSw Y1.out; clear hSw); go_simp; (try with_reducible rfl); done)
      simp only [Act.put, List.setIfInBounds_toArray, List.set_cons_zero, List.set_cons_succ]
      refine wpAnyZ_one (i := 10) rfl (by decide +kernel) (fun K hKK => ?_)
      go_simp
      refine (same106 (qx, qy) (lx, ly) _).mono ?_
      rintro e w3 ⟨rfl, b3⟩
      have hb3 := Hd.mk ((below_drew wr).trans b3)
      have hB := Hd.mk (hb.out.trans (hb3.out.mono hb.out.size))
      clear hS
      have hS := hb3.out
      refine hKK.out _ _ (fun _ => hS) ?_
      clear hKK
      refine wpAnyZ_take0 (i := 11) (oi := ⟨_, _, _, _, _, _⟩) (v := ?_) rfl (by decide +kernel) (fun _ _ _ h => h) (Or.inl ⟨by rfl, ?_⟩) (fun _ => hS) ?_
      rotate_left
      focus (intro w _; go_simp; (try with_reducible rfl); done)
      simp only [Act.put, List.setIfInBounds_toArray, List.set_cons_zero, List.set_cons_succ]
      refine wpAnyZ_done (by decide +kernel) ?_
      clear hS
      have O3 := Hd.mk (Own.below HO.out hb3.out)
      by_cases hpq : (qx, qy) = (lx, ly)
      · have hd : (!decide (qx = lx) || !decide (qy = ly)) = false := by cases hdd : (!decide (qx = lx) || !decide (qy = ly)) <;> simp_all
        simp only [hd]
        have hsn' := Hd.mk hsn.out
        rw [if_pos hpq, List.append_nil] at hsn'
        go_wp2_with fail
        go_roundw
        case rel => exact ⟨u, _, n', c', rfl, by go_num, by omega, by rw [hsn'.out]; exact O3.out, hB⟩
        case measure => simp [intOf]
      · have hd : (!decide (qx = lx) || !decide (qy = ly)) = true := by cases hdd : (!decide (qx = lx) || !decide (qy = ly)) <;> simp_all
        simp only [hd]
        have hsn' := Hd.mk hsn.out
        rw [if_neg hpq] at hsn'
        obtain ⟨a0, a1, a2, af⟩ := ref_cells ((hb3.out.block g hgr).trans hhr.out)
        have z0 := below_cell hb3.out P0.out
        have z1 := below_cell hb3.out P1.out
        have hsz3 := Hd.mk (Nat.le_trans hsz.out hb3.out.size)
        have hA3 := Hd.mk (below_alloc w3 (.cells #[.int .i64 qx, .int .i64 qy] 58))
        go_wp2_with (at_builtin; refine wl_appP rfl (.tmp 50) (.tmp 51) rfl (m := n') rfl rfl (own1 (w := w3) (base := w.heap.size) (qx, qy) hsz3.out) (Rd.alloc (Own.rd O3.out) _) (by omega) (Nat.le_trans hsz3.out hA3.out.size) ?_; rintro v w4 ⟨A4, c4, rfl, ho4, hg4, _⟩)
        clear a0 a1 a2 af z0 z1
        have hB4 := Hd.mk (((hB.out.trans (hA3.out.mono hB.out.size))).grown hg4 (Nat.le_trans hsz3.out hA3.out.size) (fun q e => (Own.lt (own1 (w := w3) (base := w.heap.size) (qx, qy) hsz3.out) e).1))
        go_roundw
        case rel =>
          refine ⟨u, A4, 1 + n', c4, rfl, by go_num, by omega, ?_, hB4⟩
          rw [hsn'.out]
          simpa using ho4
        case measure => simp [intOf]
    · obtain rfl : t = 0 := by omega
      have hge : ¬ (((0 : Nat) : Int) - 1 ≥ 0) := by omega
      rw [List.drop_zero] at ho hlb hln
      obtain ⟨L, hL⟩ : ∃ L, Hd ((apartP (px, py) (r.row.take k).reverse).reverse = L) := ⟨_, ⟨rfl⟩⟩
      rw [hL.out] at ho hln hr
      have O5 := Hd.mk ho
      have hwn : IntKind.i64.wrap ((n' : Int) - 1) = (n' : Int) - 1 := IntWalk.i64_in _ (by omega)
      obtain ⟨a0, a1, a2, af⟩ := ref_cells hhr.out
      clear ho hlt
      go_wp2_with fail
      clear a0 a1 a2 af
      obtain ⟨W5, hW5⟩ : ∃ u, u = wr := ⟨_, rfl⟩
      subst hW5
      have hNL : n' ≤ 100 + 1 := hn'
      have hlnL : Hd (L.length + 1 = n') := ⟨by have := hln.out; simpa using this⟩
      have hwk1 : IntKind.i64.wrap ((k : Int) + 1) = (k : Int) + 1 := IntWalk.i64_in _ (by omega)
      go_loopw [2, 5] (fun v i wr => ∃ (j : Nat) (A' : Option Addr) (m' c' : Nat), v = .slice A' m' c' ∧ i = .int .i64 ((k : Int) + 1 + (j : Int)) ∧ k + 1 + j ≤ n1 ∧ OwnP wr w.heap.size A' m' c' (L ++ [(px, py)] ++ apartP (px, py) ((r.row.drop (k + 1)).take j)) ∧ Hd (Below w.heap.size w wr))
        (fun _ i _ => n1 - (intOf i).toNat)
      case atStart => exact ⟨0, _, n', c', rfl, by simp, by omega, by simpa [apartP] using O5.out, hb⟩
      case round =>
        obtain ⟨j, A'', m', c'', rfl, rfl, hj, ho, hb2⟩ := hrel
        have hln2 := Hd.mk (OwnP.len ho)
        have hlb2 := Hd.mk (apartP_len (px, py) ((r.row.drop (k + 1)).take j))
        have hm' : m' ≤ 202 := by
          have h1 := hln2.out
          have h2 := hlb2.out
          have h3 := hlnL.out
          simp only [List.length_append, List.length_take, List.length_singleton] at h1 h2
          omega
        have hhr2 := Hd.mk ((hb2.out.block g hgl).trans hh.out)
        have hgr2 : g < wr.heap.size := Nat.lt_of_lt_of_le hgl hb2.out.size
        have hsz2 := Hd.mk hb2.out.size
        obtain ⟨a0, a1, a2, af⟩ := ref_cells hhr2.out
        by_cases hlt2 : k + 1 + j < n1
        · obtain ⟨⟨qx, qy⟩, hq⟩ : ∃ q, r.row[k + 1 + j]? = some q := ⟨r.row[k + 1 + j]'(by have := HL.out; omega), List.getElem?_eq_getElem _⟩
          obtain ⟨ad2, e, p0, p1⟩ := RdP.get' (Rd.below (Own.rd H.out.o1) hb2.out) hq
          injection e with e
          subst e
          obtain ⟨u, hu⟩ : ∃ u : Nat, Hd (k + 1 + j = u) := ⟨_, ⟨rfl⟩⟩
          have hui : (k : Int) + 1 + (j : Int) = (u : Int) := by have := hu.out; omega
          rw [hui]
          rw [hu.out] at p0 p1
          have hun : (u : Int) < (n1 : Int) := by have := hu.out; omega
          have hu0 : (0 : Int) ≤ (u : Int) := by omega
          have hub : (u : Int) ≤ 1000 := by omega
          have hX : Hd ((r.row.drop (k + 1)).take (j + 1) = (r.row.drop (k + 1)).take j ++ [(qx, qy)]) := ⟨by
            refine take_snocP ?_
            rw [List.getElem?_drop]
            exact hq⟩
          obtain ⟨X, hXd⟩ : ∃ X, Hd ((r.row.drop (k + 1)).take j = X) := ⟨_, ⟨rfl⟩⟩
          rw [hXd.out] at hX ho hlb2 hln2
          obtain ⟨⟨lx, ly⟩, hlast⟩ : ∃ p, Hd (X.getLastD (px, py) = p) := ⟨_, ⟨rfl⟩⟩
          have hh0 := last_app (px, py) L X
          rw [hlast.out, hln2.out] at hh0
          have hm0 : 0 < m' := by have := hln2.out; simp only [List.length_append, List.length_singleton] at this; omega
          obtain ⟨ad3, rfl, y0, y1⟩ := RdP.get' (Own.rd ho) hh0
          obtain ⟨z, hz⟩ : ∃ z, m' = z + 1 := ⟨m' - 1, by omega⟩
          subst hz
          rw [Nat.add_sub_cancel] at y0 y1
          have hzi : (z : Int) < ((z : Int) + 1) := by omega
          have hz0 : (0 : Int) ≤ (z : Int) := by omega
          have hzb : (z : Int) ≤ 1000 := by omega
          have hzw : IntKind.i64.wrap (z : Int) = (z : Int) := IntWalk.i64_in _ (by omega)
          have hsn := Hd.mk (apartP_snoc (px, py) (qx, qy) X)
          rw [hlast.out, ← hX.out] at hsn
          have P0 := Hd.mk p0
          have P1 := Hd.mk p1
          have Y0 := Hd.mk y0
          have Y1 := Hd.mk y1
          have HO := Hd.mk ho
          clear p0 p1 y0 y1 ho hh0 hq hX hlb2
          go_wp2_with fail
          clear a0 a1 a2 af
          refine region_zone 15 [false, false, false, false, false, false, false, false, false, false, false, false, false, false, false] (by kernel_rfl) (by kernel_rfl) hmix (fun w' => Below wr.heap.size wr w') [] ?_ (fun hS => ?_)
          · exact below_drew wr
          refine wpAnyZ_take0 (i := 0) (oi := ⟨_, _, _, _, _, _⟩) (v := ?_) rfl (by decide +kernel) (fun _ _ _ h => h) (Or.inl ⟨by rfl, ?_⟩) (fun _ => hS) ?_
          rotate_left
          focus (intro w _; go_simp; (try with_reducible rfl); done)
          simp only [Act.put, List.setIfInBounds_toArray, List.set_cons_zero, List.set_cons_succ]
          refine wpAnyZ_take0 (i := 1) (oi := ⟨_, _, _, _, _, _⟩) (v := ?_) rfl (by decide +kernel) (fun _ _ _ h => h) (Or.inl ⟨by rfl, ?_⟩) (fun _ => hS) ?_
          rotate_left
          focus (intro w _; go_simp; (try with_reducible rfl); done)
          simp only [Act.put, List.setIfInBounds_toArray, List.set_cons_zero, List.set_cons_succ]
          refine wpAnyZ_take0 (i := 2) (oi := ⟨_, _, _, _, _, _⟩) (v := ?_) rfl (by decide +kernel) (fun _ _ _ h => h) (Or.inl ⟨by rfl, ?_⟩) (fun _ => hS) ?_
          rotate_left
          focus (intro w _; go_simp; (try with_reducible rfl); done)
          simp only [Act.put, List.setIfInBounds_toArray, List.set_cons_zero, List.set_cons_succ]
          refine wpAnyZ_take (i := 3) (oi := ⟨_, _, _, _, _, _⟩) (v := ?_) rfl (by decide +kernel) (fun _ _ _ h => h) (Or.inl ⟨by rfl, ?_⟩) hS ?_
          rotate_left
          focus (intro w hSw; (try dsimp only at hSw); (obtain ⟨z0, z1, z2, zf⟩ := ref_cells ((hSw.block g hgr2).trans hhr2.out); have y0 := below_cell hSw P0.out; have y1 := below_cell hSw P1.out; have x0 := below_cell hSw Y0.out; have x1 := below_cell hSw Y1.out; clear hSw); go_simp; (try with_reducible rfl); done)
          simp only [Act.put, List.setIfInBounds_toArray, List.set_cons_zero, List.set_cons_succ]
          refine wpAnyZ_take0 (i := 4) (oi := ⟨_, _, _, _, _, _⟩) (v := ?_) rfl (by decide +kernel) (fun _ _ _ h => h) (Or.inl ⟨by rfl, ?_⟩) (fun _ => hS) ?_
          rotate_left
          focus (intro w _; go_simp; (try with_reducible rfl); done)
          simp only [Act.put, List.setIfInBounds_toArray, List.set_cons_zero, List.set_cons_succ]
          refine wpAnyZ_take0 (i := 5) (oi := ⟨_, _, _, _, _, _⟩) (v := ?_) rfl (by decide +kernel) (fun _ _ _ h => h) (Or.inl ⟨by rfl, ?_⟩) (fun _ => hS) ?_
          rotate_left
          focus (intro w _; go_simp; (try with_reducible rfl); done)
          simp only [Act.put, List.setIfInBounds_toArray, List.set_cons_zero, List.set_cons_succ]
          refine wpAnyZ_take (i := 6) (oi := ⟨_, _, _, _, _, _⟩) (v := ?_) rfl (by decide +kernel) (fun _ _ _ h => h) (Or.inl ⟨by rfl, ?_⟩) hS ?_
          rotate_left
          focus (intro w hSw; (try dsimp only at hSw); (obtain ⟨z0, z1, z2, zf⟩ := ref_cells ((hSw.block g hgr2).trans hhr2.out); have y0 := below_cell hSw P0.out; have y1 := below_cell hSw P1.out; have x0 := below_cell hSw Y0.out; have x1 := below_cell hSw Y1.out; clear hSw); go_simp; (try with_reducible rfl); done)
          simp only [Act.put, List.setIfInBounds_toArray, List.set_cons_zero, List.set_cons_succ]
          refine wpAnyZ_take0 (i := 7) (oi := ⟨_, _, _, _, _, _⟩) (v := ?_) rfl (by decide +kernel) (fun _ _ _ h => h) (Or.inl ⟨by rfl, ?_⟩) (fun _ => hS) ?_
          rotate_left
          focus (intro w _; go_simp; (try with_reducible rfl); done)
          simp only [Act.put, List.setIfInBounds_toArray, List.set_cons_zero, List.set_cons_succ]
          refine wpAnyZ_take0 (i := 8) (oi := ⟨_, _, _, _, _, _⟩) (v := ?_) rfl (by decide +kernel) (fun _ _ _ h => h) (Or.inl ⟨by rfl, ?_⟩) (fun _ => hS) ?_
          rotate_left
          focus (intro w _; go_simp; (try with_reducible rfl); done)
          simp only [Act.put, List.setIfInBounds_toArray, List.set_cons_zero, List.set_cons_succ]
          refine wpAnyZ_take0 (i := 9) (oi := ⟨_, _, _, _, _, _⟩) (v := ?_) rfl (by decide +kernel) (fun _ _ _ h => h) (Or.inl ⟨by rfl, ?_⟩) (fun _ => hS) ?_
          rotate_left
          focus (intro w _; go_simp; (try with_reducible rfl); done)
          simp only [Act.put, List.setIfInBounds_toArray, List.set_cons_zero, List.set_cons_succ]
          refine wpAnyZ_take0 (i := 10) (oi := ⟨_, _, _, _, _, _⟩) (v := ?_) rfl (by decide +kernel) (fun _ _ _ h => h) (Or.inl ⟨by rfl, ?_⟩) (fun _ => hS) ?_
          rotate_left
          focus (intro w _; go_simp; (try with_reducible rfl); done)
          simp only [Act.put, List.setIfInBounds_toArray, List.set_cons_zero, List.set_cons_succ]
          refine wpAnyZ_take0 (i := 11) (oi := ⟨_, _, _, _, _, _⟩) (v := ?_) rfl (by decide +kernel) (fun _ _ _ h => h) (Or.inl ⟨by rfl, ?_⟩) (fun _ => hS) ?_
          rotate_left
          focus (intro w _; go_simp; (try with_reducible rfl); done)
          simp only [Act.put, List.setIfInBounds_toArray, List.set_cons_zero, List.set_cons_succ]
          refine wpAnyZ_take (i := 12) (oi := ⟨_, _, _, _, _, _⟩) (v := ?_) rfl (by decide +kernel) (fun _ _ _ h => h) (Or.inl ⟨by rfl, ?_⟩) hS ?_
          rotate_left
          focus (intro w hSw; (try dsimp only at hSw); (obtain ⟨z0, z1, z2, zf⟩ := ref_cells ((hSw.block g hgr2).trans hhr2.out); have y0 := below_cell hSw P0.out; have y1 := below_cell hSw P1.out; have x0 := below_cell hSw Y0.out; have x1 := below_cell hSw Y1.out; clear hSw); go_simp; (try with_reducible rfl); done)
          simp only [Act.put, List.setIfInBounds_toArray, List.set_cons_zero, List.set_cons_succ]
          refine wpAnyZ_one (i := 13) rfl (by decide +kernel) (fun K hKK => ?_)
          go_simp
          refine (same106 (qx, qy) (lx, ly) _).mono ?_
          rintro e w3 ⟨rfl, b3⟩
          have hb3 := Hd.mk ((below_drew wr).trans b3)
          have hB := Hd.mk (hb2.out.trans (hb3.out.mono hb2.out.size))
          clear hS
          have hS := hb3.out
          refine hKK.out _ _ (fun _ => hS) ?_
          clear hKK
          refine wpAnyZ_take0 (i := 14) (oi := ⟨_, _, _, _, _, _⟩) (v := ?_) rfl (by decide +kernel) (fun _ _ _ h => h) (Or.inl ⟨by rfl, ?_⟩) (fun _ => hS) ?_
          rotate_left
          focus (intro w _; go_simp; (try with_reducible rfl); done)
          simp only [Act.put, List.setIfInBounds_toArray, List.set_cons_zero, List.set_cons_succ]
          refine wpAnyZ_done (by decide +kernel) ?_
          clear hS
          have O3 := Hd.mk (Own.below HO.out hb3.out)
          by_cases hpq : (qx, qy) = (lx, ly)
          · have hd : (!decide (qx = lx) || !decide (qy = ly)) = false := by cases hdd : (!decide (qx = lx) || !decide (qy = ly)) <;> simp_all
            simp only [hd]
            have hsn' := Hd.mk hsn.out
            rw [if_pos hpq, List.append_nil] at hsn'
            go_wp2_with fail
            go_roundw
            case rel => exact ⟨j + 1, _, z + 1, c'', rfl, by have := hu.out; go_num, by have := hu.out; omega, by rw [hsn'.out]; exact O3.out, hB⟩
            case measure => simp [intOf]; omega
          · have hd : (!decide (qx = lx) || !decide (qy = ly)) = true := by cases hdd : (!decide (qx = lx) || !decide (qy = ly)) <;> simp_all
            simp only [hd]
            have hsn' := Hd.mk hsn.out
            rw [if_neg hpq] at hsn'
            obtain ⟨a0, a1, a2, af⟩ := ref_cells ((hb3.out.block g hgr2).trans hhr2.out)
            have z0 := below_cell hb3.out P0.out
            have z1 := below_cell hb3.out P1.out
            have hsz3 := Hd.mk (Nat.le_trans hsz2.out hb3.out.size)
            have hA3 := Hd.mk (below_alloc w3 (.cells #[.int .i64 qx, .int .i64 qy] 58))
            go_wp2_with (at_builtin; refine wl_appP rfl (.tmp 85) (.tmp 93) rfl (m := 1) rfl rfl (Own.alloc O3.out _) (RdP.newAt w3 [(qx, qy)] (cs := #[.int .i64 qx, .int .i64 qy]) rfl rfl rfl) (by omega) (Nat.le_trans hsz3.out hA3.out.size) ?_; rintro v w4 ⟨A4, c4, rfl, ho4, hg4, _⟩)
            clear a0 a1 a2 af z0 z1
            have hB4 := Hd.mk (((hB.out.trans (hA3.out.mono hB.out.size))).grown hg4 (Nat.le_trans hsz3.out hA3.out.size) (fun q e => (Own.lt O3.out e).1))
            go_roundw
            case rel =>
              refine ⟨j + 1, A4, z + 1 + 1, c4, rfl, by have := hu.out; go_num, by have := hu.out; omega, ?_, hB4⟩
              rw [hsn'.out, ← List.append_assoc]
              exact ho4
            case measure => simp [intOf]; omega
        · obtain hjn : k + 1 + j = n1 := by omega
          have hji : ¬ ((k : Int) + 1 + (j : Int) < (n1 : Int)) := by omega
          have hfull : Hd ((r.row.drop (k + 1)).take j = r.row.drop (k + 1)) := ⟨List.take_of_length_le (by rw [List.length_drop, HL.out]; omega)⟩
          rw [hfull.out] at ho
          have O6 := Hd.mk ho
          have af0 := af 0
          have af1 := af 1
          clear ho
          go_wp2_with fail
          clear a0 a1 a2 af af0 af1
          go_end0
          have y1 := heap_setCell_same wr g 0 _ 175 (.slice A'' m' c'') hhr2.out
          have y2 := heap_setCell_same _ g 1 _ 175 (.int .i64 ((n' : Int) - 1)) y1
          have T5 := ((Tch.of_below (F := F) hb2.out).trans (Tch.setCell _ wr g 0 (.slice A'' m' c'') (.inl (.inl H.out.fg)))).trans (Tch.setCell _ _ g 1 (.int .i64 ((n' : Int) - 1)) (.inl (.inl H.out.fg)))
          rw [hr.out]
          have hlen : (((L ++ [(px, py)]).length : Nat) : Int) - 1 = (n' : Int) - 1 := by rw [hln.out]
          rw [hlen]
          refine ⟨rfl, RefC.upd (r' := ⟨L ++ [(px, py)] ++ apartP (px, py) (r.row.drop (k + 1)), (n' : Int) - 1, r.m⟩) H.out y2 T5 (Own.mono (own_cell (own_cell O6.out hgl) hgl) (Nat.zero_le _)) (own_cell' (own_cell' (Own.below H.out.o2 hb2.out) H.out.ne2) H.out.ne2) (fun q e => .inr (Own.lt O6.out e).1) (fun q e => .inl e) (fun q e e' => ?_)⟩
          have h1 : w.heap.size ≤ q := (Own.lt O6.out e).1
          have h2 := H.out.lt q (H.out.f2 q e')
          omega
end Go.Proofs.Ytkgdcglnkodgnaa
namespace Go.Proofs.Ytkgdcglnkodgnaa
open Go.RowKit
theorem RefTo.trans {w w1 w2 : World} {g : Nat} {F : Nat → Prop} {r r' : RN} (h : RefTo w w1 g F r) (h' : RefTo w1 w2 g (up F w w1) r') : RefTo w w2 g F r' := by
  have h1 := h.2.size
  have h2 := h'.2.size
  refine ⟨h'.1.mono (fun k e => ?_) (fun k e => ?_), h.2.trans h'.2⟩
  · rcases e with (e | e) | e
    · exact .inl e
    · exact .inr ⟨e.1, by omega⟩
    · exact .inr ⟨by omega, e.2⟩
  · rcases e with e | e
    · have := h.1.lt k (.inl e); omega
    · exact e.2
theorem RefTo.drew {w w1 : World} {g : Nat} {F : Nat → Prop} {r : RN} (h : RefTo w w1 g F r) : RefTo w w1.drew g F r :=
  ⟨(h.1.below (below_drew w1)).mono (fun _ e => e) (fun k e => h.1.lt k e), tch_below h.2 (below_drew w1)⟩
theorem thin_len (r : RN) : r.thin.row.length ≤ r.row.length + 1 ∧ r.thin.m = r.m := by
  unfold RN.thin
  split
  · exact ⟨by omega, rfl⟩
  · refine ⟨?_, rfl⟩
    simp only [List.length_append, List.length_reverse, List.length_singleton]
    have h1 := apartP_len (r.get r.at') (r.row.take r.at'.toNat).reverse
    have h2 := apartP_len (r.get r.at') (r.row.drop (r.at' + 1).toNat)
    rw [List.length_reverse, List.length_take] at h1
    rw [List.length_drop] at h2
    omega
theorem leftP_len (t : Int) (l : List Pl) : (leftP t l).length ≤ l.length := (leftP_sub t l).length_le
theorem leftP_take_len (t : Int) (l : List Pl) (j : Nat) : (leftP t (l.take j)).length ≤ j := Nat.le_trans (leftP_len _ _) (by rw [List.length_take]; omega)
theorem atD_le (r : RN) (t : Int) (j : Nat) : r.atD t j < ((leftP t (r.row.take j)).length : Int) := by
  unfold RN.atD
  have : (leftP t (r.row.take (min j (r.at' + 1).toNat))).length ≤ (leftP t (r.row.take j)).length := by
    have e : r.row.take j = r.row.take (min j (r.at' + 1).toNat) ++ (r.row.take j).drop (min j (r.at' + 1).toNat) := by
      have := (List.take_append_drop (min j (r.at' + 1).toNat) (r.row.take j)).symm
      rw [List.take_take, Nat.min_eq_left (Nat.min_le_left _ _)] at this
      exact this
    rw [e, leftP_append, List.length_append]
    omega
  omega
theorem atD_bound (r : RN) (t : Int) (j : Nat) : -1 ≤ r.atD t j := by unfold RN.atD; omega
theorem cutD_ok (r : RN) (t : Int) : (r.cutD t).at' < (r.cutD t).row.length := by
  have h := atD_le r t r.row.length
  rw [List.take_length] at h
  unfold RN.cutD
  simp only
  split
  · rename_i h1; omega
  · exact h
set_option maxRecDepth 100000 in
set_option maxHeartbeats 4000000 in
theorem rdrop136 (g : Nat) (F : Nat → Prop) (r : RN) (t : Int) (w : World) (h : RefAt w g F r) (hi : RI r) :
    Calls Try.prog 136 #[.pointer (some ⟨g, 0, none⟩), .int .i64 t] w fun e w' => e = .returned (.int .i64 ((r.row.length : Int) + r.m.length - (r.drop t).row.length - (r.drop t).m.length)) ∧ RefTo w w' g F (r.drop t) := by
  obtain ⟨A1, n1, c1, A2, n2, c2, h⟩ := h
  have hmix := try_mixed
  have H := Hd.mk h
  have HI := Hd.mk hi
  have HL := Hd.mk (OwnP.len h.o1)
  have HM := Hd.mk (OwnP.len h.o2)
  have hn1 : n1 ≤ 100 := by have := hi.len; have := HL.out; omega
  have hn2 : n2 ≤ 100 := by have := hi.mks; have := HM.out; omega
  obtain ⟨v, hv⟩ : ∃ v, Hd (r.at' = v) := ⟨_, ⟨rfl⟩⟩
  have hv1 : -1 ≤ v := by have := hi.lo; have := hv.out; omega
  have hv2 : v < (n1 : Int) := by have := hi.hi; have := hv.out; have := HL.out; omega
  have hh : Hd (w.heap[g]? = some (.cells #[.slice A1 n1 c1, .int .i64 v, .slice A2 n2 c2] 175 (0, 0))) := ⟨by rw [h.heap, hv.out]⟩
  have hgl := h.glt
  have hws : IntKind.i64.wrap ((n1 : Int) + (n2 : Int)) = (n1 : Int) + (n2 : Int) := IntWalk.i64_in _ (by omega)
  clear h hi
  go_enter Try.func136, Try.ntmps136
  go_wp2_with fail
  refine region_zone 12 [false, false, false, false, false, false, false, false, false, false, false, false] (by kernel_rfl) (by kernel_rfl) hmix (fun w' => w'.heap[g]? = some (.cells #[.slice A1 n1 c1, .int .i64 v, .slice A2 n2 c2] 175 (0, 0))) [] ?_ (fun hS => ?_)
  · exact hh.out
  refine wpAnyZ_take0 (i := 0) (oi := ⟨_, _, _, _, _, _⟩) (v := ?_) rfl (by decide +kernel) (fun _ _ _ h => h) (Or.inl ⟨by rfl, ?_⟩) (fun _ => hS) ?_
  rotate_left
  focus (intro w _; go_simp; (try with_reducible rfl); done)
  simp only [Act.put, List.setIfInBounds_toArray, List.set_cons_zero, List.set_cons_succ]
  refine wpAnyZ_take0 (i := 1) (oi := ⟨_, _, _, _, _, _⟩) (v := ?_) rfl (by decide +kernel) (fun _ _ _ h => h) (Or.inl ⟨by rfl, ?_⟩) (fun _ => hS) ?_
  rotate_left
  focus (intro w _; go_simp; (try with_reducible rfl); done)
  simp only [Act.put, List.setIfInBounds_toArray, List.set_cons_zero, List.set_cons_succ]
  refine wpAnyZ_take0 (i := 2) (oi := ⟨_, _, _, _, _, _⟩) (v := ?_) rfl (by decide +kernel) (fun _ _ _ h => h) (Or.inl ⟨by rfl, ?_⟩) (fun _ => hS) ?_
  rotate_left
  focus (intro w _; go_simp; (try with_reducible rfl); done)
  simp only [Act.put, List.setIfInBounds_toArray, List.set_cons_zero, List.set_cons_succ]
  refine wpAnyZ_take (i := 3) (oi := ⟨_, _, _, _, _, _⟩) (v := ?_) rfl (by decide +kernel) (fun _ _ _ h => h) (Or.inl ⟨by rfl, ?_⟩) hS ?_
  rotate_left
  focus (intro w hSw; (try dsimp only at hSw); (obtain ⟨z0, z1, z2, zf⟩ := ref_cells hSw; clear hSw); go_simp; (try with_reducible rfl); done)
  simp only [Act.put, List.setIfInBounds_toArray, List.set_cons_zero, List.set_cons_succ]
  refine wpAnyZ_take0 (i := 4) (oi := ⟨_, _, _, _, _, _⟩) (v := ?_) rfl (by decide +kernel) (fun _ _ _ h => h) (Or.inl ⟨by rfl, ?_⟩) (fun _ => hS) ?_
  rotate_left
  focus (intro w _; go_simp; (try with_reducible rfl); done)
  simp only [Act.put, List.setIfInBounds_toArray, List.set_cons_zero, List.set_cons_succ]
  refine wpAnyZ_take0 (i := 5) (oi := ⟨_, _, _, _, _, _⟩) (v := ?_) rfl (by decide +kernel) (fun _ _ _ h => h) (Or.inl ⟨by rfl, ?_⟩) (fun _ => hS) ?_
  rotate_left
  focus (intro w _; go_simp; (try with_reducible rfl); done)
  simp only [Act.put, List.setIfInBounds_toArray, List.set_cons_zero, List.set_cons_succ]
  refine wpAnyZ_take0 (i := 6) (oi := ⟨_, _, _, _, _, _⟩) (v := ?_) rfl (by decide +kernel) (fun _ _ _ h => h) (Or.inl ⟨by rfl, ?_⟩) (fun _ => hS) ?_
  rotate_left
  focus (intro w _; go_simp; (try with_reducible rfl); done)
  simp only [Act.put, List.setIfInBounds_toArray, List.set_cons_zero, List.set_cons_succ]
  refine wpAnyZ_take0 (i := 7) (oi := ⟨_, _, _, _, _, _⟩) (v := ?_) rfl (by decide +kernel) (fun _ _ _ h => h) (Or.inl ⟨by rfl, ?_⟩) (fun _ => hS) ?_
  rotate_left
  focus (intro w _; go_simp; (try with_reducible rfl); done)
  simp only [Act.put, List.setIfInBounds_toArray, List.set_cons_zero, List.set_cons_succ]
  refine wpAnyZ_take (i := 8) (oi := ⟨_, _, _, _, _, _⟩) (v := ?_) rfl (by decide +kernel) (fun _ _ _ h => h) (Or.inl ⟨by rfl, ?_⟩) hS ?_
  rotate_left
  focus (intro w hSw; (try dsimp only at hSw); (obtain ⟨z0, z1, z2, zf⟩ := ref_cells hSw; clear hSw); go_simp; (try with_reducible rfl); done)
  simp only [Act.put, List.setIfInBounds_toArray, List.set_cons_zero, List.set_cons_succ]
  refine wpAnyZ_take0 (i := 9) (oi := ⟨_, _, _, _, _, _⟩) (v := ?_) rfl (by decide +kernel) (fun _ _ _ h => h) (Or.inl ⟨by rfl, ?_⟩) (fun _ => hS) ?_
  rotate_left
  focus (intro w _; go_simp; (try with_reducible rfl); done)
  simp only [Act.put, List.setIfInBounds_toArray, List.set_cons_zero, List.set_cons_succ]
  refine wpAnyZ_take0 (i := 10) (oi := ⟨_, _, _, _, _, _⟩) (v := ?_) rfl (by decide +kernel) (fun _ _ _ h => h) (Or.inl ⟨by rfl, ?_⟩) (fun _ => hS) ?_
  rotate_left
  focus (intro w _; go_simp; (try with_reducible rfl); done)
  simp only [Act.put, List.setIfInBounds_toArray, List.set_cons_zero, List.set_cons_succ]
  refine wpAnyZ_take0 (i := 11) (oi := ⟨_, _, _, _, _, _⟩) (v := ?_) rfl (by decide +kernel) (fun _ _ _ h => h) (Or.inl ⟨by rfl, ?_⟩) (fun _ => hS) ?_
  rotate_left
  focus (intro w _; go_simp; (try with_reducible rfl); done)
  simp only [Act.put, List.setIfInBounds_toArray, List.set_cons_zero, List.set_cons_succ]
  refine wpAnyZ_done (by decide +kernel) ?_
  have B0 := Hd.mk (below_drew w)
  obtain ⟨w0, hw0⟩ : ∃ u, Hd (w.drew = u) := ⟨_, ⟨rfl⟩⟩
  rw [hw0.out] at B0 ⊢
  clear hS hw0 hws
  go_wp2_with fail
  go_loopw [6, 8, 9] (fun s a i wr => ∃ (j : Nat) (A' : Option Addr) (n' c' : Nat), s = .slice A' n' c' ∧ a = .int .i64 (r.atD t j) ∧ i = .int .i64 (j : Int) ∧ j ≤ n1 ∧ OwnP wr w.heap.size A' n' c' (leftP t (r.row.take j)) ∧ Hd (Below w.heap.size w wr))
    (fun _ _ i _ => n1 - (intOf i).toNat)
  case atStart => exact ⟨0, none, 0, 0, rfl, by simp [RN.atD, leftP], rfl, by omega, OwnP.nil_ _ _ _, B0⟩
  case round =>
    obtain ⟨j, A', n', c', rfl, rfl, rfl, hj, ho, hb⟩ := hrel
    have hln := Hd.mk (OwnP.len ho)
    have hln1 := Hd.mk (leftP_take_len t r.row j)
    have hn' : n' ≤ 100 := by have := hln.out; have := hln1.out; omega
    have hhr := Hd.mk ((hb.out.block g hgl).trans hh.out)
    have hsz := Hd.mk hb.out.size
    obtain ⟨a0, a1, a2, af⟩ := ref_cells hhr.out
    by_cases hlt : j < n1
    · obtain ⟨⟨qx, qy⟩, hq⟩ : ∃ q, r.row[j]? = some q := ⟨r.row[j]'(by have := HL.out; omega), List.getElem?_eq_getElem _⟩
      obtain ⟨ad, rfl, p0, p1⟩ := RdP.get' (Rd.below (Own.rd H.out.o1) hb.out) hq
      have hji : (j : Int) < (n1 : Int) := by omega
      have hj0 : (0 : Int) ≤ (j : Int) := by omega
      have hst := Hd.mk (leftP_take_succ (t := t) hq)
      by_cases hqt : qx < t
      · rw [if_pos hqt] at hst
        by_cases hjv : (j : Int) ≤ v
        · have hat : Hd (r.atD t (j + 1) = ((leftP t (r.row.take (j + 1))).length : Int) - 1) := ⟨by unfold RN.atD; rw [Nat.min_eq_left (by have := hv.out; omega)]⟩
          have hlen' : Hd (((leftP t (r.row.take (j + 1))).length : Int) = (n' : Int) + 1) := ⟨by rw [hst.out, List.length_append, hln.out]; simp⟩
          have hA3 := Hd.mk (below_alloc wr (.cells #[.int .i64 qx, .int .i64 qy] 58))
          go_wp2_with (at_builtin; refine wl_appP rfl (.tmp 41) (.tmp 49) rfl (m := 1) rfl rfl (Own.alloc ho _) (RdP.newAt wr [(qx, qy)] (cs := #[.int .i64 qx, .int .i64 qy]) rfl rfl rfl) (by omega) (Nat.le_trans hsz.out hA3.out.size) ?_; rintro vv w4 ⟨A4, c4, rfl, ho4, hg4, _⟩; have hB4 := Hd.mk ((hb.out.trans (hA3.out.mono hsz.out)).grown hg4 (Nat.le_trans hsz.out hA3.out.size) (fun q e => (Own.lt ho e).1)); have b1 := (ref_cells ((hB4.out.block g hgl).trans hh.out)).2.1)
          clear a0 a1 a2 af b1
          rw [← hst.out] at ho4
          go_roundw
          case rel => exact ⟨j + 1, A4, n' + 1, c4, rfl, by rw [hat.out, hlen'.out, Int.add_sub_cancel], by go_num, by omega, ho4, hB4⟩
          case measure => simp [intOf]; omega
        · have hat : Hd (r.atD t (j + 1) = r.atD t j) := ⟨by unfold RN.atD; rw [Nat.min_eq_right (by have := hv.out; omega), Nat.min_eq_right (by have := hv.out; omega)]⟩
          have hlen' : Hd (((leftP t (r.row.take (j + 1))).length : Int) = (n' : Int) + 1) := ⟨by rw [hst.out, List.length_append, hln.out]; simp⟩
          have hA3 := Hd.mk (below_alloc wr (.cells #[.int .i64 qx, .int .i64 qy] 58))
          go_wp2_with (at_builtin; refine wl_appP rfl (.tmp 41) (.tmp 49) rfl (m := 1) rfl rfl (Own.alloc ho _) (RdP.newAt wr [(qx, qy)] (cs := #[.int .i64 qx, .int .i64 qy]) rfl rfl rfl) (by omega) (Nat.le_trans hsz.out hA3.out.size) ?_; rintro vv w4 ⟨A4, c4, rfl, ho4, hg4, _⟩; have hB4 := Hd.mk ((hb.out.trans (hA3.out.mono hsz.out)).grown hg4 (Nat.le_trans hsz.out hA3.out.size) (fun q e => (Own.lt ho e).1)); have b1 := (ref_cells ((hB4.out.block g hgl).trans hh.out)).2.1)
          clear a0 a1 a2 af b1
          rw [← hst.out] at ho4
          go_roundw
          case rel => exact ⟨j + 1, A4, n' + 1, c4, rfl, by rw [hat.out], by go_num, by omega, ho4, hB4⟩
          case measure => simp [intOf]; omega
      · rw [if_neg hqt] at hst
        have hat : Hd (r.atD t (j + 1) = r.atD t j) := ⟨by
          unfold RN.atD
          by_cases hjv : (j : Int) ≤ v
          · rw [Nat.min_eq_left (by have := hv.out; omega), Nat.min_eq_left (by have := hv.out; omega), hst.out, List.append_nil]
          · rw [Nat.min_eq_right (by have := hv.out; omega), Nat.min_eq_right (by have := hv.out; omega)]⟩
        go_wp2_with fail
        clear a0 a1 a2 af
        go_roundw
        case rel => exact ⟨j + 1, A', n', c', rfl, by rw [hat.out], by go_num, by omega, by rw [hst.out, List.append_nil]; exact ho, hb⟩
        case measure => simp [intOf]; omega
    · obtain hjn : j = n1 := by omega
      subst hjn
      have hji : ¬ ((j : Int) < (j : Int)) := by omega
      have hfull : Hd (r.row.take j = r.row) := ⟨List.take_of_length_le (by rw [HL.out]; omega)⟩
      rw [hfull.out] at ho
      have O1 := Hd.mk ho
      have hln' := Hd.mk (OwnP.len ho)
      have hcut : Hd (r.cutD t = ⟨leftP t r.row, if r.atD t j < 0 ∧ 0 < n' then 0 else r.atD t j, leftP t r.m⟩) := ⟨by unfold RN.cutD; rw [HL.out, hln'.out]⟩
      have hcok := Hd.mk (cutD_ok r t)
      obtain ⟨av, hav⟩ : ∃ av, Hd (r.atD t j = av) := ⟨_, ⟨rfl⟩⟩
      have hav1 : -1 ≤ av := by have := atD_bound r t j; rw [hav.out] at this; exact this
      rw [hav.out] at hcut ⊢
      clear ho hlt
      by_cases hcond : av < 0 ∧ 0 < n'
      · rw [if_pos hcond] at hcut
        obtain ⟨hc1, hc2⟩ := hcond
        have hc2i : (0 : Int) < (n' : Int) := by omega
        go_wp2_with fail
        clear a0 a1 a2 af
        obtain ⟨W1, hW1⟩ : ∃ u, u = wr := ⟨_, rfl⟩
        subst hW1
        go_loopw [7, 10] (fun s i wr => ∃ (q : Nat) (B' : Option Addr) (m' d' : Nat), s = .slice B' m' d' ∧ i = .int .i64 (q : Int) ∧ q ≤ n2 ∧ OwnP wr W1.heap.size B' m' d' (leftP t (r.m.take q)) ∧ Hd (Below W1.heap.size W1 wr))
          (fun _ i _ => n2 - (intOf i).toNat)
        case atStart => exact ⟨0, none, 0, 0, rfl, rfl, by omega, OwnP.nil_ _ _ _, ⟨Below.refl _ _⟩⟩
        case round =>
          obtain ⟨q, B', m', d', rfl, rfl, hq, ho, hbm⟩ := hrel
          have hlm := Hd.mk (OwnP.len ho)
          have hlm1 := Hd.mk (leftP_take_len t r.m q)
          have hm' : m' ≤ 100 := by have := hlm.out; have := hlm1.out; omega
          have hB := Hd.mk (hb.out.trans (hbm.out.mono hb.out.size))
          have hhm := Hd.mk ((hB.out.block g hgl).trans hh.out)
          have hszm := Hd.mk hbm.out.size
          obtain ⟨a0, a1, a2, af⟩ := ref_cells hhm.out
          by_cases hlt : q < n2
          · obtain ⟨⟨qx, qy⟩, hqm⟩ : ∃ p, r.m[q]? = some p := ⟨r.m[q]'(by have := HM.out; omega), List.getElem?_eq_getElem _⟩
            obtain ⟨ad, rfl, p0, p1⟩ := RdP.get' (Rd.below (Own.rd H.out.o2) hB.out) hqm
            have hji : (q : Int) < (n2 : Int) := by omega
            have hj0 : (0 : Int) ≤ (q : Int) := by omega
            have hst := Hd.mk (leftP_take_succ (t := t) hqm)
            by_cases hqt : qx < t
            · rw [if_pos hqt] at hst
              have hA3 := Hd.mk (below_alloc wr (.cells #[.int .i64 qx, .int .i64 qy] 58))
              go_wp2_with (at_builtin; refine wl_appP rfl (.tmp 86) (.tmp 94) rfl (m := 1) rfl rfl (Own.alloc ho _) (RdP.newAt wr [(qx, qy)] (cs := #[.int .i64 qx, .int .i64 qy]) rfl rfl rfl) (by omega) (Nat.le_trans hszm.out hA3.out.size) ?_; rintro vv w4 ⟨A4, c4, rfl, ho4, hg4, _⟩)
              clear a0 a1 a2 af
              rw [← hst.out] at ho4
              have hB4 := Hd.mk ((hbm.out.trans (hA3.out.mono hszm.out)).grown hg4 (Nat.le_trans hszm.out hA3.out.size) (fun q e => (Own.lt ho e).1))
              go_roundw
              case rel => exact ⟨q + 1, A4, m' + 1, c4, rfl, by go_num, by omega, ho4, hB4⟩
              case measure => simp [intOf]; omega
            · rw [if_neg hqt] at hst
              go_wp2_with fail
              clear a0 a1 a2 af
              go_roundw
              case rel => exact ⟨q + 1, B', m', d', rfl, by go_num, by omega, by rw [hst.out, List.append_nil]; exact ho, hbm⟩
              case measure => simp [intOf]; omega
          · obtain hqn : q = n2 := by omega
            subst hqn
            have hji : ¬ ((q : Int) < (q : Int)) := by omega
            have hfm : Hd (r.m.take q = r.m) := ⟨List.take_of_length_le (by rw [HM.out]; omega)⟩
            rw [hfm.out] at ho
            have O2 := Hd.mk ho
            have af0 := af 0
            have af1 := af 1
            have af2 := af 2
            clear ho hlt
            go_wp2_with fail
            clear a0 a1 a2 af af0 af1 af2
            have y0 := heap_setCell_same wr g 0 _ 175 (.slice A' n' c') hhm.out
            have y1 := heap_setCell_same _ g 1 _ 175 (.int .i64 0) y0
            have y2 := heap_setCell_same _ g 2 _ 175 (.slice B' m' d') y1
            have T5 := (((Tch.of_below (F := F) hB.out).trans (Tch.setCell _ wr g 0 (.slice A' n' c') (.inl (.inl H.out.fg)))).trans (Tch.setCell _ _ g 1 (.int .i64 0) (.inl (.inl H.out.fg)))).trans (Tch.setCell _ _ g 2 (.slice B' m' d') (.inl (.inl H.out.fg)))
            have hg1 : g < W1.heap.size := Nat.lt_of_lt_of_le hgl hb.out.size
            have HF := Hd.mk (RefC.upd (r' := ⟨leftP t r.row, 0, leftP t r.m⟩) H.out y2 T5 (Own.mono (own_cell (own_cell (own_cell (Own.below O1.out hbm.out) hgl) hgl) hgl) (Nat.zero_le _)) (Own.mono (own_cell (own_cell (own_cell O2.out hg1) hg1) hg1) (Nat.zero_le _)) (fun q e => .inr (Own.lt O1.out e).1) (fun q e => .inr (Nat.le_trans hb.out.size (Own.lt O2.out e).1)) (fun q e e' => by
              have h1 := (Own.lt O1.out e).2
              have h2 := (Own.lt O2.out e').1
              omega))
            rw [← hcut.out] at HF
            obtain ⟨W3, hW3⟩ : ∃ u, Hd (((wr.setCell ⟨g, 0, none⟩ (.slice A' n' c')).setCell ⟨g, 1, none⟩ (.int .i64 0)).setCell ⟨g, 2, none⟩ (.slice B' m' d') = u) := ⟨_, ⟨rfl⟩⟩
            rw [hW3.out] at HF ⊢
            clear y0 y1 y2 T5 hW3
            refine (rthin165 g (up F w W3) (r.cutD t) W3 HF.out.1 hcok.out (by rw [hcut.out]; exact Nat.le_trans (leftP_len _ _) (by rw [HL.out]; exact hn1))).mono ?_
            rintro e W4 ⟨rfl, h4⟩
            have hdr : Hd ((r.cutD t).thin = r.drop t) := ⟨rfl⟩
            rw [hdr.out] at h4
            have HE := Hd.mk (RefTo.trans HF.out h4)
            obtain ⟨⟨E1, e1, f1, E2, e2, f2, hC⟩, -⟩ := h4
            have hl1 := Hd.mk (OwnP.len hC.o1)
            have hl2 := Hd.mk (OwnP.len hC.o2)
            obtain ⟨ev, hev⟩ : ∃ ev, (r.drop t).at' = ev := ⟨_, rfl⟩
            have hheap := hC.heap
            rw [hev] at hheap
            have hE := Hd.mk hheap
            have hd1 := Hd.mk (thin_len (r.cutD t))
            have he1 : e1 ≤ 101 := by
              have h1 := hd1.out.1
              rw [hdr.out, hl1.out] at h1
              have h2 : (r.cutD t).row.length ≤ 100 := by rw [hcut.out]; exact Nat.le_trans (leftP_len _ _) (by rw [HL.out]; exact hn1)
              omega
            have he2 : e2 ≤ 100 := by
              have h1 := hd1.out.2
              rw [hdr.out] at h1
              rw [← hl2.out, h1, hcut.out]
              exact Nat.le_trans (leftP_len _ _) (by rw [HM.out]; exact hn2)
            have hs1 : IntKind.i64.wrap ((j : Int) + (q : Int) - (e1 : Int)) = (j : Int) + (q : Int) - (e1 : Int) := IntWalk.i64_in _ (by omega)
            have hs2 : IntKind.i64.wrap ((j : Int) + (q : Int) - (e1 : Int) - (e2 : Int)) = (j : Int) + (q : Int) - (e1 : Int) - (e2 : Int) := IntWalk.i64_in _ (by omega)
            clear hC hheap HF
            go_wp2_with fail
            refine region_zone 14 [false, false, false, false, false, false, false, false, false, false, false, false, false, false] (by kernel_rfl) (by kernel_rfl) hmix (fun w' => w'.heap[g]? = some (.cells #[.slice E1 e1 f1, .int .i64 ev, .slice E2 e2 f2] 175 (0, 0))) [] ?_ (fun hS => ?_)
            · exact hE.out
            refine wpAnyZ_take0 (i := 0) (oi := ⟨_, _, _, _, _, _⟩) (v := ?_) rfl (by decide +kernel) (fun _ _ _ h => h) (Or.inl ⟨by rfl, ?_⟩) (fun _ => hS) ?_
            rotate_left
            focus (intro w _; go_simp; (try with_reducible rfl); done)
            simp only [Act.put, List.setIfInBounds_toArray, List.set_cons_zero, List.set_cons_succ]
            refine wpAnyZ_take0 (i := 1) (oi := ⟨_, _, _, _, _, _⟩) (v := ?_) rfl (by decide +kernel) (fun _ _ _ h => h) (Or.inl ⟨by rfl, ?_⟩) (fun _ => hS) ?_
            rotate_left
            focus (intro w _; go_simp; (try with_reducible rfl); done)
            simp only [Act.put, List.setIfInBounds_toArray, List.set_cons_zero, List.set_cons_succ]
            refine wpAnyZ_take0 (i := 2) (oi := ⟨_, _, _, _, _, _⟩) (v := ?_) rfl (by decide +kernel) (fun _ _ _ h => h) (Or.inl ⟨by rfl, ?_⟩) (fun _ => hS) ?_
            rotate_left
            focus (intro w _; go_simp; (try with_reducible rfl); done)
            simp only [Act.put, List.setIfInBounds_toArray, List.set_cons_zero, List.set_cons_succ]
            refine wpAnyZ_take0 (i := 3) (oi := ⟨_, _, _, _, _, _⟩) (v := ?_) rfl (by decide +kernel) (fun _ _ _ h => h) (Or.inl ⟨by rfl, ?_⟩) (fun _ => hS) ?_
            rotate_left
            focus (intro w _; go_simp; (try with_reducible rfl); done)
            simp only [Act.put, List.setIfInBounds_toArray, List.set_cons_zero, List.set_cons_succ]
            refine wpAnyZ_take (i := 4) (oi := ⟨_, _, _, _, _, _⟩) (v := ?_) rfl (by decide +kernel) (fun _ _ _ h => h) (Or.inl ⟨by rfl, ?_⟩) hS ?_
            rotate_left
            focus (intro w hSw; (try dsimp only at hSw); (obtain ⟨z0, z1, z2, zf⟩ := ref_cells hSw; clear hSw); go_simp; (try with_reducible rfl); done)
            simp only [Act.put, List.setIfInBounds_toArray, List.set_cons_zero, List.set_cons_succ]
            refine wpAnyZ_take0 (i := 5) (oi := ⟨_, _, _, _, _, _⟩) (v := ?_) rfl (by decide +kernel) (fun _ _ _ h => h) (Or.inl ⟨by rfl, ?_⟩) (fun _ => hS) ?_
            rotate_left
            focus (intro w _; go_simp; (try with_reducible rfl); done)
            simp only [Act.put, List.setIfInBounds_toArray, List.set_cons_zero, List.set_cons_succ]
            refine wpAnyZ_take0 (i := 6) (oi := ⟨_, _, _, _, _, _⟩) (v := ?_) rfl (by decide +kernel) (fun _ _ _ h => h) (Or.inl ⟨by rfl, ?_⟩) (fun _ => hS) ?_
            rotate_left
            focus (intro w _; go_simp; (try with_reducible rfl); done)
            simp only [Act.put, List.setIfInBounds_toArray, List.set_cons_zero, List.set_cons_succ]
            refine wpAnyZ_take0 (i := 7) (oi := ⟨_, _, _, _, _, _⟩) (v := ?_) rfl (by decide +kernel) (fun _ _ _ h => h) (Or.inl ⟨by rfl, ?_⟩) (fun _ => hS) ?_
            rotate_left
            focus (intro w _; go_simp; (try with_reducible rfl); done)
            simp only [Act.put, List.setIfInBounds_toArray, List.set_cons_zero, List.set_cons_succ]
            refine wpAnyZ_take0 (i := 8) (oi := ⟨_, _, _, _, _, _⟩) (v := ?_) rfl (by decide +kernel) (fun _ _ _ h => h) (Or.inl ⟨by rfl, ?_⟩) (fun _ => hS) ?_
            rotate_left
            focus (intro w _; go_simp; (try with_reducible rfl); done)
            simp only [Act.put, List.setIfInBounds_toArray, List.set_cons_zero, List.set_cons_succ]
            refine wpAnyZ_take0 (i := 9) (oi := ⟨_, _, _, _, _, _⟩) (v := ?_) rfl (by decide +kernel) (fun _ _ _ h => h) (Or.inl ⟨by rfl, ?_⟩) (fun _ => hS) ?_
            rotate_left
            focus (intro w _; go_simp; (try with_reducible rfl); done)
            simp only [Act.put, List.setIfInBounds_toArray, List.set_cons_zero, List.set_cons_succ]
            refine wpAnyZ_take (i := 10) (oi := ⟨_, _, _, _, _, _⟩) (v := ?_) rfl (by decide +kernel) (fun _ _ _ h => h) (Or.inl ⟨by rfl, ?_⟩) hS ?_
            rotate_left
            focus (intro w hSw; (try dsimp only at hSw); (obtain ⟨z0, z1, z2, zf⟩ := ref_cells hSw; clear hSw); go_simp; (try with_reducible rfl); done)
            simp only [Act.put, List.setIfInBounds_toArray, List.set_cons_zero, List.set_cons_succ]
            refine wpAnyZ_take0 (i := 11) (oi := ⟨_, _, _, _, _, _⟩) (v := ?_) rfl (by decide +kernel) (fun _ _ _ h => h) (Or.inl ⟨by rfl, ?_⟩) (fun _ => hS) ?_
            rotate_left
            focus (intro w _; go_simp; (try with_reducible rfl); done)
            simp only [Act.put, List.setIfInBounds_toArray, List.set_cons_zero, List.set_cons_succ]
            refine wpAnyZ_take0 (i := 12) (oi := ⟨_, _, _, _, _, _⟩) (v := ?_) rfl (by decide +kernel) (fun _ _ _ h => h) (Or.inl ⟨by rfl, ?_⟩) (fun _ => hS) ?_
            rotate_left
            focus (intro w _; go_simp; (try with_reducible rfl); done)
            simp only [Act.put, List.setIfInBounds_toArray, List.set_cons_zero, List.set_cons_succ]
            refine wpAnyZ_take0 (i := 13) (oi := ⟨_, _, _, _, _, _⟩) (v := ?_) rfl (by decide +kernel) (fun _ _ _ h => h) (Or.inl ⟨by rfl, ?_⟩) (fun _ => hS) ?_
            rotate_left
            focus (intro w _; go_simp; (try with_reducible rfl); done)
            simp only [Act.put, List.setIfInBounds_toArray, List.set_cons_zero, List.set_cons_succ]
            refine wpAnyZ_done (by decide +kernel) ?_
            clear hS
            go_wp2
            go_ret
            refine ⟨?_, RefTo.drew HE.out⟩
            rw [hl1.out, hl2.out, HL.out, HM.out]
            rfl
      · rw [if_neg hcond] at hcut
        rcases (show (¬ av < 0) ∨ (av < 0 ∧ n' = 0) by omega) with hc1 | ⟨hc1, rfl⟩
        · go_wp2_with fail
          clear a0 a1 a2 af
          obtain ⟨W1, hW1⟩ : ∃ u, u = wr := ⟨_, rfl⟩
          subst hW1
          go_loopw [7, 10] (fun s i wr => ∃ (q : Nat) (B' : Option Addr) (m' d' : Nat), s = .slice B' m' d' ∧ i = .int .i64 (q : Int) ∧ q ≤ n2 ∧ OwnP wr W1.heap.size B' m' d' (leftP t (r.m.take q)) ∧ Hd (Below W1.heap.size W1 wr))
            (fun _ i _ => n2 - (intOf i).toNat)
          case atStart => exact ⟨0, none, 0, 0, rfl, rfl, by omega, OwnP.nil_ _ _ _, ⟨Below.refl _ _⟩⟩
          case round =>
            obtain ⟨q, B', m', d', rfl, rfl, hq, ho, hbm⟩ := hrel
            have hlm := Hd.mk (OwnP.len ho)
            have hlm1 := Hd.mk (leftP_take_len t r.m q)
            have hm' : m' ≤ 100 := by have := hlm.out; have := hlm1.out; omega
            have hB := Hd.mk (hb.out.trans (hbm.out.mono hb.out.size))
            have hhm := Hd.mk ((hB.out.block g hgl).trans hh.out)
            have hszm := Hd.mk hbm.out.size
            obtain ⟨a0, a1, a2, af⟩ := ref_cells hhm.out
            by_cases hlt : q < n2
            · obtain ⟨⟨qx, qy⟩, hqm⟩ : ∃ p, r.m[q]? = some p := ⟨r.m[q]'(by have := HM.out; omega), List.getElem?_eq_getElem _⟩
              obtain ⟨ad, rfl, p0, p1⟩ := RdP.get' (Rd.below (Own.rd H.out.o2) hB.out) hqm
              have hji : (q : Int) < (n2 : Int) := by omega
              have hj0 : (0 : Int) ≤ (q : Int) := by omega
              have hst := Hd.mk (leftP_take_succ (t := t) hqm)
              by_cases hqt : qx < t
              · rw [if_pos hqt] at hst
                have hA3 := Hd.mk (below_alloc wr (.cells #[.int .i64 qx, .int .i64 qy] 58))
                go_wp2_with (at_builtin; refine wl_appP rfl (.tmp 86) (.tmp 94) rfl (m := 1) rfl rfl (Own.alloc ho _) (RdP.newAt wr [(qx, qy)] (cs := #[.int .i64 qx, .int .i64 qy]) rfl rfl rfl) (by omega) (Nat.le_trans hszm.out hA3.out.size) ?_; rintro vv w4 ⟨A4, c4, rfl, ho4, hg4, _⟩)
                clear a0 a1 a2 af
                rw [← hst.out] at ho4
                have hB4 := Hd.mk ((hbm.out.trans (hA3.out.mono hszm.out)).grown hg4 (Nat.le_trans hszm.out hA3.out.size) (fun q e => (Own.lt ho e).1))
                go_roundw
                case rel => exact ⟨q + 1, A4, m' + 1, c4, rfl, by go_num, by omega, ho4, hB4⟩
                case measure => simp [intOf]; omega
              · rw [if_neg hqt] at hst
                go_wp2_with fail
                clear a0 a1 a2 af
                go_roundw
                case rel => exact ⟨q + 1, B', m', d', rfl, by go_num, by omega, by rw [hst.out, List.append_nil]; exact ho, hbm⟩
                case measure => simp [intOf]; omega
            · obtain hqn : q = n2 := by omega
              subst hqn
              have hji : ¬ ((q : Int) < (q : Int)) := by omega
              have hfm : Hd (r.m.take q = r.m) := ⟨List.take_of_length_le (by rw [HM.out]; omega)⟩
              rw [hfm.out] at ho
              have O2 := Hd.mk ho
              have af0 := af 0
              have af1 := af 1
              have af2 := af 2
              clear ho hlt
              go_wp2_with fail
              clear a0 a1 a2 af af0 af1 af2
              have y0 := heap_setCell_same wr g 0 _ 175 (.slice A' n' c') hhm.out
              have y1 := heap_setCell_same _ g 1 _ 175 (.int .i64 av) y0
              have y2 := heap_setCell_same _ g 2 _ 175 (.slice B' m' d') y1
              have T5 := (((Tch.of_below (F := F) hB.out).trans (Tch.setCell _ wr g 0 (.slice A' n' c') (.inl (.inl H.out.fg)))).trans (Tch.setCell _ _ g 1 (.int .i64 av) (.inl (.inl H.out.fg)))).trans (Tch.setCell _ _ g 2 (.slice B' m' d') (.inl (.inl H.out.fg)))
              have hg1 : g < W1.heap.size := Nat.lt_of_lt_of_le hgl hb.out.size
              have HF := Hd.mk (RefC.upd (r' := ⟨leftP t r.row, av, leftP t r.m⟩) H.out y2 T5 (Own.mono (own_cell (own_cell (own_cell (Own.below O1.out hbm.out) hgl) hgl) hgl) (Nat.zero_le _)) (Own.mono (own_cell (own_cell (own_cell O2.out hg1) hg1) hg1) (Nat.zero_le _)) (fun q e => .inr (Own.lt O1.out e).1) (fun q e => .inr (Nat.le_trans hb.out.size (Own.lt O2.out e).1)) (fun q e e' => by
                have h1 := (Own.lt O1.out e).2
                have h2 := (Own.lt O2.out e').1
                omega))
              rw [← hcut.out] at HF
              obtain ⟨W3, hW3⟩ : ∃ u, Hd (((wr.setCell ⟨g, 0, none⟩ (.slice A' n' c')).setCell ⟨g, 1, none⟩ (.int .i64 av)).setCell ⟨g, 2, none⟩ (.slice B' m' d') = u) := ⟨_, ⟨rfl⟩⟩
              rw [hW3.out] at HF ⊢
              clear y0 y1 y2 T5 hW3
              refine (rthin165 g (up F w W3) (r.cutD t) W3 HF.out.1 hcok.out (by rw [hcut.out]; exact Nat.le_trans (leftP_len _ _) (by rw [HL.out]; exact hn1))).mono ?_
              rintro e W4 ⟨rfl, h4⟩
              have hdr : Hd ((r.cutD t).thin = r.drop t) := ⟨rfl⟩
              rw [hdr.out] at h4
              have HE := Hd.mk (RefTo.trans HF.out h4)
              obtain ⟨⟨E1, e1, f1, E2, e2, f2, hC⟩, -⟩ := h4
              have hl1 := Hd.mk (OwnP.len hC.o1)
              have hl2 := Hd.mk (OwnP.len hC.o2)
              obtain ⟨ev, hev⟩ : ∃ ev, (r.drop t).at' = ev := ⟨_, rfl⟩
              have hheap := hC.heap
              rw [hev] at hheap
              have hE := Hd.mk hheap
              have hd1 := Hd.mk (thin_len (r.cutD t))
              have he1 : e1 ≤ 101 := by
                have h1 := hd1.out.1
                rw [hdr.out, hl1.out] at h1
                have h2 : (r.cutD t).row.length ≤ 100 := by rw [hcut.out]; exact Nat.le_trans (leftP_len _ _) (by rw [HL.out]; exact hn1)
                omega
              have he2 : e2 ≤ 100 := by
                have h1 := hd1.out.2
                rw [hdr.out] at h1
                rw [← hl2.out, h1, hcut.out]
                exact Nat.le_trans (leftP_len _ _) (by rw [HM.out]; exact hn2)
              have hs1 : IntKind.i64.wrap ((j : Int) + (q : Int) - (e1 : Int)) = (j : Int) + (q : Int) - (e1 : Int) := IntWalk.i64_in _ (by omega)
              have hs2 : IntKind.i64.wrap ((j : Int) + (q : Int) - (e1 : Int) - (e2 : Int)) = (j : Int) + (q : Int) - (e1 : Int) - (e2 : Int) := IntWalk.i64_in _ (by omega)
              clear hC hheap HF
              go_wp2_with fail
              refine region_zone 14 [false, false, false, false, false, false, false, false, false, false, false, false, false, false] (by kernel_rfl) (by kernel_rfl) hmix (fun w' => w'.heap[g]? = some (.cells #[.slice E1 e1 f1, .int .i64 ev, .slice E2 e2 f2] 175 (0, 0))) [] ?_ (fun hS => ?_)
              · exact hE.out
              refine wpAnyZ_take0 (i := 0) (oi := ⟨_, _, _, _, _, _⟩) (v := ?_) rfl (by decide +kernel) (fun _ _ _ h => h) (Or.inl ⟨by rfl, ?_⟩) (fun _ => hS) ?_
              rotate_left
              focus (intro w _; go_simp; (try with_reducible rfl); done)
              simp only [Act.put, List.setIfInBounds_toArray, List.set_cons_zero, List.set_cons_succ]
              refine wpAnyZ_take0 (i := 1) (oi := ⟨_, _, _, _, _, _⟩) (v := ?_) rfl (by decide +kernel) (fun _ _ _ h => h) (Or.inl ⟨by rfl, ?_⟩) (fun _ => hS) ?_
              rotate_left
              focus (intro w _; go_simp; (try with_reducible rfl); done)
              simp only [Act.put, List.setIfInBounds_toArray, List.set_cons_zero, List.set_cons_succ]
              refine wpAnyZ_take0 (i := 2) (oi := ⟨_, _, _, _, _, _⟩) (v := ?_) rfl (by decide +kernel) (fun _ _ _ h => h) (Or.inl ⟨by rfl, ?_⟩) (fun _ => hS) ?_
              rotate_left
              focus (intro w _; go_simp; (try with_reducible rfl); done)
              simp only [Act.put, List.setIfInBounds_toArray, List.set_cons_zero, List.set_cons_succ]
              refine wpAnyZ_take0 (i := 3) (oi := ⟨_, _, _, _, _, _⟩) (v := ?_) rfl (by decide +kernel) (fun _ _ _ h => h) (Or.inl ⟨by rfl, ?_⟩) (fun _ => hS) ?_
              rotate_left
              focus (intro w _; go_simp; (try with_reducible rfl); done)
              simp only [Act.put, List.setIfInBounds_toArray, List.set_cons_zero, List.set_cons_succ]
              refine wpAnyZ_take (i := 4) (oi := ⟨_, _, _, _, _, _⟩) (v := ?_) rfl (by decide +kernel) (fun _ _ _ h => h) (Or.inl ⟨by rfl, ?_⟩) hS ?_
              rotate_left
              focus (intro w hSw; (try dsimp only at hSw); (obtain ⟨z0, z1, z2, zf⟩ := ref_cells hSw; clear hSw); go_simp; (try with_reducible rfl); done)
              simp only [Act.put, List.setIfInBounds_toArray, List.set_cons_zero, List.set_cons_succ]
              refine wpAnyZ_take0 (i := 5) (oi := ⟨_, _, _, _, _, _⟩) (v := ?_) rfl (by decide +kernel) (fun _ _ _ h => h) (Or.inl ⟨by rfl, ?_⟩) (fun _ => hS) ?_
              rotate_left
              focus (intro w _; go_simp; (try with_reducible rfl); done)
              simp only [Act.put, List.setIfInBounds_toArray, List.set_cons_zero, List.set_cons_succ]
              refine wpAnyZ_take0 (i := 6) (oi := ⟨_, _, _, _, _, _⟩) (v := ?_) rfl (by decide +kernel) (fun _ _ _ h => h) (Or.inl ⟨by rfl, ?_⟩) (fun _ => hS) ?_
              rotate_left
              focus (intro w _; go_simp; (try with_reducible rfl); done)
              simp only [Act.put, List.setIfInBounds_toArray, List.set_cons_zero, List.set_cons_succ]
              refine wpAnyZ_take0 (i := 7) (oi := ⟨_, _, _, _, _, _⟩) (v := ?_) rfl (by decide +kernel) (fun _ _ _ h => h) (Or.inl ⟨by rfl, ?_⟩) (fun _ => hS) ?_
              rotate_left
              focus (intro w _; go_simp; (try with_reducible rfl); done)
              simp only [Act.put, List.setIfInBounds_toArray, List.set_cons_zero, List.set_cons_succ]
              refine wpAnyZ_take0 (i := 8) (oi := ⟨_, _, _, _, _, _⟩) (v := ?_) rfl (by decide +kernel) (fun _ _ _ h => h) (Or.inl ⟨by rfl, ?_⟩) (fun _ => hS) ?_
              rotate_left
              focus (intro w _; go_simp; (try with_reducible rfl); done)
              simp only [Act.put, List.setIfInBounds_toArray, List.set_cons_zero, List.set_cons_succ]
              refine wpAnyZ_take0 (i := 9) (oi := ⟨_, _, _, _, _, _⟩) (v := ?_) rfl (by decide +kernel) (fun _ _ _ h => h) (Or.inl ⟨by rfl, ?_⟩) (fun _ => hS) ?_
              rotate_left
              focus (intro w _; go_simp; (try with_reducible rfl); done)
              simp only [Act.put, List.setIfInBounds_toArray, List.set_cons_zero, List.set_cons_succ]
              refine wpAnyZ_take (i := 10) (oi := ⟨_, _, _, _, _, _⟩) (v := ?_) rfl (by decide +kernel) (fun _ _ _ h => h) (Or.inl ⟨by rfl, ?_⟩) hS ?_
              rotate_left
              focus (intro w hSw; (try dsimp only at hSw); (obtain ⟨z0, z1, z2, zf⟩ := ref_cells hSw; clear hSw); go_simp; (try with_reducible rfl); done)
              simp only [Act.put, List.setIfInBounds_toArray, List.set_cons_zero, List.set_cons_succ]
              refine wpAnyZ_take0 (i := 11) (oi := ⟨_, _, _, _, _, _⟩) (v := ?_) rfl (by decide +kernel) (fun _ _ _ h => h) (Or.inl ⟨by rfl, ?_⟩) (fun _ => hS) ?_
              rotate_left
              focus (intro w _; go_simp; (try with_reducible rfl); done)
              simp only [Act.put, List.setIfInBounds_toArray, List.set_cons_zero, List.set_cons_succ]
              refine wpAnyZ_take0 (i := 12) (oi := ⟨_, _, _, _, _, _⟩) (v := ?_) rfl (by decide +kernel) (fun _ _ _ h => h) (Or.inl ⟨by rfl, ?_⟩) (fun _ => hS) ?_
              rotate_left
              focus (intro w _; go_simp; (try with_reducible rfl); done)
              simp only [Act.put, List.setIfInBounds_toArray, List.set_cons_zero, List.set_cons_succ]
              refine wpAnyZ_take0 (i := 13) (oi := ⟨_, _, _, _, _, _⟩) (v := ?_) rfl (by decide +kernel) (fun _ _ _ h => h) (Or.inl ⟨by rfl, ?_⟩) (fun _ => hS) ?_
              rotate_left
              focus (intro w _; go_simp; (try with_reducible rfl); done)
              simp only [Act.put, List.setIfInBounds_toArray, List.set_cons_zero, List.set_cons_succ]
              refine wpAnyZ_done (by decide +kernel) ?_
              clear hS
              go_wp2
              go_ret
              refine ⟨?_, RefTo.drew HE.out⟩
              rw [hl1.out, hl2.out, HL.out, HM.out]
              rfl
        · go_wp2_with fail
          clear a0 a1 a2 af
          obtain ⟨W1, hW1⟩ : ∃ u, u = wr := ⟨_, rfl⟩
          subst hW1
          go_loopw [7, 10] (fun s i wr => ∃ (q : Nat) (B' : Option Addr) (m' d' : Nat), s = .slice B' m' d' ∧ i = .int .i64 (q : Int) ∧ q ≤ n2 ∧ OwnP wr W1.heap.size B' m' d' (leftP t (r.m.take q)) ∧ Hd (Below W1.heap.size W1 wr))
            (fun _ i _ => n2 - (intOf i).toNat)
          case atStart => exact ⟨0, none, 0, 0, rfl, rfl, by omega, OwnP.nil_ _ _ _, ⟨Below.refl _ _⟩⟩
          case round =>
            obtain ⟨q, B', m', d', rfl, rfl, hq, ho, hbm⟩ := hrel
            have hlm := Hd.mk (OwnP.len ho)
            have hlm1 := Hd.mk (leftP_take_len t r.m q)
            have hm' : m' ≤ 100 := by have := hlm.out; have := hlm1.out; omega
            have hB := Hd.mk (hb.out.trans (hbm.out.mono hb.out.size))
            have hhm := Hd.mk ((hB.out.block g hgl).trans hh.out)
            have hszm := Hd.mk hbm.out.size
            obtain ⟨a0, a1, a2, af⟩ := ref_cells hhm.out
            by_cases hlt : q < n2
            · obtain ⟨⟨qx, qy⟩, hqm⟩ : ∃ p, r.m[q]? = some p := ⟨r.m[q]'(by have := HM.out; omega), List.getElem?_eq_getElem _⟩
              obtain ⟨ad, rfl, p0, p1⟩ := RdP.get' (Rd.below (Own.rd H.out.o2) hB.out) hqm
              have hji : (q : Int) < (n2 : Int) := by omega
              have hj0 : (0 : Int) ≤ (q : Int) := by omega
              have hst := Hd.mk (leftP_take_succ (t := t) hqm)
              by_cases hqt : qx < t
              · rw [if_pos hqt] at hst
                have hA3 := Hd.mk (below_alloc wr (.cells #[.int .i64 qx, .int .i64 qy] 58))
                go_wp2_with (at_builtin; refine wl_appP rfl (.tmp 86) (.tmp 94) rfl (m := 1) rfl rfl (Own.alloc ho _) (RdP.newAt wr [(qx, qy)] (cs := #[.int .i64 qx, .int .i64 qy]) rfl rfl rfl) (by omega) (Nat.le_trans hszm.out hA3.out.size) ?_; rintro vv w4 ⟨A4, c4, rfl, ho4, hg4, _⟩)
                clear a0 a1 a2 af
                rw [← hst.out] at ho4
                have hB4 := Hd.mk ((hbm.out.trans (hA3.out.mono hszm.out)).grown hg4 (Nat.le_trans hszm.out hA3.out.size) (fun q e => (Own.lt ho e).1))
                go_roundw
                case rel => exact ⟨q + 1, A4, m' + 1, c4, rfl, by go_num, by omega, ho4, hB4⟩
                case measure => simp [intOf]; omega
              · rw [if_neg hqt] at hst
                go_wp2_with fail
                clear a0 a1 a2 af
                go_roundw
                case rel => exact ⟨q + 1, B', m', d', rfl, by go_num, by omega, by rw [hst.out, List.append_nil]; exact ho, hbm⟩
                case measure => simp [intOf]; omega
            · obtain hqn : q = n2 := by omega
              subst hqn
              have hji : ¬ ((q : Int) < (q : Int)) := by omega
              have hfm : Hd (r.m.take q = r.m) := ⟨List.take_of_length_le (by rw [HM.out]; omega)⟩
              rw [hfm.out] at ho
              have O2 := Hd.mk ho
              have af0 := af 0
              have af1 := af 1
              have af2 := af 2
              clear ho hlt
              go_wp2_with fail
              clear a0 a1 a2 af af0 af1 af2
              have y0 := heap_setCell_same wr g 0 _ 175 (.slice A' 0 c') hhm.out
              have y1 := heap_setCell_same _ g 1 _ 175 (.int .i64 av) y0
              have y2 := heap_setCell_same _ g 2 _ 175 (.slice B' m' d') y1
              have T5 := (((Tch.of_below (F := F) hB.out).trans (Tch.setCell _ wr g 0 (.slice A' 0 c') (.inl (.inl H.out.fg)))).trans (Tch.setCell _ _ g 1 (.int .i64 av) (.inl (.inl H.out.fg)))).trans (Tch.setCell _ _ g 2 (.slice B' m' d') (.inl (.inl H.out.fg)))
              have hg1 : g < W1.heap.size := Nat.lt_of_lt_of_le hgl hb.out.size
              have HF := Hd.mk (RefC.upd (r' := ⟨leftP t r.row, av, leftP t r.m⟩) H.out y2 T5 (Own.mono (own_cell (own_cell (own_cell (Own.below O1.out hbm.out) hgl) hgl) hgl) (Nat.zero_le _)) (Own.mono (own_cell (own_cell (own_cell O2.out hg1) hg1) hg1) (Nat.zero_le _)) (fun q e => .inr (Own.lt O1.out e).1) (fun q e => .inr (Nat.le_trans hb.out.size (Own.lt O2.out e).1)) (fun q e e' => by
                have h1 := (Own.lt O1.out e).2
                have h2 := (Own.lt O2.out e').1
                omega))
              rw [← hcut.out] at HF
              obtain ⟨W3, hW3⟩ : ∃ u, Hd (((wr.setCell ⟨g, 0, none⟩ (.slice A' 0 c')).setCell ⟨g, 1, none⟩ (.int .i64 av)).setCell ⟨g, 2, none⟩ (.slice B' m' d') = u) := ⟨_, ⟨rfl⟩⟩
              rw [hW3.out] at HF ⊢
              clear y0 y1 y2 T5 hW3
              refine (rthin165 g (up F w W3) (r.cutD t) W3 HF.out.1 hcok.out (by rw [hcut.out]; exact Nat.le_trans (leftP_len _ _) (by rw [HL.out]; exact hn1))).mono ?_
              rintro e W4 ⟨rfl, h4⟩
              have hdr : Hd ((r.cutD t).thin = r.drop t) := ⟨rfl⟩
              rw [hdr.out] at h4
              have HE := Hd.mk (RefTo.trans HF.out h4)
              obtain ⟨⟨E1, e1, f1, E2, e2, f2, hC⟩, -⟩ := h4
              have hl1 := Hd.mk (OwnP.len hC.o1)
              have hl2 := Hd.mk (OwnP.len hC.o2)
              obtain ⟨ev, hev⟩ : ∃ ev, (r.drop t).at' = ev := ⟨_, rfl⟩
              have hheap := hC.heap
              rw [hev] at hheap
              have hE := Hd.mk hheap
              have hd1 := Hd.mk (thin_len (r.cutD t))
              have he1 : e1 ≤ 101 := by
                have h1 := hd1.out.1
                rw [hdr.out, hl1.out] at h1
                have h2 : (r.cutD t).row.length ≤ 100 := by rw [hcut.out]; exact Nat.le_trans (leftP_len _ _) (by rw [HL.out]; exact hn1)
                omega
              have he2 : e2 ≤ 100 := by
                have h1 := hd1.out.2
                rw [hdr.out] at h1
                rw [← hl2.out, h1, hcut.out]
                exact Nat.le_trans (leftP_len _ _) (by rw [HM.out]; exact hn2)
              have hs1 : IntKind.i64.wrap ((j : Int) + (q : Int) - (e1 : Int)) = (j : Int) + (q : Int) - (e1 : Int) := IntWalk.i64_in _ (by omega)
              have hs2 : IntKind.i64.wrap ((j : Int) + (q : Int) - (e1 : Int) - (e2 : Int)) = (j : Int) + (q : Int) - (e1 : Int) - (e2 : Int) := IntWalk.i64_in _ (by omega)
              clear hC hheap HF
              go_wp2_with fail
              refine region_zone 14 [false, false, false, false, false, false, false, false, false, false, false, false, false, false] (by kernel_rfl) (by kernel_rfl) hmix (fun w' => w'.heap[g]? = some (.cells #[.slice E1 e1 f1, .int .i64 ev, .slice E2 e2 f2] 175 (0, 0))) [] ?_ (fun hS => ?_)
              · exact hE.out
              refine wpAnyZ_take0 (i := 0) (oi := ⟨_, _, _, _, _, _⟩) (v := ?_) rfl (by decide +kernel) (fun _ _ _ h => h) (Or.inl ⟨by rfl, ?_⟩) (fun _ => hS) ?_
              rotate_left
              focus (intro w _; go_simp; (try with_reducible rfl); done)
              simp only [Act.put, List.setIfInBounds_toArray, List.set_cons_zero, List.set_cons_succ]
              refine wpAnyZ_take0 (i := 1) (oi := ⟨_, _, _, _, _, _⟩) (v := ?_) rfl (by decide +kernel) (fun _ _ _ h => h) (Or.inl ⟨by rfl, ?_⟩) (fun _ => hS) ?_
              rotate_left
              focus (intro w _; go_simp; (try with_reducible rfl); done)
              simp only [Act.put, List.setIfInBounds_toArray, List.set_cons_zero, List.set_cons_succ]
              refine wpAnyZ_take0 (i := 2) (oi := ⟨_, _, _, _, _, _⟩) (v := ?_) rfl (by decide +kernel) (fun _ _ _ h => h) (Or.inl ⟨by rfl, ?_⟩) (fun _ => hS) ?_
              rotate_left
              focus (intro w _; go_simp; (try with_reducible rfl); done)
              simp only [Act.put, List.setIfInBounds_toArray, List.set_cons_zero, List.set_cons_succ]
              refine wpAnyZ_take0 (i := 3) (oi := ⟨_, _, _, _, _, _⟩) (v := ?_) rfl (by decide +kernel) (fun _ _ _ h => h) (Or.inl ⟨by rfl, ?_⟩) (fun _ => hS) ?_
              rotate_left
              focus (intro w _; go_simp; (try with_reducible rfl); done)
              simp only [Act.put, List.setIfInBounds_toArray, List.set_cons_zero, List.set_cons_succ]
              refine wpAnyZ_take (i := 4) (oi := ⟨_, _, _, _, _, _⟩) (v := ?_) rfl (by decide +kernel) (fun _ _ _ h => h) (Or.inl ⟨by rfl, ?_⟩) hS ?_
              rotate_left
              focus (intro w hSw; (try dsimp only at hSw); (obtain ⟨z0, z1, z2, zf⟩ := ref_cells hSw; clear hSw); go_simp; (try with_reducible rfl); done)
              simp only [Act.put, List.setIfInBounds_toArray, List.set_cons_zero, List.set_cons_succ]
              refine wpAnyZ_take0 (i := 5) (oi := ⟨_, _, _, _, _, _⟩) (v := ?_) rfl (by decide +kernel) (fun _ _ _ h => h) (Or.inl ⟨by rfl, ?_⟩) (fun _ => hS) ?_
              rotate_left
              focus (intro w _; go_simp; (try with_reducible rfl); done)
              simp only [Act.put, List.setIfInBounds_toArray, List.set_cons_zero, List.set_cons_succ]
              refine wpAnyZ_take0 (i := 6) (oi := ⟨_, _, _, _, _, _⟩) (v := ?_) rfl (by decide +kernel) (fun _ _ _ h => h) (Or.inl ⟨by rfl, ?_⟩) (fun _ => hS) ?_
              rotate_left
              focus (intro w _; go_simp; (try with_reducible rfl); done)
              simp only [Act.put, List.setIfInBounds_toArray, List.set_cons_zero, List.set_cons_succ]
              refine wpAnyZ_take0 (i := 7) (oi := ⟨_, _, _, _, _, _⟩) (v := ?_) rfl (by decide +kernel) (fun _ _ _ h => h) (Or.inl ⟨by rfl, ?_⟩) (fun _ => hS) ?_
              rotate_left
              focus (intro w _; go_simp; (try with_reducible rfl); done)
              simp only [Act.put, List.setIfInBounds_toArray, List.set_cons_zero, List.set_cons_succ]
              refine wpAnyZ_take0 (i := 8) (oi := ⟨_, _, _, _, _, _⟩) (v := ?_) rfl (by decide +kernel) (fun _ _ _ h => h) (Or.inl ⟨by rfl, ?_⟩) (fun _ => hS) ?_
              rotate_left
              focus (intro w _; go_simp; (try with_reducible rfl); done)
              simp only [Act.put, List.setIfInBounds_toArray, List.set_cons_zero, List.set_cons_succ]
              refine wpAnyZ_take0 (i := 9) (oi := ⟨_, _, _, _, _, _⟩) (v := ?_) rfl (by decide +kernel) (fun _ _ _ h => h) (Or.inl ⟨by rfl, ?_⟩) (fun _ => hS) ?_
              rotate_left
              focus (intro w _; go_simp; (try with_reducible rfl); done)
              simp only [Act.put, List.setIfInBounds_toArray, List.set_cons_zero, List.set_cons_succ]
              refine wpAnyZ_take (i := 10) (oi := ⟨_, _, _, _, _, _⟩) (v := ?_) rfl (by decide +kernel) (fun _ _ _ h => h) (Or.inl ⟨by rfl, ?_⟩) hS ?_
              rotate_left
              focus (intro w hSw; (try dsimp only at hSw); (obtain ⟨z0, z1, z2, zf⟩ := ref_cells hSw; clear hSw); go_simp; (try with_reducible rfl); done)
              simp only [Act.put, List.setIfInBounds_toArray, List.set_cons_zero, List.set_cons_succ]
              refine wpAnyZ_take0 (i := 11) (oi := ⟨_, _, _, _, _, _⟩) (v := ?_) rfl (by decide +kernel) (fun _ _ _ h => h) (Or.inl ⟨by rfl, ?_⟩) (fun _ => hS) ?_
              rotate_left
              focus (intro w _; go_simp; (try with_reducible rfl); done)
              simp only [Act.put, List.setIfInBounds_toArray, List.set_cons_zero, List.set_cons_succ]
              refine wpAnyZ_take0 (i := 12) (oi := ⟨_, _, _, _, _, _⟩) (v := ?_) rfl (by decide +kernel) (fun _ _ _ h => h) (Or.inl ⟨by rfl, ?_⟩) (fun _ => hS) ?_
              rotate_left
              focus (intro w _; go_simp; (try with_reducible rfl); done)
              simp only [Act.put, List.setIfInBounds_toArray, List.set_cons_zero, List.set_cons_succ]
              refine wpAnyZ_take0 (i := 13) (oi := ⟨_, _, _, _, _, _⟩) (v := ?_) rfl (by decide +kernel) (fun _ _ _ h => h) (Or.inl ⟨by rfl, ?_⟩) (fun _ => hS) ?_
              rotate_left
              focus (intro w _; go_simp; (try with_reducible rfl); done)
              simp only [Act.put, List.setIfInBounds_toArray, List.set_cons_zero, List.set_cons_succ]
              refine wpAnyZ_done (by decide +kernel) ?_
              clear hS
              go_wp2
              go_ret
              refine ⟨?_, RefTo.drew HE.out⟩
              rw [hl1.out, hl2.out, HL.out, HM.out]
              rfl
end Go.Proofs.Ytkgdcglnkodgnaa
namespace Go.Proofs.Ytkgdcglnkodgnaa
open Go.RowKit
set_option maxRecDepth 100000 in
set_option maxHeartbeats 2000000 in
theorem clone60 (g : Nat) (F : Nat → Prop) (s : NS) (w : World) (h : NavAt w g F s) (hi : NInv s) : Calls Try.prog 60 #[.pointer (some ⟨g, 0, none⟩)] w (RetNav w s) := by
  obtain ⟨A1, n1, c1, A2, n2, c2, A3, n3, c3, h⟩ := h
  have hmix := try_mixed
  have H := Hd.mk h
  have hgl : g < w.heap.size := h.lt g h.fg
  have l1 := Hd.mk h.o1.len
  have l2 := Hd.mk h.o2.len
  have l3 := Hd.mk h.o3.len
  have hsm := Hd.mk hi
  obtain ⟨a0, a1, a2, a3, a4, a5, a6, af⟩ := nav_cells h.heap
  obtain ⟨hv, hhv⟩ : ∃ hv : Int, Hd ((if s.has then 1 else 0 : Int) = hv) := ⟨_, ⟨rfl⟩⟩
  rw [hhv.out] at a1
  have hX := Hd.mk (heap_alloc_new w (.cells #[.int .i64 1, .int .i64 hv, .int .i64 s.now.1, .int .i64 s.now.2, .slice A1 n1 c1, .slice A2 n2 c2, .slice A3 n3 c3] 78))
  have hA := Hd.mk (below_alloc w (.cells #[.int .i64 1, .int .i64 hv, .int .i64 s.now.1, .int .i64 s.now.2, .slice A1 n1 c1, .slice A2 n2 c2, .slice A3 n3 c3] 78))
  clear h hi
  go_enter Try.func60, Try.ntmps60
  go_wp2_with fail
  refine (is96 g w a0).mono ?_
  rintro e w1 ⟨rfl, rfl⟩
  go_wp2_with fail
  clear a0 a1 a2 a3 a4 a5 a6 af
  obtain ⟨V, hV⟩ : ∃ V, Hd (w.alloc (.cells #[.int .i64 1, .int .i64 hv, .int .i64 s.now.1, .int .i64 s.now.2, .slice A1 n1 c1, .slice A2 n2 c2, .slice A3 n3 c3] 78) = V) := ⟨_, ⟨rfl⟩⟩
  have hVs : Hd (w.heap.size < V.heap.size) := ⟨by rw [← hV.out]; simp⟩
  rw [hV.out] at hX hA ⊢
  clear hV
  have hgV : g < V.heap.size := by have := hVs.out; omega
  have hhg := Hd.mk ((hA.out.block g hgl).trans (by rw [H.out.heap, hhv.out] : w.heap[g]? = some (.cells #[.int .i64 1, .int .i64 hv, .int .i64 s.now.1, .int .i64 s.now.2, .slice A1 n1 c1, .slice A2 n2 c2, .slice A3 n3 c3] 78 (0, 0))))
  have R1 := Hd.mk (Rd.below (Own.rd H.out.o1) hA.out)
  have R2 := Hd.mk (Rd.below (Own.rd H.out.o2) hA.out)
  have R3 := Hd.mk (Rd.below (Own.rd H.out.o3) hA.out)
  have hn1 : n1 ≤ 100 := by have := hsm.out.small; have := l1.out; omega
  have hn2 : n2 ≤ 100 := by have := hsm.out.small; have := l2.out; omega
  have hn3 : n3 ≤ 100 := by have := hsm.out.small; have := l3.out; omega
  refine region_zone 21 [false, false, false, false, false, false, false, false, false, false, false, false, false, false, false, false, false, false, false, false, false] (by kernel_rfl) (by kernel_rfl) hmix (fun w' => Below V.heap.size V w') [16, 18, 20] ?_ (fun hS => ?_)
  · exact below_drew V
  refine wpAnyZ_take0 (i := 0) (oi := ⟨_, _, _, _, _, _⟩) (v := ?_) rfl (by decide +kernel) (fun _ _ _ h => h) (Or.inl ⟨by rfl, ?_⟩) (fun _ => hS) ?_
  rotate_left
  focus (intro w _; go_simp; (try with_reducible rfl); done)
  simp only [Act.put, List.setIfInBounds_toArray, List.set_cons_zero, List.set_cons_succ]
  refine wpAnyZ_take0 (i := 1) (oi := ⟨_, _, _, _, _, _⟩) (v := ?_) rfl (by decide +kernel) (fun _ _ _ h => h) (Or.inl ⟨by rfl, ?_⟩) (fun _ => hS) ?_
  rotate_left
  focus (intro w _; go_simp; (try with_reducible rfl); done)
  simp only [Act.put, List.setIfInBounds_toArray, List.set_cons_zero, List.set_cons_succ]
  refine wpAnyZ_take0 (i := 2) (oi := ⟨_, _, _, _, _, _⟩) (v := ?_) rfl (by decide +kernel) (fun _ _ _ h => h) (Or.inl ⟨by rfl, ?_⟩) (fun _ => hS) ?_
  rotate_left
  focus (intro w _; go_simp; (try with_reducible rfl); done)
  simp only [Act.put, List.setIfInBounds_toArray, List.set_cons_zero, List.set_cons_succ]
  refine wpAnyZ_take (i := 3) (oi := ⟨_, _, _, _, _, _⟩) (v := ?_) rfl (by decide +kernel) (fun _ _ _ h => h) (Or.inl ⟨by rfl, ?_⟩) hS ?_
  rotate_left
  focus (intro w hSw; (try dsimp only at hSw); (obtain ⟨z0, z1, z2, z3, z4, z5, z6, zf⟩ := nav_cells ((hSw.block g hgV).trans hhg.out); clear hSw); go_simp; (try with_reducible rfl); done)
  simp only [Act.put, List.setIfInBounds_toArray, List.set_cons_zero, List.set_cons_succ]
  refine wpAnyZ_take0 (i := 5) (oi := ⟨_, _, _, _, _, _⟩) (v := ?_) rfl (by decide +kernel) (fun _ _ _ h => h) (Or.inl ⟨by rfl, ?_⟩) (fun _ => hS) ?_
  rotate_left
  focus (intro w _; go_simp; (try with_reducible rfl); done)
  simp only [Act.put, List.setIfInBounds_toArray, List.set_cons_zero, List.set_cons_succ]
  refine wpAnyZ_take0 (i := 6) (oi := ⟨_, _, _, _, _, _⟩) (v := ?_) rfl (by decide +kernel) (fun _ _ _ h => h) (Or.inl ⟨by rfl, ?_⟩) (fun _ => hS) ?_
  rotate_left
  focus (intro w _; go_simp; (try with_reducible rfl); done)
  simp only [Act.put, List.setIfInBounds_toArray, List.set_cons_zero, List.set_cons_succ]
  refine wpAnyZ_take0 (i := 7) (oi := ⟨_, _, _, _, _, _⟩) (v := ?_) rfl (by decide +kernel) (fun _ _ _ h => h) (Or.inl ⟨by rfl, ?_⟩) (fun _ => hS) ?_
  rotate_left
  focus (intro w _; go_simp; (try with_reducible rfl); done)
  simp only [Act.put, List.setIfInBounds_toArray, List.set_cons_zero, List.set_cons_succ]
  refine wpAnyZ_take (i := 8) (oi := ⟨_, _, _, _, _, _⟩) (v := ?_) rfl (by decide +kernel) (fun _ _ _ h => h) (Or.inl ⟨by rfl, ?_⟩) hS ?_
  rotate_left
  focus (intro w hSw; (try dsimp only at hSw); (obtain ⟨z0, z1, z2, z3, z4, z5, z6, zf⟩ := nav_cells ((hSw.block g hgV).trans hhg.out); clear hSw); go_simp; (try with_reducible rfl); done)
  simp only [Act.put, List.setIfInBounds_toArray, List.set_cons_zero, List.set_cons_succ]
  refine wpAnyZ_take0 (i := 10) (oi := ⟨_, _, _, _, _, _⟩) (v := ?_) rfl (by decide +kernel) (fun _ _ _ h => h) (Or.inl ⟨by rfl, ?_⟩) (fun _ => hS) ?_
  rotate_left
  focus (intro w _; go_simp; (try with_reducible rfl); done)
  simp only [Act.put, List.setIfInBounds_toArray, List.set_cons_zero, List.set_cons_succ]
  refine wpAnyZ_take0 (i := 11) (oi := ⟨_, _, _, _, _, _⟩) (v := ?_) rfl (by decide +kernel) (fun _ _ _ h => h) (Or.inl ⟨by rfl, ?_⟩) (fun _ => hS) ?_
  rotate_left
  focus (intro w _; go_simp; (try with_reducible rfl); done)
  simp only [Act.put, List.setIfInBounds_toArray, List.set_cons_zero, List.set_cons_succ]
  refine wpAnyZ_take0 (i := 12) (oi := ⟨_, _, _, _, _, _⟩) (v := ?_) rfl (by decide +kernel) (fun _ _ _ h => h) (Or.inl ⟨by rfl, ?_⟩) (fun _ => hS) ?_
  rotate_left
  focus (intro w _; go_simp; (try with_reducible rfl); done)
  simp only [Act.put, List.setIfInBounds_toArray, List.set_cons_zero, List.set_cons_succ]
  refine wpAnyZ_take (i := 13) (oi := ⟨_, _, _, _, _, _⟩) (v := ?_) rfl (by decide +kernel) (fun _ _ _ h => h) (Or.inl ⟨by rfl, ?_⟩) hS ?_
  rotate_left
  focus (intro w hSw; (try dsimp only at hSw); (obtain ⟨z0, z1, z2, z3, z4, z5, z6, zf⟩ := nav_cells ((hSw.block g hgV).trans hhg.out); clear hSw); go_simp; (try with_reducible rfl); done)
  simp only [Act.put, List.setIfInBounds_toArray, List.set_cons_zero, List.set_cons_succ]
  refine wpAnyZ_one (i := 4) rfl (by decide +kernel) (fun K hKK => ?_)
  go_simp
  refine (clone99 A1 n1 c1 s.bh V.drew (Rd.below R1.out (below_drew V)) (by omega) (OwnP.some_ H.out.o1)).mono ?_
  rintro e x1 ⟨B1, d1, rfl, o1, b1⟩
  have S1 := (below_drew V).trans b1
  clear hS
  have hS := S1
  refine hKK.out _ _ (fun _ => hS) ?_
  clear hKK
  refine wpAnyZ_one (i := 9) rfl (by decide +kernel) (fun K hKK => ?_)
  go_simp
  refine (clone99 A2 n2 c2 s.ah x1 (Rd.below R2.out S1) (by omega) (OwnP.some_ H.out.o2)).mono ?_
  rintro e x2 ⟨B2, d2, rfl, o2, b2⟩
  have S2 := S1.trans (b2.mono S1.size)
  clear hS
  have hS := S2
  refine hKK.out _ _ (fun _ => hS) ?_
  clear hKK
  refine wpAnyZ_one (i := 14) rfl (by decide +kernel) (fun K hKK => ?_)
  go_simp
  refine (clone99 A3 n3 c3 s.mks x2 (Rd.below R3.out S2) (by omega) (OwnP.some_ H.out.o3)).mono ?_
  rintro e x3 ⟨B3, d3, rfl, o3, b3⟩
  have S3 := S2.trans (b3.mono S2.size)
  clear hS
  have hS := S3
  refine hKK.out _ _ (fun _ => hS) ?_
  clear hKK
  refine wpAnyZ_take0 (i := 15) (oi := ⟨_, _, _, _, _, _⟩) (v := ?_) rfl (by decide +kernel) (fun _ _ _ h => h) (Or.inl ⟨by rfl, ?_⟩) (fun _ => hS) ?_
  rotate_left
  focus (intro w _; go_simp; (try with_reducible rfl); done)
  simp only [Act.put, List.setIfInBounds_toArray, List.set_cons_zero, List.set_cons_succ]
  have O1 := Hd.mk (Own.below (Own.below o1 b2) b3)
  have O2 := Hd.mk (Own.below o2 b3)
  have O3 := Hd.mk o3
  have D1 := Hd.mk (sl_lt o1)
  have D2 := Hd.mk (sl_lt o2)
  have HS := Hd.mk S3
  have z12 := Hd.mk b2.size
  have z1 := Hd.mk b1.size
  have hx3 := (S3.block w.heap.size hVs.out).trans hX.out
  have HX := Hd.mk hx3
  clear o1 o2 o3 b1 b2 b3 S1 S2 S3
  obtain ⟨q0, q1, q2, q3, q4, q5, q6, qf⟩ := nav_cells hx3
  have qf4 := qf 4
  have qf5 := qf 5
  have qf6 := qf 6
  clear qf
  refine wpAnyZ_one (i := 16) rfl (by decide +kernel) (fun K hKK => ?_)
  go_simp
  refine hKK.out _ _ (fun hz => absurd hz (by decide +kernel)) ?_
  clear hKK
  refine wpAnyZ_take0 (i := 17) (oi := ⟨_, _, _, _, _, _⟩) (v := ?_) rfl (by decide +kernel) (fun _ _ _ h => h) (Or.inl ⟨by rfl, ?_⟩) (fun hz => absurd hz (by decide +kernel)) ?_
  rotate_left
  focus (intro w _; go_simp; (try with_reducible rfl); done)
  simp only [Act.put, List.setIfInBounds_toArray, List.set_cons_zero, List.set_cons_succ]
  refine wpAnyZ_one (i := 18) rfl (by decide +kernel) (fun K hKK => ?_)
  go_simp
  refine hKK.out _ _ (fun hz => absurd hz (by decide +kernel)) ?_
  clear hKK
  refine wpAnyZ_take0 (i := 19) (oi := ⟨_, _, _, _, _, _⟩) (v := ?_) rfl (by decide +kernel) (fun _ _ _ h => h) (Or.inl ⟨by rfl, ?_⟩) (fun hz => absurd hz (by decide +kernel)) ?_
  rotate_left
  focus (intro w _; go_simp; (try with_reducible rfl); done)
  simp only [Act.put, List.setIfInBounds_toArray, List.set_cons_zero, List.set_cons_succ]
  refine wpAnyZ_one (i := 20) rfl (by decide +kernel) (fun K hKK => ?_)
  go_simp
  refine hKK.out _ _ (fun hz => absurd hz (by decide +kernel)) ?_
  clear hKK
  refine wpAnyZ_done (by decide +kernel) ?_
  clear q0 q1 q2 q3 q4 q5 q6 qf4 qf5 qf6 hx3 hS
  have y1 := heap_setCell_same x3 w.heap.size 4 _ 78 (.slice B1 n1 d1) HX.out
  have y2 := heap_setCell_same _ w.heap.size 5 _ 78 (.slice B2 n2 d2) y1
  have y3 := Hd.mk (heap_setCell_same _ w.heap.size 6 _ 78 (.slice B3 n3 d3) y2)
  have T := ((Tch.setCell (fun q => q = w.heap.size) x3 w.heap.size 4 (.slice B1 n1 d1) (.inl rfl)).trans (Tch.setCell _ _ w.heap.size 5 (.slice B2 n2 d2) (.inl (.inl rfl)))).trans (Tch.setCell _ _ w.heap.size 6 (.slice B3 n3 d3) (.inl (.inl rfl)))
  have hb := (hA.out.trans (HS.out.mono hA.out.size)).trans (T.below (B := w.heap.size) (fun q e => by omega) (hA.out.trans (HS.out.mono hA.out.size)).size)
  have HB := Hd.mk hb
  clear y1 y2 T hb
  go_wp2
  go_ret
  have e1 : w.heap.size < V.drew.heap.size := hVs.out
  have e2 : w.heap.size < x1.heap.size := Nat.lt_of_lt_of_le e1 z1.out
  have e3 : w.heap.size < x2.heap.size := Nat.lt_of_lt_of_le e2 z12.out
  refine ⟨w.heap.size, _, rfl, nav_parts (w := w) (s := s) (by rw [y3.out, ← hhv.out]; rfl) (Nat.le_refl _) (own_cell (own_cell (own_cell O1.out e1) e1) e1) (own_cell (own_cell (own_cell O2.out e2) e2) e2) (own_cell (own_cell (own_cell O3.out e3) e3) e3) e1 e2 e3 D1.out D2.out z12.out, fun k e => e.1, HB.out⟩
end Go.Proofs.Ytkgdcglnkodgnaa
