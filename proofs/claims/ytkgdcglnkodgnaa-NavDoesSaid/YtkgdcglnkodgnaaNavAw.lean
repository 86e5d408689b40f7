/-
  Layer 26: Awake, the chapter's first example, walked. No condition.
-/
import Derived.Test.YtkgdcglnkodgnaaNav2
import Derived.Test.YtkgdcglnkodgnaaNav3
import Derived.Test.YtkgdcglnkodgnaaNav5
namespace Go.Proofs.Ytkgdcglnkodgnaa
open Go.RowKit
theorem new_save : NS.new.save = [78, 65, 86, 49, 0, 0, 0, 0] := by
  simp [NS.save, NS.new, NS.now1, putL, putPs, putU_small, magicN]
/-- A call that makes a reader. -/
def RetNav (w : World) (s : NS) (e : Ending) (w' : World) : Prop := ∃ g F, e = .returned (.pointer (some ⟨g, 0, none⟩)) ∧ NavAt w' g F s ∧ (∀ k, F k → w.heap.size ≤ k) ∧ Below w.heap.size w w'
theorem newN (w : World) : Calls Try.prog 52 #[] w (RetNav w NS.new) := (new52 w).mono fun e w' ⟨h1, h2⟩ => by
  subst h1; subst h2
  exact ⟨_, _, rfl, (NavC.new w).at_, fun k e => by omega, below_alloc _ _⟩
set_option maxRecDepth 100000 in
set_option maxHeartbeats 1000000 in
theorem awake42 (w : World) : Calls Try.prog 42 #[] w fun e w' => e = .returned (.bool true) ∧ Below w.heap.size w w' := by
  have V1 : Hd (NS.new.visit (1, 0) = (0, ⟨true, (1, 0), [], [], []⟩)) := ⟨rfl⟩
  have V2 : Hd ((⟨true, (1, 0), [], [], []⟩ : NS).visit (2, 0) = (0, ⟨true, (2, 0), [(1, 0)], [], []⟩)) := ⟨rfl⟩
  have V3 : Hd ((⟨true, (2, 0), [(1, 0)], [], []⟩ : NS).visit (3, 0) = (0, ⟨true, (3, 0), [(1, 0), (2, 0)], [], []⟩)) := ⟨rfl⟩
  have V4 : Hd ((⟨true, (3, 0), [(1, 0), (2, 0)], [], []⟩ : NS).back = ((2, 0), 0, ⟨true, (2, 0), [(1, 0)], [(3, 0)], []⟩)) := ⟨rfl⟩
  have hsv := Hd.mk new_save
  go_enter Try.func42, Try.ntmps42
  go_wp2_with fail
  refine (newN _).mono ?_
  rintro e w0 ⟨g, F, rfl, N0, hF, hb0⟩
  have HF := Hd.mk hF
  have D0 := Hd.mk N0
  have hlt := N0.lt
  clear N0 hF
  go_wp2_with fail
  refine (visit48 g F NS.new (1, 0) _ D0.out (by simp [NS.new])).mono ?_
  rw [V1.out]
  rintro e w1 ⟨rfl, T1⟩
  have D1 := Hd.mk T1
  clear T1
  go_wp2_with fail
  refine (visit48 g _ _ (2, 0) _ D1.out.1 (by simp)).mono ?_
  rw [V2.out]
  rintro e w2 ⟨rfl, T2⟩
  have D2 := Hd.mk (D1.out.trans T2)
  clear T2 D1
  go_wp2_with fail
  refine (visit48 g _ _ (3, 0) _ D2.out.1 (by simp)).mono ?_
  rw [V3.out]
  rintro e w3 ⟨rfl, T3⟩
  have D3 := Hd.mk (D2.out.trans T3)
  clear T3 D2
  go_wp2_with fail
  refine (back45 g _ _ _ D3.out.1 (by simp) (by simp)).mono ?_
  rw [V4.out]
  rintro e w4 ⟨rfl, T4⟩
  have D4 := Hd.mk (D3.out.trans T4)
  clear T4 D3
  unfold plV
  go_wp2_with fail
  have A4 := Hd.mk (D4.out.1.below (below_alloc w4 (.cells #[.int .i64 2, .int .i64 0] 58)))
  have hbx := Hd.mk (heap_alloc_new w4 (.cells #[.int .i64 2, .int .i64 0] 58))
  have hB4 := Hd.mk ((hb0.trans ((D4.out.below (B := w.heap.size) HF.out hb0.size))).alloc (by have := hb0.size; have := D4.out.2.size; omega) (.cells #[.int .i64 2, .int .i64 0] 58))
  have hs4 := Hd.mk (show w.heap.size ≤ (w4.alloc (.cells #[.int .i64 2, .int .i64 0] 58)).heap.size by have := hb0.size; have := D4.out.2.size; simp; omega)
  refine (behind51 g _ _ _ A4.out (by simp)).mono ?_
  rintro e w5 ⟨B, nb, cb, rfl, ob, b5⟩
  obtain rfl : nb = 1 := by rw [← ob.len]; rfl
  obtain ⟨G1, o1, rfl, p0, _⟩ := OwnP.get ob (k := 0) (p := (1, 0)) rfl
  have hbx5 := Hd.mk ((b5.block w4.heap.size (Array.getElem?_eq_some_iff.1 hbx.out).1).trans hbx.out)
  have A5 := Hd.mk (A4.out.below b5)
  have hB5 := Hd.mk (hB4.out.trans (b5.mono hs4.out))
  have hs5 := Hd.mk (Nat.le_trans hs4.out b5.size)
  simp only [Nat.zero_mul, Nat.add_zero] at p0
  have q0 := Hd.mk p0
  clear p0 b5 ob
  go_wp2_with fail
  refine (ahead49 g _ _ _ A5.out (by simp)).mono ?_
  rintro e w6 ⟨C, nc, cc, rfl, oc, b6⟩
  obtain rfl : nc = 1 := by rw [← oc.len]; rfl
  obtain ⟨G2, o2, rfl, p1, _⟩ := OwnP.get oc (k := 0) (p := (3, 0)) rfl
  have hbx6 := Hd.mk ((b6.block w4.heap.size (Array.getElem?_eq_some_iff.1 hbx5.out).1).trans hbx5.out)
  have hB6 := Hd.mk (hB5.out.trans (b6.mono hs5.out))
  have hs6 := Hd.mk (Nat.le_trans hs5.out b6.size)
  simp only [Nat.zero_mul, Nat.add_zero] at p1
  have p0 := (b6.cell (p := ⟨G1, o1, none⟩) (cell_lt q0.out)).trans q0.out
  have px := cell_of_row _ _ 0 _ _ _ hbx6.out
  simp only [List.getElem?_toArray, List.getElem?_cons_zero] at px
  clear b6 oc
  go_wp2_with fail
  refine (newN _).mono ?_
  rintro e w7 ⟨g2, F2, rfl, N7, hF2, b7⟩
  have A7 := Hd.mk N7
  have hB7 := Hd.mk (hB6.out.trans (b7.mono hs6.out))
  have hs7 := Hd.mk (Nat.le_trans hs6.out b7.size)
  clear N7 hF2 b7 p0 p1 px
  go_wp2_with fail
  refine (save44 g2 F2 NS.new _ A7.out NInv.new).mono ?_
  rw [hsv.out]
  rintro e w8 ⟨S, ns, cs, rfl, os, b8⟩
  have hstr := run_str8 (c := cs) os.rd
  have hB8 := Hd.mk (hB7.out.trans (b8.mono hs7.out))
  clear b8 os
  go_wp2
  go_ret
  exact ⟨rfl, hB8.out⟩
end Go.Proofs.Ytkgdcglnkodgnaa

