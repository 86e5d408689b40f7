/-
  nav: push.
-/
import Derived.Test.YtkgdcglnkodgnaaNavM
import Derived.Test.YtkgdcglnkodgnaaZone
namespace Go.Proofs.Ytkgdcglnkodgnaa
open Go.RowKit
theorem pc_drop (k : Nat) (l : List Pl) : (pc l).drop (k * 2) = pc (l.drop k) := by
  induction l generalizing k with
  | nil => simp [pc]
  | cons p r ih =>
    cases k with
    | zero => rfl
    | succ k => rw [show (k + 1) * 2 = k * 2 + 2 by omega]; exact ih k
theorem pc_take (k : Nat) (l : List Pl) : (pc l).take (k * 2) = pc (l.take k) := by
  induction l generalizing k with
  | nil => simp [pc]
  | cons p r ih =>
    cases k with
    | zero => rfl
    | succ k =>
      rw [show (k + 1) * 2 = k * 2 + 2 by omega]
      simp only [pc, List.take_succ_cons]
      rw [ih k]
theorem RdP.cut {w : World} {A : Option Addr} {n : Nat} {l : List Pl} (h : RdP w A n l) {a b m : Nat} (h1 : a ≤ b) (h2 : b ≤ n) (h3 : b ≤ m) : RdP w (if m = a then A else A.map (·.add (a * 2))) (b - a) ((l.drop a).take (b - a)) := by
  have := Rd.cut h h1 h2 h3
  rw [pc_drop, pc_take] at this
  exact this
set_option maxRecDepth 100000 in
set_option maxHeartbeats 1000000 in
theorem push100 (g : Nat) (F : Nat → Prop) (s : NS) (w : World) (h : NavAt w g F s) (hl : s.bh.length ≤ 100) :
    Calls Try.prog 100 #[.pointer (some ⟨g, 0, none⟩)] w fun e w' => e = .returned (.tuple #[]) ∧ NavTo w w' g F s.push := by
  obtain ⟨A1, n1, c1, A2, n2, c2, A3, n3, c3, h⟩ := h
  have hln := Hd.mk h.o1.len
  have hn1 : n1 ≤ 100 := by rw [← hln.out]; exact hl
  have hmix := try_mixed
  have HH := Hd.mk h.heap
  have N0 := NavT.refl h
  go_enter Try.func100, Try.ntmps100
  go_wp2_with fail
  refine region_zone 14 [false, false, false, false, false, false, false, false, false, false, false, false, false, false] (by kernel_rfl) (by kernel_rfl) hmix (fun w' => w'.heap[g]? = some (.cells #[.int .i64 1, .int .i64 (if s.has then 1 else 0), .int .i64 s.now.1, .int .i64 s.now.2, .slice A1 n1 c1, .slice A2 n2 c2, .slice A3 n3 c3] 78 (0, 0))) [13] ?_ (fun hS => ?_)
  · exact HH.out
  refine wpAnyZ_take0 (i := 0) (oi := ⟨_, _, _, _, _, _⟩) (v := ?_) rfl (by decide +kernel) (fun _ _ _ h => h) (Or.inl ⟨by rfl, ?_⟩) (fun _ => hS) ?_
  rotate_left
  focus (intro w _; go_simp; try with_reducible rfl)
  simp only [Act.put, List.setIfInBounds_toArray, List.set_cons_zero, List.set_cons_succ]
  refine wpAnyZ_take0 (i := 1) (oi := ⟨_, _, _, _, _, _⟩) (v := ?_) rfl (by decide +kernel) (fun _ _ _ h => h) (Or.inl ⟨by rfl, ?_⟩) (fun _ => hS) ?_
  rotate_left
  focus (intro w _; go_simp; try with_reducible rfl)
  simp only [Act.put, List.setIfInBounds_toArray, List.set_cons_zero, List.set_cons_succ]
  refine wpAnyZ_take0 (i := 2) (oi := ⟨_, _, _, _, _, _⟩) (v := ?_) rfl (by decide +kernel) (fun _ _ _ h => h) (Or.inl ⟨by rfl, ?_⟩) (fun _ => hS) ?_
  rotate_left
  focus (intro w _; go_simp; try with_reducible rfl)
  simp only [Act.put, List.setIfInBounds_toArray, List.set_cons_zero, List.set_cons_succ]
  refine wpAnyZ_take0 (i := 3) (oi := ⟨_, _, _, _, _, _⟩) (v := ?_) rfl (by decide +kernel) (fun _ _ _ h => h) (Or.inl ⟨by rfl, ?_⟩) (fun _ => hS) ?_
  rotate_left
  focus (intro w _; go_simp; try with_reducible rfl)
  simp only [Act.put, List.setIfInBounds_toArray, List.set_cons_zero, List.set_cons_succ]
  refine wpAnyZ_take (i := 4) (oi := ⟨_, _, _, _, _, _⟩) (v := ?_) rfl (by decide +kernel) (fun _ _ _ h => h) (Or.inl ⟨by rfl, ?_⟩) hS ?_
  rotate_left
  focus (intro w hSw; (try dsimp only at hSw); obtain ⟨z0, z1, z2, z3, z4, z5, z6, zf⟩ := nav_cells hSw; clear hSw; go_simp; try with_reducible rfl)
  simp only [Act.put, List.setIfInBounds_toArray, List.set_cons_zero, List.set_cons_succ]
  refine wpAnyZ_take0 (i := 5) (oi := ⟨_, _, _, _, _, _⟩) (v := ?_) rfl (by decide +kernel) (fun _ _ _ h => h) (Or.inl ⟨by rfl, ?_⟩) (fun _ => hS) ?_
  rotate_left
  focus (intro w _; go_simp; try with_reducible rfl)
  simp only [Act.put, List.setIfInBounds_toArray, List.set_cons_zero, List.set_cons_succ]
  refine wpAnyZ_take0 (i := 6) (oi := ⟨_, _, _, _, _, _⟩) (v := ?_) rfl (by decide +kernel) (fun _ _ _ h => h) (Or.inl ⟨by rfl, ?_⟩) (fun _ => hS) ?_
  rotate_left
  focus (intro w _; go_simp; try with_reducible rfl)
  simp only [Act.put, List.setIfInBounds_toArray, List.set_cons_zero, List.set_cons_succ]
  refine wpAnyZ_take0 (i := 7) (oi := ⟨_, _, _, _, _, _⟩) (v := ?_) rfl (by decide +kernel) (fun _ _ _ h => h) (Or.inl ⟨by rfl, ?_⟩) (fun _ => hS) ?_
  rotate_left
  focus (intro w _; go_simp; try with_reducible rfl)
  simp only [Act.put, List.setIfInBounds_toArray, List.set_cons_zero, List.set_cons_succ]
  refine wpAnyZ_take (i := 8) (oi := ⟨_, _, _, _, _, _⟩) (v := ?_) rfl (by decide +kernel) (fun _ _ _ h => h) (Or.inl ⟨by rfl, ?_⟩) hS ?_
  rotate_left
  focus (intro w hSw; (try dsimp only at hSw); obtain ⟨z0, z1, z2, z3, z4, z5, z6, zf⟩ := nav_cells hSw; clear hSw; go_simp; try with_reducible rfl)
  simp only [Act.put, List.setIfInBounds_toArray, List.set_cons_zero, List.set_cons_succ]
  refine wpAnyZ_one (i := 9) rfl (by decide +kernel) (fun K hKK => ?_)
  go_simp
  clear hS
  have hS := (h.drew.alloc (.cells #[.int .i64 s.now.1, .int .i64 s.now.2] 58)).heap
  refine hKK.out _ _ (fun _ => hS) ?_
  clear hKK
  refine wpAnyZ_one (i := 10) rfl (by decide +kernel) (fun K hKK => ?_)
  refine st_appP (by rfl) (.tmp 7) (.tmp 12) (m := 1) (by rfl) (by rfl) (by rfl) (h.drew.alloc _).o1 (RdP.new _ [s.now] rfl rfl) (by omega) (Nat.zero_le _) ?_
  rintro v w1 hap
  obtain ⟨A', c', rfl, hs⟩ := Slot.ofApp1 (h.drew.alloc _).o1 hap
  have hB := (below_drew w).trans (below_alloc w.drew (.cells #[.int .i64 s.now.1, .int .i64 s.now.2] 58))
  have N1 := N0.st1 hB hs
  have hheap := Hd.mk ((N0.heap hB hs h.ne1).trans h.heap)
  clear hS
  have hS := hheap.out
  refine hKK.out _ _ (fun _ => hS) ?_
  clear hKK
  simp only [Act.put, List.setIfInBounds_toArray, List.set_cons_zero, List.set_cons_succ]
  refine wpAnyZ_take0 (i := 11) (oi := ⟨_, _, _, _, _, _⟩) (v := ?_) rfl (by decide +kernel) (fun _ _ _ h => h) (Or.inl ⟨by rfl, ?_⟩) (fun _ => hS) ?_
  rotate_left
  focus (intro w _; go_simp; try with_reducible rfl)
  simp only [Act.put, List.setIfInBounds_toArray, List.set_cons_zero, List.set_cons_succ]
  refine wpAnyZ_take0 (i := 12) (oi := ⟨_, _, _, _, _, _⟩) (v := ?_) rfl (by decide +kernel) (fun _ _ _ h => h) (Or.inl ⟨by rfl, ?_⟩) (fun _ => hS) ?_
  rotate_left
  focus (intro w _; go_simp; try with_reducible rfl)
  simp only [Act.put, List.setIfInBounds_toArray, List.set_cons_zero, List.set_cons_succ]
  refine wpAnyZ_one (i := 13) rfl (by decide +kernel) (fun K hKK => ?_)
  obtain ⟨a0, a1, a2, a3, a4, a5, a6, af⟩ := nav_cells hheap.out
  go_simp
  refine hKK.out _ _ (fun hz => absurd hz (by decide +kernel)) ?_
  clear hKK
  refine wpAnyZ_done (by decide +kernel) ?_
  clear hB hheap a0 a1 a2 a3 a4 a5 a6 af hap hs hS N0 HH
  have hn1' : s.bh.length = n1 := hln.out
  generalize w1.setCell ⟨g, 4, none⟩ (.slice A' (n1 + 1) c') = w2 at N1 ⊢
  have hle := (Own.le N1.c.o1).1
  have hpush : Hd (s.push = { s with bh := (s.bh ++ [s.now]).drop ((s.bh ++ [s.now]).length - 32) }) := ⟨rfl⟩
  obtain ⟨e0, e1, e2, e3, e4, e5, e6, ef⟩ := nav_cells N1.c.heap
  clear hn1' hl
  by_cases h32 : n1 + 1 ≤ 32
  · have hfin : Hd (s.push = { s with bh := s.bh ++ [s.now] }) := ⟨by rw [hpush.out, show (s.bh ++ [s.now]).length - 32 = 0 by (have := hln.out; simp; omega)]; rfl⟩
    have N2 := Hd.mk N1.to
    clear N1 hpush
    go_wp2
    go_end0
    rw [hfin.out]
    exact ⟨rfl, N2.out⟩
  · obtain ⟨k, rfl⟩ : ∃ k, n1 = k + 32 := ⟨n1 - 32, by omega⟩
    have hcut : Hd (RdP w2 (A'.map (·.add ((k + 1) * 2))) 32 ((s.bh ++ [s.now]).drop (k + 1))) := ⟨by
      have := RdP.cut (Own.rd N1.c.o1) (a := k + 1) (b := k + 32 + 1) (m := c') (by omega) (Nat.le_refl _) hle
      rw [if_neg (by omega), show k + 32 + 1 - (k + 1) = 32 by omega, List.take_of_length_le (by have := hln.out; simp; omega)] at this
      exact this⟩
    have hfin : Hd (s.push = { s with bh := (s.bh ++ [s.now]).drop (k + 1) }) := ⟨by rw [hpush.out]; congr 2; have := hln.out; simp; omega⟩
    have NN := Hd.mk N1
    clear N1 hpush
    go_wp2_with fail
    refine (clone99 _ 32 (c' - (k + 1)) _ w2 hcut.out (by omega) ?_).mono ?_
    · intro e; obtain ⟨ad, he, _⟩ := hcut.out.2 (by omega); rw [e] at he; cases he
    rintro e w3 ⟨B, cb, rfl, ho, hb⟩
    have N2 := NN.out.st1 (Below.refl _ _) (Slot.fresh ho hb)
    have N3 := Hd.mk N2.to
    obtain ⟨a0, a1, a2, a3, a4, a5, a6, af⟩ := nav_cells ((hb.block g (NN.out.c.lt g NN.out.c.fg)).trans NN.out.c.heap)
    clear N2 e0 e1 e2 e3 e4 e5 e6 ef NN
    go_wp2
    go_end0
    rw [hfin.out]
    exact ⟨rfl, N3.out⟩
end Go.Proofs.Ytkgdcglnkodgnaa

