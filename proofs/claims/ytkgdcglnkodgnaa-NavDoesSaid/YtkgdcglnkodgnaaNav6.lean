/-
  nav: slices.Index, slices.Contains, at, Mark walked. No condition but sizes.
-/
import Derived.Test.YtkgdcglnkodgnaaNav2
import Derived.Test.YtkgdcglnkodgnaaNav3
import Derived.Test.YtkgdcglnkodgnaaNav5
namespace Go.Proofs.Ytkgdcglnkodgnaa
open Go.RowKit
/-- Where a place is. -/
def idxN (p : Pl) : Nat → List Pl → Int
  | _, [] => -1
  | k, q :: r => if q = p then (k : Int) else idxN p (k + 1) r
theorem idxN_ge (p : Pl) (k : Nat) (l : List Pl) : (0 ≤ idxN p k l ↔ p ∈ l) ∧ -1 ≤ idxN p k l := by
  induction l generalizing k with
  | nil => simp [idxN]
  | cons q r ih =>
    have := ih (k + 1)
    unfold idxN
    split
    · rename_i h; subst h; simp
    · rename_i h
      refine ⟨?_, this.2⟩
      rw [this.1]
      simp [Ne.symm h]
theorem box_load {w : World} {g : Nat} {a b : Value} (h : w.heap[g]? = some (.cells #[a, b] 58 (0, 0))) : w.cell? ⟨g, 0, none⟩ = some a ∧ w.cell? ⟨g, 1, none⟩ = some b :=
  ⟨(cell_of_row _ _ 0 _ _ _ h).trans rfl, (cell_of_row _ _ 1 _ _ _ h).trans rfl⟩
theorem RdP.get' {w : World} {A : Option Addr} {n : Nat} {l : List Pl} (h : RdP w A n l) {k : Nat} {p : Pl} (hk : l[k]? = some p) :
    ∃ ad, A = some ad ∧ w.cell? (ad.add (k * 2)) = some (.int .i64 p.1) ∧ w.cell? ⟨(ad.add (k * 2)).block, (ad.add (k * 2)).off + 1, none⟩ = some (.int .i64 p.2) := by
  obtain ⟨ad, hA, h1, h2⟩ := RdP.get h hk
  exact ⟨ad, hA, h1, h2⟩
set_option maxRecDepth 100000 in
set_option maxHeartbeats 1000000 in
theorem index148 (B : Option Addr) (m d : Nat) (ps : List Pl) (p : Pl) (w : World) (h : RdP w B m ps) (hm : m ≤ 1000000) :
    Calls Try.prog 148 #[.slice B m d, plV p] w fun e w' => e = .returned (.int .i64 (idxN p 0 ps)) ∧ Below w.heap.size w w' := by
  obtain ⟨u, v⟩ := p
  unfold plV
  have HL := Hd.mk h.len
  have hbox := Hd.mk (heap_alloc_new w (.cells #[.int .i64 u, .int .i64 v] 58))
  go_enter Try.func148, Try.ntmps148
  go_wp2
  go_loopw [8] (fun i wr => ∃ k : Nat, i = .int .i64 (k : Int) ∧ k ≤ m ∧ Hd (idxN (u, v) 0 ps = idxN (u, v) k (ps.drop k)) ∧ Hd (Below w.heap.size w wr) ∧ Hd (wr.heap[w.heap.size]? = some (.cells #[.int .i64 u, .int .i64 v] 58 (0, 0))))
    (fun i _ => m - (intOf i).toNat)
  case atStart => exact ⟨0, rfl, by omega, ⟨rfl⟩, ⟨below_alloc _ _⟩, hbox⟩
  case round =>
    obtain ⟨k, rfl, hk, hix, hb, hbx⟩ := hrel
    by_cases hlt : k < m
    · obtain ⟨q, hq⟩ : ∃ q, ps[k]? = some q := ⟨ps[k]'(by have := HL.out; omega), List.getElem?_eq_getElem _⟩
      have hdrop : ps.drop k = q :: ps.drop (k + 1) := by
        obtain ⟨hkl, e⟩ := List.getElem?_eq_some_iff.1 hq
        rw [← e]; exact List.drop_eq_getElem_cons hkl
      obtain ⟨ad, rfl, q0, q1⟩ := RdP.get' (Rd.below h hb.out) hq
      obtain ⟨x, y⟩ := q
      simp only at q0 q1
      obtain ⟨b0, b1⟩ := box_load hbx.out
      have hki : (k : Int) < (m : Int) := by omega
      have hki0 : (0 : Int) ≤ (k : Int) := by omega
      have hmr : k + 1 ≤ m := by omega
      have hcase : (x = u ∧ y = v) ∨ ¬ u = x ∨ (u = x ∧ ¬ v = y) := by
        by_cases h1 : u = x
        · by_cases h2 : v = y
          · exact .inl ⟨h1.symm, h2.symm⟩
          · exact .inr (.inr ⟨h1, h2⟩)
        · exact .inr (.inl h1)
      rcases hcase with ⟨rfl, rfl⟩ | hne
      · have hres : Hd (idxN (x, y) 0 ps = (k : Int)) := ⟨by rw [hix.out, hdrop]; simp [idxN]⟩
        clear hdrop
        go_wp2_with fail
        go_quiet (fail)
        go_wp2
        go_ret
        rw [hres.out]
        exact ⟨rfl, below_drewN hb.out _⟩
      · have hres : Hd (idxN (u, v) 0 ps = idxN (u, v) (k + 1) (ps.drop (k + 1))) := ⟨by
          rw [hix.out, hdrop]
          show (if (x, y) = (u, v) then _ else _) = _
          rw [if_neg]
          · intro e
            injection e with e1 e2
            rcases hne with h1 | ⟨_, h2⟩
            · exact h1 e1.symm
            · exact h2 e2.symm⟩
        clear hdrop hix
        rcases hne with h1 | ⟨rfl, h2⟩
        all_goals
          go_wp2_with fail
          go_quiet (fail)
          go_wp2
          go_roundw
          case rel => exact ⟨k + 1, by go_num, hmr, hres, ⟨below_drewN hb.out _⟩, hbx⟩
          case measure => simp [intOf]; omega
    · obtain rfl : k = m := by omega
      have hki : ¬ ((k : Int) < (k : Int)) := by omega
      have hres : Hd (idxN (u, v) 0 ps = -1) := ⟨by rw [hix.out, List.drop_of_length_le (by have := HL.out; omega)]; rfl⟩
      go_wp2
      go_ret
      rw [hres.out]
      exact ⟨rfl, hb.out⟩
set_option maxRecDepth 100000 in
set_option maxHeartbeats 1000000 in
theorem contains107 (B : Option Addr) (m d : Nat) (ps : List Pl) (p : Pl) (w : World) (h : RdP w B m ps) (hm : m ≤ 1000000) :
    Calls Try.prog 107 #[.slice B m d, plV p] w fun e w' => e = .returned (.bool (decide (p ∈ ps))) ∧ Below w.heap.size w w' := by
  have hi := idxN_ge p 0 ps
  obtain ⟨i, hid⟩ : ∃ i, Hd (idxN p 0 ps = i) := ⟨_, ⟨rfl⟩⟩
  rw [hid.out] at hi
  have hlen := h.len
  have HC := Hd.mk (index148 B m d ps p (w.alloc (.cells #[.int .i64 p.1, .int .i64 p.2] 58)) (Rd.below h (below_alloc _ _)) hm)
  have hd : decide (p ∈ ps) = decide (0 ≤ i) := by rw [decide_eq_decide]; exact hi.1.symm
  rw [hd]
  obtain ⟨u, v⟩ := p
  unfold plV at *
  clear hd hi hlen
  go_enter Try.func107, Try.ntmps107
  go_wp2_with fail
  refine HC.out.mono ?_
  rw [hid.out]
  rintro e w1 ⟨rfl, hb1⟩
  go_wp2
  go_ret
  exact ⟨rfl, (below_alloc _ _).trans (hb1.mono (by simp))⟩
set_option maxRecDepth 100000 in
set_option maxHeartbeats 400000 in
theorem at108 (g : Nat) (F : Nat → Prop) (s : NS) (i : Int) (w : World) (h : NavAt w g F s) :
    Calls Try.prog 108 #[.pointer (some ⟨g, 0, none⟩), .int .i64 i] w fun e w' => e = .returned (.int .i64 (if s.ix i then 0 else 1)) ∧ w = w' := by
  obtain ⟨A1, n1, c1, A2, n2, c2, A3, n3, c3, h⟩ := h
  obtain ⟨a0, a1, a2, a3, a4, a5, a6, af⟩ := nav_cells h.heap
  have hln := h.o3.len
  by_cases h0 : i < 0
  · have hx : Hd (s.ix i = false) := ⟨by simp [NS.ix]; omega⟩
    rw [hx.out]
    clear hln
    go_enter Try.func108, Try.ntmps108
    go_wp2_with (go_at_call 96; refine (is96 g _ h.made).mono ?_; rintro e w' ⟨rfl, rfl⟩)
    go_ret
    exact ⟨rfl, rfl⟩
  · by_cases h1 : i < (n3 : Int)
    · have hx : Hd (s.ix i = true) := ⟨by simp [NS.ix]; omega⟩
      rw [hx.out]
      clear hln
      go_enter Try.func108, Try.ntmps108
      go_wp2_with (go_at_call 96; refine (is96 g _ h.made).mono ?_; rintro e w' ⟨rfl, rfl⟩)
      go_ret
      exact ⟨rfl, rfl⟩
    · have hx : Hd (s.ix i = false) := ⟨by simp [NS.ix]; omega⟩
      rw [hx.out]
      clear hln
      go_enter Try.func108, Try.ntmps108
      go_wp2_with (go_at_call 96; refine (is96 g _ h.made).mono ?_; rintro e w' ⟨rfl, rfl⟩)
      go_ret
      exact ⟨rfl, rfl⟩
set_option maxRecDepth 100000 in
set_option maxHeartbeats 1000000 in
theorem mark56 (g : Nat) (F : Nat → Prop) (s : NS) (w : World) (h : NavAt w g F s) (hl : s.mks.length ≤ 100) :
    Calls Try.prog 56 #[.pointer (some ⟨g, 0, none⟩)] w fun e w' => e = .returned (.tuple #[.int .i64 s.mark.1, .int .i64 (s.mark.2.1 : Int)]) ∧ NavTo w w' g F s.mark.2.2 := by
  obtain ⟨A1, n1, c1, A2, n2, c2, A3, n3, c3, h⟩ := h
  obtain ⟨a0, a1, a2, a3, a4, a5, a6, af⟩ := nav_cells h.heap
  have hln := h.o3.len
  have hn3 : n3 ≤ 100 := by omega
  have hmix := try_mixed
  have hh0 := h.heap
  have N0 := NavT.refl h
  cases hh : s.has
  · have ht : Hd (s.mark = (0, 3, s)) := ⟨by simp [NS.mark, hh]⟩
    rw [ht.out]
    rw [hh] at a1
    simp only [Bool.false_eq_true, if_false] at a1
    clear hh hln hh0
    go_enter Try.func56, Try.ntmps56
    go_wp2_with (go_at_call 96; refine (is96 g _ h.made).mono ?_; rintro e w' ⟨rfl, rfl⟩)
    go_ret2
    exact ⟨rfl, N0.to⟩
  · rw [hh] at a1 hh0
    simp only [if_true] at a1 hh0
    by_cases hm : s.now ∈ s.mks
    · have ht : Hd (s.mark = (0, 261, s)) := ⟨by simp [NS.mark, hh, hm]⟩
      rw [ht.out]
      have hd : decide (s.now ∈ s.mks) = true := decide_eq_true hm
      have HD := Hd.mk hd
      clear hh hln hm hd ht
      go_enter Try.func56, Try.ntmps56
      go_wp2_with (go_at_call 96; refine (is96 g _ h.made).mono ?_; rintro e w' ⟨rfl, rfl⟩)
      refine region_zone 10 [false, false, false, false, false, false, false, false, false, false] (by kernel_rfl) (by kernel_rfl) hmix (fun w' => w'.heap[g]? = some (.cells #[.int .i64 1, .int .i64 1, .int .i64 s.now.1, .int .i64 s.now.2, .slice A1 n1 c1, .slice A2 n2 c2, .slice A3 n3 c3] 78 (0, 0))) [] ?_ (fun hS => ?_)
      · exact hh0
      refine wpAnyZ_take0 (i := 0) (oi := ⟨_, _, _, _, _, _⟩) (v := ?_) rfl (by decide +kernel) (fun _ _ _ h => h) (Or.inl ⟨by rfl, ?_⟩) (fun _ => hS) ?_
      rotate_left
      focus (intro w _; go_simp; (try with_reducible rfl); done)
      simp only [Act.put, List.setIfInBounds_toArray, List.set_cons_zero, List.set_cons_succ]
      refine wpAnyZ_take0 (i := 1) (oi := ⟨_, _, _, _, _, _⟩) (v := ?_) rfl (by decide +kernel) (fun _ _ _ h => h) (Or.inl ⟨by rfl, ?_⟩) (fun _ => hS) ?_
      rotate_left
      focus (intro w _; go_simp; (try with_reducible rfl); done)
      simp only [Act.put, List.setIfInBounds_toArray, List.set_cons_zero, List.set_cons_succ]
      refine wpAnyZ_take0 (i := 2) (oi := ⟨_, _, _, _, _, _⟩) (v := ?_) rfl (by decide +kernel) (fun _ _ _ h => h) (Or.inl ⟨by rfl, ?_⟩) (fun _ => hS) ?_
      rotate_left
      focus (intro w _; go_simp; (try with_reducible rfl); done)
      simp only [Act.put, List.setIfInBounds_toArray, List.set_cons_zero, List.set_cons_succ]
      refine wpAnyZ_take (i := 3) (oi := ⟨_, _, _, _, _, _⟩) (v := ?_) rfl (by decide +kernel) (fun _ _ _ h => h) (Or.inl ⟨by rfl, ?_⟩) hS ?_
      rotate_left
      focus (intro w hSw; (try dsimp only at hSw); obtain ⟨z0, z1, z2, z3, z4, z5, z6, zf⟩ := nav_cells hSw; clear hSw; go_simp; (try with_reducible rfl); done)
      simp only [Act.put, List.setIfInBounds_toArray, List.set_cons_zero, List.set_cons_succ]
      refine wpAnyZ_take0 (i := 4) (oi := ⟨_, _, _, _, _, _⟩) (v := ?_) rfl (by decide +kernel) (fun _ _ _ h => h) (Or.inl ⟨by rfl, ?_⟩) (fun _ => hS) ?_
      rotate_left
      focus (intro w _; go_simp; (try with_reducible rfl); done)
      simp only [Act.put, List.setIfInBounds_toArray, List.set_cons_zero, List.set_cons_succ]
      refine wpAnyZ_take0 (i := 5) (oi := ⟨_, _, _, _, _, _⟩) (v := ?_) rfl (by decide +kernel) (fun _ _ _ h => h) (Or.inl ⟨by rfl, ?_⟩) (fun _ => hS) ?_
      rotate_left
      focus (intro w _; go_simp; (try with_reducible rfl); done)
      simp only [Act.put, List.setIfInBounds_toArray, List.set_cons_zero, List.set_cons_succ]
      refine wpAnyZ_take0 (i := 6) (oi := ⟨_, _, _, _, _, _⟩) (v := ?_) rfl (by decide +kernel) (fun _ _ _ h => h) (Or.inl ⟨by rfl, ?_⟩) (fun _ => hS) ?_
      rotate_left
      focus (intro w _; go_simp; (try with_reducible rfl); done)
      simp only [Act.put, List.setIfInBounds_toArray, List.set_cons_zero, List.set_cons_succ]
      refine wpAnyZ_take (i := 7) (oi := ⟨_, _, _, _, _, _⟩) (v := ?_) rfl (by decide +kernel) (fun _ _ _ h => h) (Or.inl ⟨by rfl, ?_⟩) hS ?_
      rotate_left
      focus (intro w hSw; (try dsimp only at hSw); obtain ⟨z0, z1, z2, z3, z4, z5, z6, zf⟩ := nav_cells hSw; clear hSw; go_simp; (try with_reducible rfl); done)
      simp only [Act.put, List.setIfInBounds_toArray, List.set_cons_zero, List.set_cons_succ]
      refine wpAnyZ_one (i := 8) rfl (by decide +kernel) (fun K hKK => ?_)
      go_simp
      refine (contains107 A3 n3 c3 s.mks s.now _ (Own.rd h.drew.o3) (by omega)).mono ?_
      rw [HD.out]
      rintro e w1 ⟨rfl, hb1⟩
      have N1 := N0.below ((below_drew w).trans hb1)
      clear hS
      have hS := (hb1.block g h.glt).trans hh0
      refine hKK.out _ _ (fun _ => hS) ?_
      clear hKK
      refine wpAnyZ_take0 (i := 9) (oi := ⟨_, _, _, _, _, _⟩) (v := ?_) rfl (by decide +kernel) (fun _ _ _ h => h) (Or.inl ⟨by rfl, ?_⟩) (fun _ => hS) ?_
      rotate_left
      focus (intro w _; go_simp; (try with_reducible rfl); done)
      simp only [Act.put, List.setIfInBounds_toArray, List.set_cons_zero, List.set_cons_succ]
      refine wpAnyZ_done (by decide +kernel) ?_
      clear hS
      go_wp2
      go_ret2
      exact ⟨rfl, N1.to⟩
    · have hd : decide (s.now ∈ s.mks) = false := decide_eq_false hm
      have HD := Hd.mk hd
      by_cases hl16 : 16 ≤ n3
      · have ht : Hd (s.mark = (0, 260, s)) := ⟨by simp [NS.mark, hh, hm, show 16 ≤ s.mks.length by omega]⟩
        rw [ht.out]
        clear hh hln hm hd ht
        go_enter Try.func56, Try.ntmps56
        go_wp2_with (go_at_call 96; refine (is96 g _ h.made).mono ?_; rintro e w' ⟨rfl, rfl⟩)
        refine region_zone 10 [false, false, false, false, false, false, false, false, false, false] (by kernel_rfl) (by kernel_rfl) hmix (fun w' => w'.heap[g]? = some (.cells #[.int .i64 1, .int .i64 1, .int .i64 s.now.1, .int .i64 s.now.2, .slice A1 n1 c1, .slice A2 n2 c2, .slice A3 n3 c3] 78 (0, 0))) [] ?_ (fun hS => ?_)
        · exact hh0
        refine wpAnyZ_take0 (i := 0) (oi := ⟨_, _, _, _, _, _⟩) (v := ?_) rfl (by decide +kernel) (fun _ _ _ h => h) (Or.inl ⟨by rfl, ?_⟩) (fun _ => hS) ?_
        rotate_left
        focus (intro w _; go_simp; (try with_reducible rfl); done)
        simp only [Act.put, List.setIfInBounds_toArray, List.set_cons_zero, List.set_cons_succ]
        refine wpAnyZ_take0 (i := 1) (oi := ⟨_, _, _, _, _, _⟩) (v := ?_) rfl (by decide +kernel) (fun _ _ _ h => h) (Or.inl ⟨by rfl, ?_⟩) (fun _ => hS) ?_
        rotate_left
        focus (intro w _; go_simp; (try with_reducible rfl); done)
        simp only [Act.put, List.setIfInBounds_toArray, List.set_cons_zero, List.set_cons_succ]
        refine wpAnyZ_take0 (i := 2) (oi := ⟨_, _, _, _, _, _⟩) (v := ?_) rfl (by decide +kernel) (fun _ _ _ h => h) (Or.inl ⟨by rfl, ?_⟩) (fun _ => hS) ?_
        rotate_left
        focus (intro w _; go_simp; (try with_reducible rfl); done)
        simp only [Act.put, List.setIfInBounds_toArray, List.set_cons_zero, List.set_cons_succ]
        refine wpAnyZ_take (i := 3) (oi := ⟨_, _, _, _, _, _⟩) (v := ?_) rfl (by decide +kernel) (fun _ _ _ h => h) (Or.inl ⟨by rfl, ?_⟩) hS ?_
        rotate_left
        focus (intro w hSw; (try dsimp only at hSw); obtain ⟨z0, z1, z2, z3, z4, z5, z6, zf⟩ := nav_cells hSw; clear hSw; go_simp; (try with_reducible rfl); done)
        simp only [Act.put, List.setIfInBounds_toArray, List.set_cons_zero, List.set_cons_succ]
        refine wpAnyZ_take0 (i := 4) (oi := ⟨_, _, _, _, _, _⟩) (v := ?_) rfl (by decide +kernel) (fun _ _ _ h => h) (Or.inl ⟨by rfl, ?_⟩) (fun _ => hS) ?_
        rotate_left
        focus (intro w _; go_simp; (try with_reducible rfl); done)
        simp only [Act.put, List.setIfInBounds_toArray, List.set_cons_zero, List.set_cons_succ]
        refine wpAnyZ_take0 (i := 5) (oi := ⟨_, _, _, _, _, _⟩) (v := ?_) rfl (by decide +kernel) (fun _ _ _ h => h) (Or.inl ⟨by rfl, ?_⟩) (fun _ => hS) ?_
        rotate_left
        focus (intro w _; go_simp; (try with_reducible rfl); done)
        simp only [Act.put, List.setIfInBounds_toArray, List.set_cons_zero, List.set_cons_succ]
        refine wpAnyZ_take0 (i := 6) (oi := ⟨_, _, _, _, _, _⟩) (v := ?_) rfl (by decide +kernel) (fun _ _ _ h => h) (Or.inl ⟨by rfl, ?_⟩) (fun _ => hS) ?_
        rotate_left
        focus (intro w _; go_simp; (try with_reducible rfl); done)
        simp only [Act.put, List.setIfInBounds_toArray, List.set_cons_zero, List.set_cons_succ]
        refine wpAnyZ_take (i := 7) (oi := ⟨_, _, _, _, _, _⟩) (v := ?_) rfl (by decide +kernel) (fun _ _ _ h => h) (Or.inl ⟨by rfl, ?_⟩) hS ?_
        rotate_left
        focus (intro w hSw; (try dsimp only at hSw); obtain ⟨z0, z1, z2, z3, z4, z5, z6, zf⟩ := nav_cells hSw; clear hSw; go_simp; (try with_reducible rfl); done)
        simp only [Act.put, List.setIfInBounds_toArray, List.set_cons_zero, List.set_cons_succ]
        refine wpAnyZ_one (i := 8) rfl (by decide +kernel) (fun K hKK => ?_)
        go_simp
        refine (contains107 A3 n3 c3 s.mks s.now _ (Own.rd h.drew.o3) (by omega)).mono ?_
        rw [HD.out]
        rintro e w1 ⟨rfl, hb1⟩
        have N1 := N0.below ((below_drew w).trans hb1)
        have hq := (hb1.block g h.glt).trans hh0
        clear hS
        have hS := hq
        refine hKK.out _ _ (fun _ => hS) ?_
        clear hKK
        refine wpAnyZ_take0 (i := 9) (oi := ⟨_, _, _, _, _, _⟩) (v := ?_) rfl (by decide +kernel) (fun _ _ _ h => h) (Or.inl ⟨by rfl, ?_⟩) (fun _ => hS) ?_
        rotate_left
        focus (intro w _; go_simp; (try with_reducible rfl); done)
        simp only [Act.put, List.setIfInBounds_toArray, List.set_cons_zero, List.set_cons_succ]
        refine wpAnyZ_done (by decide +kernel) ?_
        clear hS
        obtain ⟨b0, b1, b2, b3, b4, b5, b6, bf⟩ := nav_cells hq
        clear hq
        go_wp2
        go_ret2
        exact ⟨rfl, N1.to⟩
      · have ht : Hd (s.mark = ((s.mks.length : Int), 0, { s with mks := s.mks ++ [s.now] })) := ⟨by simp [NS.mark, hh, hm, show ¬ 16 ≤ s.mks.length by omega]⟩
        rw [ht.out, hln]
        clear hh hln hm hd ht
        go_enter Try.func56, Try.ntmps56
        go_wp2_with (go_at_call 96; refine (is96 g _ h.made).mono ?_; rintro e w' ⟨rfl, rfl⟩)
        refine region_zone 10 [false, false, false, false, false, false, false, false, false, false] (by kernel_rfl) (by kernel_rfl) hmix (fun w' => w'.heap[g]? = some (.cells #[.int .i64 1, .int .i64 1, .int .i64 s.now.1, .int .i64 s.now.2, .slice A1 n1 c1, .slice A2 n2 c2, .slice A3 n3 c3] 78 (0, 0))) [] ?_ (fun hS => ?_)
        · exact hh0
        refine wpAnyZ_take0 (i := 0) (oi := ⟨_, _, _, _, _, _⟩) (v := ?_) rfl (by decide +kernel) (fun _ _ _ h => h) (Or.inl ⟨by rfl, ?_⟩) (fun _ => hS) ?_
        rotate_left
        focus (intro w _; go_simp; (try with_reducible rfl); done)
        simp only [Act.put, List.setIfInBounds_toArray, List.set_cons_zero, List.set_cons_succ]
        refine wpAnyZ_take0 (i := 1) (oi := ⟨_, _, _, _, _, _⟩) (v := ?_) rfl (by decide +kernel) (fun _ _ _ h => h) (Or.inl ⟨by rfl, ?_⟩) (fun _ => hS) ?_
        rotate_left
        focus (intro w _; go_simp; (try with_reducible rfl); done)
        simp only [Act.put, List.setIfInBounds_toArray, List.set_cons_zero, List.set_cons_succ]
        refine wpAnyZ_take0 (i := 2) (oi := ⟨_, _, _, _, _, _⟩) (v := ?_) rfl (by decide +kernel) (fun _ _ _ h => h) (Or.inl ⟨by rfl, ?_⟩) (fun _ => hS) ?_
        rotate_left
        focus (intro w _; go_simp; (try with_reducible rfl); done)
        simp only [Act.put, List.setIfInBounds_toArray, List.set_cons_zero, List.set_cons_succ]
        refine wpAnyZ_take (i := 3) (oi := ⟨_, _, _, _, _, _⟩) (v := ?_) rfl (by decide +kernel) (fun _ _ _ h => h) (Or.inl ⟨by rfl, ?_⟩) hS ?_
        rotate_left
        focus (intro w hSw; (try dsimp only at hSw); obtain ⟨z0, z1, z2, z3, z4, z5, z6, zf⟩ := nav_cells hSw; clear hSw; go_simp; (try with_reducible rfl); done)
        simp only [Act.put, List.setIfInBounds_toArray, List.set_cons_zero, List.set_cons_succ]
        refine wpAnyZ_take0 (i := 4) (oi := ⟨_, _, _, _, _, _⟩) (v := ?_) rfl (by decide +kernel) (fun _ _ _ h => h) (Or.inl ⟨by rfl, ?_⟩) (fun _ => hS) ?_
        rotate_left
        focus (intro w _; go_simp; (try with_reducible rfl); done)
        simp only [Act.put, List.setIfInBounds_toArray, List.set_cons_zero, List.set_cons_succ]
        refine wpAnyZ_take0 (i := 5) (oi := ⟨_, _, _, _, _, _⟩) (v := ?_) rfl (by decide +kernel) (fun _ _ _ h => h) (Or.inl ⟨by rfl, ?_⟩) (fun _ => hS) ?_
        rotate_left
        focus (intro w _; go_simp; (try with_reducible rfl); done)
        simp only [Act.put, List.setIfInBounds_toArray, List.set_cons_zero, List.set_cons_succ]
        refine wpAnyZ_take0 (i := 6) (oi := ⟨_, _, _, _, _, _⟩) (v := ?_) rfl (by decide +kernel) (fun _ _ _ h => h) (Or.inl ⟨by rfl, ?_⟩) (fun _ => hS) ?_
        rotate_left
        focus (intro w _; go_simp; (try with_reducible rfl); done)
        simp only [Act.put, List.setIfInBounds_toArray, List.set_cons_zero, List.set_cons_succ]
        refine wpAnyZ_take (i := 7) (oi := ⟨_, _, _, _, _, _⟩) (v := ?_) rfl (by decide +kernel) (fun _ _ _ h => h) (Or.inl ⟨by rfl, ?_⟩) hS ?_
        rotate_left
        focus (intro w hSw; (try dsimp only at hSw); obtain ⟨z0, z1, z2, z3, z4, z5, z6, zf⟩ := nav_cells hSw; clear hSw; go_simp; (try with_reducible rfl); done)
        simp only [Act.put, List.setIfInBounds_toArray, List.set_cons_zero, List.set_cons_succ]
        refine wpAnyZ_one (i := 8) rfl (by decide +kernel) (fun K hKK => ?_)
        go_simp
        refine (contains107 A3 n3 c3 s.mks s.now _ (Own.rd h.drew.o3) (by omega)).mono ?_
        rw [HD.out]
        rintro e w1 ⟨rfl, hb1⟩
        have hbb := Hd.mk ((below_drew w).trans hb1)
        have C1 := h.below hbb.out
        have hq := (hb1.block g h.glt).trans hh0
        clear hS
        have hS := hq
        refine hKK.out _ _ (fun _ => hS) ?_
        clear hKK
        refine wpAnyZ_take0 (i := 9) (oi := ⟨_, _, _, _, _, _⟩) (v := ?_) rfl (by decide +kernel) (fun _ _ _ h => h) (Or.inl ⟨by rfl, ?_⟩) (fun _ => hS) ?_
        rotate_left
        focus (intro w _; go_simp; (try with_reducible rfl); done)
        simp only [Act.put, List.setIfInBounds_toArray, List.set_cons_zero, List.set_cons_succ]
        refine wpAnyZ_done (by decide +kernel) ?_
        clear hS
        obtain ⟨b0, b1, b2, b3, b4, b5, b6, bf⟩ := nav_cells hq
        go_wp2_with fail
        refine region_zone 14 [false, false, false, false, false, false, false, false, false, false, false, false, false, false] (by kernel_rfl) (by kernel_rfl) hmix (fun w' => w'.heap[g]? = some (.cells #[.int .i64 1, .int .i64 1, .int .i64 s.now.1, .int .i64 s.now.2, .slice A1 n1 c1, .slice A2 n2 c2, .slice A3 n3 c3] 78 (0, 0))) [13] ?_ (fun hS => ?_)
        · exact hq
        refine wpAnyZ_take0 (i := 0) (oi := ⟨_, _, _, _, _, _⟩) (v := ?_) rfl (by decide +kernel) (fun _ _ _ h => h) (Or.inl ⟨by rfl, ?_⟩) (fun _ => hS) ?_
        rotate_left
        focus (intro w _; go_simp; (try with_reducible rfl); done)
        simp only [Act.put, List.setIfInBounds_toArray, List.set_cons_zero, List.set_cons_succ]
        refine wpAnyZ_take0 (i := 1) (oi := ⟨_, _, _, _, _, _⟩) (v := ?_) rfl (by decide +kernel) (fun _ _ _ h => h) (Or.inl ⟨by rfl, ?_⟩) (fun _ => hS) ?_
        rotate_left
        focus (intro w _; go_simp; (try with_reducible rfl); done)
        simp only [Act.put, List.setIfInBounds_toArray, List.set_cons_zero, List.set_cons_succ]
        refine wpAnyZ_take0 (i := 2) (oi := ⟨_, _, _, _, _, _⟩) (v := ?_) rfl (by decide +kernel) (fun _ _ _ h => h) (Or.inl ⟨by rfl, ?_⟩) (fun _ => hS) ?_
        rotate_left
        focus (intro w _; go_simp; (try with_reducible rfl); done)
        simp only [Act.put, List.setIfInBounds_toArray, List.set_cons_zero, List.set_cons_succ]
        refine wpAnyZ_take0 (i := 3) (oi := ⟨_, _, _, _, _, _⟩) (v := ?_) rfl (by decide +kernel) (fun _ _ _ h => h) (Or.inl ⟨by rfl, ?_⟩) (fun _ => hS) ?_
        rotate_left
        focus (intro w _; go_simp; (try with_reducible rfl); done)
        simp only [Act.put, List.setIfInBounds_toArray, List.set_cons_zero, List.set_cons_succ]
        refine wpAnyZ_take (i := 4) (oi := ⟨_, _, _, _, _, _⟩) (v := ?_) rfl (by decide +kernel) (fun _ _ _ h => h) (Or.inl ⟨by rfl, ?_⟩) hS ?_
        rotate_left
        focus (intro w hSw; (try dsimp only at hSw); obtain ⟨z0, z1, z2, z3, z4, z5, z6, zf⟩ := nav_cells hSw; clear hSw; go_simp; (try with_reducible rfl); done)
        simp only [Act.put, List.setIfInBounds_toArray, List.set_cons_zero, List.set_cons_succ]
        refine wpAnyZ_take0 (i := 5) (oi := ⟨_, _, _, _, _, _⟩) (v := ?_) rfl (by decide +kernel) (fun _ _ _ h => h) (Or.inl ⟨by rfl, ?_⟩) (fun _ => hS) ?_
        rotate_left
        focus (intro w _; go_simp; (try with_reducible rfl); done)
        simp only [Act.put, List.setIfInBounds_toArray, List.set_cons_zero, List.set_cons_succ]
        refine wpAnyZ_take0 (i := 6) (oi := ⟨_, _, _, _, _, _⟩) (v := ?_) rfl (by decide +kernel) (fun _ _ _ h => h) (Or.inl ⟨by rfl, ?_⟩) (fun _ => hS) ?_
        rotate_left
        focus (intro w _; go_simp; (try with_reducible rfl); done)
        simp only [Act.put, List.setIfInBounds_toArray, List.set_cons_zero, List.set_cons_succ]
        refine wpAnyZ_take0 (i := 7) (oi := ⟨_, _, _, _, _, _⟩) (v := ?_) rfl (by decide +kernel) (fun _ _ _ h => h) (Or.inl ⟨by rfl, ?_⟩) (fun _ => hS) ?_
        rotate_left
        focus (intro w _; go_simp; (try with_reducible rfl); done)
        simp only [Act.put, List.setIfInBounds_toArray, List.set_cons_zero, List.set_cons_succ]
        refine wpAnyZ_take (i := 8) (oi := ⟨_, _, _, _, _, _⟩) (v := ?_) rfl (by decide +kernel) (fun _ _ _ h => h) (Or.inl ⟨by rfl, ?_⟩) hS ?_
        rotate_left
        focus (intro w hSw; (try dsimp only at hSw); obtain ⟨z0, z1, z2, z3, z4, z5, z6, zf⟩ := nav_cells hSw; clear hSw; go_simp; (try with_reducible rfl); done)
        simp only [Act.put, List.setIfInBounds_toArray, List.set_cons_zero, List.set_cons_succ]
        refine wpAnyZ_one (i := 9) rfl (by decide +kernel) (fun K hKK => ?_)
        go_simp
        clear hS
        have hS := (((below_drew w1).trans (below_alloc w1.drew (.cells #[.int .i64 s.now.1, .int .i64 s.now.2] 58))).block g C1.glt).trans hq
        refine hKK.out _ _ (fun _ => hS) ?_
        clear hKK
        refine wpAnyZ_one (i := 10) rfl (by decide +kernel) (fun K hKK => ?_)
        refine st_appP (by rfl) (.tmp 35) (.tmp 40) (m := 1) (by rfl) (by rfl) (by rfl) (C1.drew.alloc _).o3 (RdP.new _ [s.now] rfl rfl) (by omega) (Nat.zero_le _) ?_
        rintro v w2 hap
        obtain ⟨A', c', rfl, hs⟩ := Slot.ofApp1 (C1.drew.alloc _).o3 hap
        have hB := (below_drew w1).trans (below_alloc w1.drew (.cells #[.int .i64 s.now.1, .int .i64 s.now.2] 58))
        have N1 := (NavT.refl C1).st3 hB hs
        have hheap := Hd.mk (((NavT.refl C1).heap hB hs C1.ne3).trans hq)
        clear hS
        have hS := hheap.out
        refine hKK.out _ _ (fun _ => hS) ?_
        clear hKK
        simp only [Act.put, List.setIfInBounds_toArray, List.set_cons_zero, List.set_cons_succ]
        refine wpAnyZ_take0 (i := 11) (oi := ⟨_, _, _, _, _, _⟩) (v := ?_) rfl (by decide +kernel) (fun _ _ _ h => h) (Or.inl ⟨by rfl, ?_⟩) (fun _ => hS) ?_
        rotate_left
        focus (intro w _; go_simp; (try with_reducible rfl); done)
        simp only [Act.put, List.setIfInBounds_toArray, List.set_cons_zero, List.set_cons_succ]
        refine wpAnyZ_take0 (i := 12) (oi := ⟨_, _, _, _, _, _⟩) (v := ?_) rfl (by decide +kernel) (fun _ _ _ h => h) (Or.inl ⟨by rfl, ?_⟩) (fun _ => hS) ?_
        rotate_left
        focus (intro w _; go_simp; (try with_reducible rfl); done)
        simp only [Act.put, List.setIfInBounds_toArray, List.set_cons_zero, List.set_cons_succ]
        refine wpAnyZ_one (i := 13) rfl (by decide +kernel) (fun K hKK => ?_)
        clear b0 b1 b2 b3 b4 b5 b6 bf hq
        obtain ⟨b0, b1, b2, b3, b4, b5, b6, bf⟩ := nav_cells hheap.out
        go_simp
        refine hKK.out _ _ (fun hz => absurd hz (by decide +kernel)) ?_
        clear hKK
        refine wpAnyZ_done (by decide +kernel) ?_
        clear b0 b1 b2 b3 b4 b5 b6 bf hheap hap hs hS hB
        generalize w2.setCell ⟨g, 6, none⟩ (.slice A' (n3 + 1) c') = w3 at N1 ⊢
        obtain ⟨b0, b1, b2, b3, b4, b5, b6, bf⟩ := nav_cells N1.c.heap
        have N2 := Hd.mk (NavTo.pre hbb.out N1.to)
        clear N1
        go_wp2
        go_ret2
        exact ⟨by congr 4, N2.out⟩
end Go.Proofs.Ytkgdcglnkodgnaa

