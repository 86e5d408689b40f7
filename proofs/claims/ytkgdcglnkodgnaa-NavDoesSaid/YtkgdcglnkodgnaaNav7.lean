/-
  nav: Unmark walked. No condition but sizes.
-/
import Derived.Test.YtkgdcglnkodgnaaNav6
namespace Go.Proofs.Ytkgdcglnkodgnaa
open Go.RowKit
/-- make([]api.Place, n). -/
theorem wl_makeP {w : World} {ops : Array Oper} {rest : List Oper} {o : Oper} {a : Act} {Q : Exit → Act → World → Prop} (hgd : o.guard = none) (x y : Operand) (ho : o.op = .makeSlice 67 x y) {li ci : Int} {n : Nat} (hl : a.eval x = .int .i64 li) (hc : a.eval y = .int .i64 ci)
    (hli : li = n) (hci : ci = n) (hb : n ≤ 1000000)
    (h : ∀ w' xs, Own w' w.heap.size 58 2 (some ⟨w.heap.size, 0, none⟩) n n xs → Below w.heap.size w w' → wpList Try.prog ops Q rest (a.put o.dst (.slice (some ⟨w.heap.size, 0, none⟩) n n)) w') : wpList Try.prog ops Q (o :: rest) a w := by
  obtain ⟨i0, hi, hz0, hz1, hz2⟩ := info_parts info58
  have hr := run_make (P := Try.prog) w 67 58 i0 _ Try.underlying67 hi hz0 .i64 .i64 li ci (by omega) (by omega) (by rw [hz2]; omega) (by omega)
  subst hli; subst hci
  have hm := Own.made (base := w.heap.size) (e := 58) (size := 2) w (madeCells (Value.agg #[.int .i64 0, .int .i64 0]).cells (n * 2)) n n (Nat.le_refl _) (Nat.le_refl _) (by unfold maxLen; omega) (by rw [size_madeCells])
  refine wpList_plain hgd fun K hK => ?_
  unfold Oper.wp execOp
  simp only [ho, Sem.run_bind, Sem.run_pure, Result.andThen_ok, hl, hc, hr, hz1, Int.toNat_natCast]
  exact hK _ _ (h _ _ hm (below_alloc _ _))
theorem mid_list (a b : List Pl) (xs : List Value) {k m : Nat} (ha : a.length = k) (hb : b.length = m - k) (hx : xs.length = m * 2) (hk : k ≤ m) :
    (pc a ++ xs.drop (k * 2)).take (k * 2) ++ (pc b).take (min (m - k) (m - k) * 2) ++ (pc a ++ xs.drop (k * 2)).drop ((k + min (m - k) (m - k)) * 2) = pc (a ++ b) := by
  have h1 : (pc a ++ xs.drop (k * 2)).take (k * 2) = pc a := by
    rw [List.take_append_of_le_length (by rw [pc_length]; omega), List.take_of_length_le (by rw [pc_length]; omega)]
  have h2 : (pc b).take (min (m - k) (m - k) * 2) = pc b := List.take_of_length_le (by rw [pc_length, Nat.min_self]; omega)
  have h3 : (pc a ++ xs.drop (k * 2)).drop ((k + min (m - k) (m - k)) * 2) = [] := List.drop_of_length_le (by rw [List.length_append, List.length_drop, pc_length, Nat.min_self]; omega)
  rw [h1, h2, h3, List.append_nil, ← pc_append]
theorem st_copyV {w : World} {ops : Array Oper} {o : Oper} {a : Act} {Q : Exit → Act → World → Prop} {K : Act → World → Prop} {E : Prop} (hgd : o.guard = none) (s x : Operand) (ho : o.op = .call { callee := .builtin .copy, args := #[s, x], argTypes := #[67, 67] })
    {base : Nat} {A S : Option Addr} {n c m cs : Nat} {xs news : List Value} (hs : a.eval s = .slice A n c) (hx : a.eval x = .slice S m cs) (hown : Own w base 58 2 A n c xs) (hr : Rd w 2 S m news) (h1 : ∀ u ∈ news, u.oneCell' = true)
    (h : ∀ w', Own w' base 58 2 A n c (news.take (min m n * 2) ++ xs.drop (min m n * 2)) → w.grownBy w' (ownBlk A c) → K (a.put o.dst (.int .i64 (min m n : Nat))) w') : if Region.wanted o (yielded ops a.tmps) = true then Oper.wp Try.prog o a w K Q else E :=
  step_copy w hgd s x 67 67 ho _ _ hs hx (run_copyV o.type hown hr h1) (fun _ w' hv => by rw [hv.1]; exact h w' hv.2.1 hv.2.2)
set_option maxRecDepth 100000 in
set_option maxHeartbeats 1000000 in
theorem unmark59 (g : Nat) (F : Nat → Prop) (s : NS) (i : Int) (w : World) (h : NavAt w g F s) (hl : s.mks.length ≤ 100) :
    Calls Try.prog 59 #[.pointer (some ⟨g, 0, none⟩), .int .i64 i] w fun e w' => e = .returned (.int .i64 ((s.unmark i).1 : Int)) ∧ NavTo w w' g F (s.unmark i).2 := by
  have HAT := Hd.mk (at108 g F s i w h)
  obtain ⟨A1, n1, c1, A2, n2, c2, A3, n3, c3, h⟩ := h
  obtain ⟨a0, a1, a2, a3, a4, a5, a6, af⟩ := nav_cells h.heap
  have hln := h.o3.len
  have hn3 : n3 ≤ 100 := by omega
  have hmix := try_mixed
  have hh0 := h.heap
  have N0 := NavT.refl h
  by_cases hix : s.ix i = true
  · obtain ⟨hi0, hi1⟩ : 0 ≤ i ∧ i < s.mks.length := by simpa [NS.ix] using hix
    obtain ⟨k, rfl⟩ : ∃ k : Nat, i = (k : Int) := ⟨i.toNat, by omega⟩
    obtain ⟨m, rfl⟩ : ∃ m, n3 = m + 1 := ⟨n3 - 1, by omega⟩
    have hkm : k ≤ m := by omega
    have ht : Hd (s.unmark (k : Int) = (0, { s with mks := s.mks.take k ++ s.mks.drop (k + 1) })) := ⟨by simp [NS.unmark, hix]⟩
    have HA : Hd (Calls Try.prog 108 #[.pointer (some ⟨g, 0, none⟩), .int .i64 (k : Int)] w fun e w' => e = .returned (.int .i64 0) ∧ w = w') := ⟨by have := HAT.out; rw [hix] at this; exact this⟩
    obtain ⟨G3, off, cur, rfl, _⟩ : ∃ G off cur, A3 = some ⟨G, off, none⟩ ∧ w.heap[G]? = some (.cells cur 58 (0, 0)) := by
      rcases h.o3.2.2.2 with h0 | ⟨G, off, cur, hA, _, hg, _⟩
      · have := (Own.le h.o3).1; omega
      · exact ⟨G, off, cur, hA, hg⟩
    have hle := (Own.le h.o3).1
    rw [ht.out]
    have hlk := Hd.mk hln
    clear HAT hix hi0 hi1 ht hln
    have hki0 : (0 : Int) ≤ (k : Int) := by omega
    have hkc : (k : Int) ≤ (c3 : Int) := by omega
    have hkmi : (k : Int) ≤ (m : Int) := by omega
    have hrt := Hd.mk (OwnP.takeRd h.o3 (k := k) (by omega))
    have hrd := Hd.mk (Own.rd h.o3)
    go_enter Try.func59, Try.ntmps59
    go_wp2_with fail
    refine HA.out.mono ?_
    rintro e w' ⟨rfl, rfl⟩
    go_wp2_with (first
      | (at_make
         refine wl_makeP rfl (.tmp 18) (.tmp 18) rfl (n := m) rfl rfl (by omega) (by omega) (by omega) ?_
         intro w1 xs ho1 hb1
         have hb1' := Hd.mk hb1
         have hq1 := (hb1.block g h.glt).trans hh0
         have hxl := Hd.mk ho1.1
         have hr1 := Hd.mk (Rd.below hrt.out hb1)
         clear a0 a1 a2 a3 a4 a5 a6 af
         obtain ⟨b0, b1, b2, b3, b4, b5, b6, bf⟩ := nav_cells hq1)
      | ((with_reducible show wpList _ _ _ _ _ _); refine wl_copyV rfl (.tmp 20) (.tmp 26) rfl rfl rfl ho1 hr1.out (pc_one _) ?_; intro w2 ho2 hg2))
    have hown2 : Own w2 w.heap.size 58 2 (some ⟨w.heap.size, 0, none⟩) m m (pc (s.mks.take k) ++ xs.drop (k * 2)) := by
      rw [show min k m = k by omega, List.take_of_length_le (by rw [pc_length, List.length_take]; omega)] at ho2
      exact ho2
    have hblk : ∀ q, ownBlk (some (⟨w.heap.size, 0, none⟩ : Addr)) m = some q → w.heap.size ≤ q := by
      intro q e
      unfold ownBlk at e
      split at e
      · cases e
      · simp at e; omega
    have hb2 := Hd.mk (hb1.grown hg2 hb1.size hblk)
    have hq2 := (hb2.out.block g h.glt).trans hh0
    have hrd2 := Hd.mk (Rd.below hrd.out hb2.out)
    have HBLK := Hd.mk hblk
    clear b0 b1 b2 b3 b4 b5 b6 bf hq1 hb1 ho1 hg2 hr1 ho2 hblk
    have hw : IntKind.i64.wrap ((k : Int) + 1) = (k : Int) + 1 := by rw [IntKind.wrap_i64]; omega
    have hk10 : (0 : Int) ≤ (k : Int) + 1 := by omega
    have hkle : (k : Int) + 1 ≤ (m : Int) + 1 := by omega
    have hton : ((k : Int) + 1).toNat = k + 1 := by omega
    rcases Nat.lt_or_ge k m with hlt | hge
    · have hc3 : ¬ c3 = k + 1 := by omega
      have hmk : ¬ m = k := by omega
      have hmid := Hd.mk (RdP.cut hrd2.out (a := k + 1) (b := m + 1) (m := c3) (by omega) (Nat.le_refl _) hle)
      refine region_zone 11 [false, false, false, false, false, false, false, false, false, false, false] (by kernel_rfl) (by kernel_rfl) hmix (fun w' => w'.heap[g]? = some (.cells #[.int .i64 1, .int .i64 (if s.has then 1 else 0), .int .i64 s.now.1, .int .i64 s.now.2, .slice A1 n1 c1, .slice A2 n2 c2, .slice (some ⟨G3, off, none⟩) (m + 1) c3] 78 (0, 0))) [] ?_ (fun hS => ?_)
      · exact hq2
      refine wpAnyZ_take0 (i := 0) (oi := ⟨_, _, _, _, _, _⟩) (v := ?_) rfl (by decide +kernel) (fun _ _ _ h => h) (Or.inl ⟨by rfl, ?_⟩) (fun _ => hS) ?_
      rotate_left
      focus (intro w _; go_simp; (try with_reducible rfl); done)
      simp only [Act.put, List.setIfInBounds_toArray, List.set_cons_zero, List.set_cons_succ]
      refine wpAnyZ_take0 (i := 1) (oi := ⟨_, _, _, _, _, _⟩) (v := ?_) rfl (by decide +kernel) (fun _ _ _ h => h) (Or.inl ⟨by rfl, ?_⟩) (fun _ => hS) ?_
      rotate_left
      focus (intro w _; go_simp; (try with_reducible rfl); done)
      simp only [Act.put, List.setIfInBounds_toArray, List.set_cons_zero, List.set_cons_succ]
      refine wpAnyZ_take0 (i := 2) (oi := ⟨_, _, _, _, _, _⟩) (v := ?_) rfl (by decide +kernel) (fun _ _ _ h => h) (Or.inl ⟨by rfl, ?_⟩) (fun _ => hS) ?_
      rotate_left
      focus (intro w _; go_simp; (try with_reducible rfl); done)
      simp only [Act.put, List.setIfInBounds_toArray, List.set_cons_zero, List.set_cons_succ]
      refine wpAnyZ_take0 (i := 3) (oi := ⟨_, _, _, _, _, _⟩) (v := ?_) rfl (by decide +kernel) (fun _ _ _ h => h) (Or.inl ⟨by rfl, ?_⟩) (fun _ => hS) ?_
      rotate_left
      focus (intro w _; go_simp; (try with_reducible rfl); done)
      simp only [Act.put, List.setIfInBounds_toArray, List.set_cons_zero, List.set_cons_succ]
      refine wpAnyZ_take0 (i := 4) (oi := ⟨_, _, _, _, _, _⟩) (v := ?_) rfl (by decide +kernel) (fun _ _ _ h => h) (Or.inl ⟨by rfl, ?_⟩) (fun _ => hS) ?_
      rotate_left
      focus (intro w _; go_simp; (try with_reducible rfl); done)
      simp only [Act.put, List.setIfInBounds_toArray, List.set_cons_zero, List.set_cons_succ]
      refine wpAnyZ_take0 (i := 5) (oi := ⟨_, _, _, _, _, _⟩) (v := ?_) rfl (by decide +kernel) (fun _ _ _ h => h) (Or.inl ⟨by rfl, ?_⟩) (fun _ => hS) ?_
      rotate_left
      focus (intro w _; go_simp; (try with_reducible rfl); done)
      simp only [Act.put, List.setIfInBounds_toArray, List.set_cons_zero, List.set_cons_succ]
      refine wpAnyZ_take (i := 6) (oi := ⟨_, _, _, _, _, _⟩) (v := ?_) rfl (by decide +kernel) (fun _ _ _ h => h) (Or.inl ⟨by rfl, ?_⟩) hS ?_
      rotate_left
      focus (intro w hSw; (try dsimp only at hSw); obtain ⟨z0, z1, z2, z3, z4, z5, z6, zf⟩ := nav_cells hSw; clear hSw; go_simp; (try with_reducible rfl); done)
      simp only [Act.put, List.setIfInBounds_toArray, List.set_cons_zero, List.set_cons_succ]
      refine wpAnyZ_take0 (i := 7) (oi := ⟨_, _, _, _, _, _⟩) (v := ?_) rfl (by decide +kernel) (fun _ _ _ h => h) (Or.inl ⟨by rfl, ?_⟩) (fun _ => hS) ?_
      rotate_left
      focus (intro w _; go_simp; (try with_reducible rfl); done)
      simp only [Act.put, List.setIfInBounds_toArray, List.set_cons_zero, List.set_cons_succ]
      refine wpAnyZ_take0 (i := 8) (oi := ⟨_, _, _, _, _, _⟩) (v := ?_) rfl (by decide +kernel) (fun _ _ _ h => h) (Or.inl ⟨by rfl, ?_⟩) (fun _ => hS) ?_
      rotate_left
      focus (intro w _; go_simp; (try with_reducible rfl); done)
      simp only [Act.put, List.setIfInBounds_toArray, List.set_cons_zero, List.set_cons_succ]
      refine wpAnyZ_take0 (i := 9) (oi := ⟨_, _, _, _, _, _⟩) (v := ?_) rfl (by decide +kernel) (fun _ _ _ h => h) (Or.inl ⟨by rfl, ?_⟩) (fun _ => hS) ?_
      rotate_left
      focus (intro w _; go_simp; (try with_reducible rfl); done)
      simp only [Act.put, List.setIfInBounds_toArray, List.set_cons_zero, List.set_cons_succ]
      refine wpAnyZ_one (i := 10) rfl (by decide +kernel) (fun K hKK => ?_)
      have hmm := hmid.out
      rw [if_neg hc3, show m + 1 - (k + 1) = m - k by omega] at hmm
      refine st_copyV_mid (by rfl) (.tmp 30) (.tmp 37) (by rfl) (by rfl) (by rfl) (A := some ⟨w.heap.size, 0, none⟩) (p := k) (n := m) (by simp [Addr.add]) (by omega) hown2.drew hmm.drew (fun u hu => pc_one _ u (List.mem_of_mem_take hu)) (by omega) (by omega) ?_
      intro w3 ho3 hg3
      have hb3 := Hd.mk (hb2.out.grown (grown_drewN (k := 1) hg3) hb2.out.size HBLK.out)
      have hq3 := Hd.mk ((hb3.out.block g h.glt).trans hh0)
      clear hS
      have hS := hq3.out
      refine hKK.out _ _ (fun _ => hS) ?_
      clear hKK
      refine wpAnyZ_done (by decide +kernel) ?_
      have hx3 : OwnP w3 w.heap.size (some ⟨w.heap.size, 0, none⟩) m m (s.mks.take k ++ s.mks.drop (k + 1)) := by
        have hl1 : (s.mks.take k).length = k := by rw [List.length_take]; have := hlk.out; omega
        have hl2 : (s.mks.drop (k + 1)).length = m - k := by rw [List.length_drop, hlk.out]; omega
        rw [mid_list _ _ xs hl1 (by rw [List.length_take]; omega) hxl.out (by omega), List.take_of_length_le (l := s.mks.drop (k + 1)) (by omega)] at ho3
        exact ho3
      have N1 := Hd.mk (N0.st3 (Below.refl _ _) (Slot.fresh hx3 hb3.out))
      obtain ⟨b0, b1, b2, b3, b4, b5, b6, bf⟩ := nav_cells hq3.out
      clear hS hx3 ho3 hg3 hown2 hq2 hmm
      simp only [Act.put, List.setIfInBounds_toArray]
      go_wp2
      go_ret
      exact ⟨rfl, N1.out.to⟩
    · obtain rfl : k = m := by omega
      obtain ⟨D, hD⟩ : ∃ D, (if c3 = k + 1 then some (⟨G3, off, none⟩ : Addr) else some ⟨G3, off + (k + 1) * 2, none⟩) = D := ⟨_, rfl⟩
      refine region_zone 11 [false, false, false, false, false, false, false, false, false, false, false] (by kernel_rfl) (by kernel_rfl) hmix (fun w' => w'.heap[g]? = some (.cells #[.int .i64 1, .int .i64 (if s.has then 1 else 0), .int .i64 s.now.1, .int .i64 s.now.2, .slice A1 n1 c1, .slice A2 n2 c2, .slice (some ⟨G3, off, none⟩) (k + 1) c3] 78 (0, 0))) [] ?_ (fun hS => ?_)
      · exact hq2
      refine wpAnyZ_take0 (i := 0) (oi := ⟨_, _, _, _, _, _⟩) (v := ?_) rfl (by decide +kernel) (fun _ _ _ h => h) (Or.inl ⟨by rfl, ?_⟩) (fun _ => hS) ?_
      rotate_left
      focus (intro w _; go_simp; (try with_reducible rfl); done)
      simp only [Act.put, List.setIfInBounds_toArray, List.set_cons_zero, List.set_cons_succ]
      refine wpAnyZ_take0 (i := 1) (oi := ⟨_, _, _, _, _, _⟩) (v := ?_) rfl (by decide +kernel) (fun _ _ _ h => h) (Or.inl ⟨by rfl, ?_⟩) (fun _ => hS) ?_
      rotate_left
      focus (intro w _; go_simp; (try with_reducible rfl); done)
      simp only [Act.put, List.setIfInBounds_toArray, List.set_cons_zero, List.set_cons_succ]
      refine wpAnyZ_take0 (i := 2) (oi := ⟨_, _, _, _, _, _⟩) (v := ?_) rfl (by decide +kernel) (fun _ _ _ h => h) (Or.inl ⟨by rfl, ?_⟩) (fun _ => hS) ?_
      rotate_left
      focus (intro w _; go_simp; (try with_reducible rfl); done)
      simp only [Act.put, List.setIfInBounds_toArray, List.set_cons_zero, List.set_cons_succ]
      refine wpAnyZ_take0 (i := 3) (oi := ⟨_, _, _, _, _, _⟩) (v := ?_) rfl (by decide +kernel) (fun _ _ _ h => h) (Or.inl ⟨by rfl, ?_⟩) (fun _ => hS) ?_
      rotate_left
      focus (intro w _; go_simp; (try with_reducible rfl); done)
      simp only [Act.put, List.setIfInBounds_toArray, List.set_cons_zero, List.set_cons_succ]
      refine wpAnyZ_take0 (i := 4) (oi := ⟨_, _, _, _, _, _⟩) (v := ?_) rfl (by decide +kernel) (fun _ _ _ h => h) (Or.inl ⟨by rfl, ?_⟩) (fun _ => hS) ?_
      rotate_left
      focus (intro w _; go_simp; (try with_reducible rfl); done)
      simp only [Act.put, List.setIfInBounds_toArray, List.set_cons_zero, List.set_cons_succ]
      refine wpAnyZ_take0 (i := 5) (oi := ⟨_, _, _, _, _, _⟩) (v := ?_) rfl (by decide +kernel) (fun _ _ _ h => h) (Or.inl ⟨by rfl, ?_⟩) (fun _ => hS) ?_
      rotate_left
      focus (intro w _; go_simp; (try with_reducible rfl); done)
      simp only [Act.put, List.setIfInBounds_toArray, List.set_cons_zero, List.set_cons_succ]
      refine wpAnyZ_take (i := 6) (oi := ⟨_, _, _, _, _, _⟩) (v := ?_) rfl (by decide +kernel) (fun _ _ _ h => h) (Or.inl ⟨by rfl, ?_⟩) hS ?_
      rotate_left
      focus (intro w hSw; (try dsimp only at hSw); obtain ⟨z0, z1, z2, z3, z4, z5, z6, zf⟩ := nav_cells hSw; clear hSw; go_simp; (try with_reducible rfl); done)
      simp only [Act.put, List.setIfInBounds_toArray, List.set_cons_zero, List.set_cons_succ]
      refine wpAnyZ_take0 (i := 7) (oi := ⟨_, _, _, _, _, _⟩) (v := ?_) rfl (by decide +kernel) (fun _ _ _ h => h) (Or.inl ⟨by rfl, ?_⟩) (fun _ => hS) ?_
      rotate_left
      focus (intro w _; go_simp; (try with_reducible rfl); done)
      simp only [Act.put, List.setIfInBounds_toArray, List.set_cons_zero, List.set_cons_succ]
      refine wpAnyZ_take0 (i := 8) (oi := ⟨_, _, _, _, _, _⟩) (v := ?_) rfl (by decide +kernel) (fun _ _ _ h => h) (Or.inl ⟨by rfl, ?_⟩) (fun _ => hS) ?_
      rotate_left
      focus (intro w _; go_simp; (try with_reducible rfl); done)
      simp only [Act.put, List.setIfInBounds_toArray, List.set_cons_zero, List.set_cons_succ]
      refine wpAnyZ_take0 (i := 9) (oi := ⟨_, _, _, _, _, _⟩) (v := ?_) rfl (by decide +kernel) (fun _ _ _ h => h) (Or.inl ⟨by rfl, ?_⟩) (fun _ => hS) ?_
      rotate_left
      focus (intro w _; go_simp; (try with_reducible rfl); done)
      simp only [Act.put, List.setIfInBounds_toArray, List.set_cons_zero, List.set_cons_succ]
      refine wpAnyZ_one (i := 10) rfl (by decide +kernel) (fun K hKK => ?_)
      refine st_copyV (by rfl) (.tmp 30) (.tmp 37) (by rfl) (n := 0) (c := 0) (m := 0) (xs := []) (news := []) (A := some ⟨w.heap.size, 0, none⟩) (S := D) (cs := c3 - (k + 1)) (by rfl) (by rfl) (Own.nil_ _ w.heap.size _ _ _) (Rd.nil_) (by simp) ?_
      intro w3 ho3 hg3
      have hb3 := Hd.mk (hb2.out.trans ((below_drew w2).trans (Tch.below (F := fun _ => False) (Tch.of_grown hg3 (fun q e => by simp [ownBlk] at e)) (fun _ h => h.elim) (Nat.le_refl _)) |>.mono hb2.out.size))
      have hq3 := Hd.mk ((hb3.out.block g h.glt).trans hh0)
      clear hS
      have hS := hq3.out
      refine hKK.out _ _ (fun _ => hS) ?_
      clear hKK
      refine wpAnyZ_done (by decide +kernel) ?_
      have hx3 : OwnP w3 w.heap.size (some ⟨w.heap.size, 0, none⟩) k k (s.mks.take k ++ s.mks.drop (k + 1)) := by
        rw [List.drop_of_length_le (by have := hxl.out; omega), List.append_nil] at hown2
        rw [List.drop_of_length_le (l := s.mks) (by have := hlk.out; omega), List.append_nil]
        exact Own.grown (w := w2.drew) hown2 hg3 (fun q _ e => by simp [ownBlk] at e)
      have N1 := Hd.mk (N0.st3 (Below.refl _ _) (Slot.fresh hx3 hb3.out))
      obtain ⟨b0, b1, b2, b3, b4, b5, b6, bf⟩ := nav_cells hq3.out
      clear hS hx3 ho3 hg3 hown2 hq2
      simp only [Act.put, List.setIfInBounds_toArray]
      go_wp2
      go_ret
      exact ⟨rfl, N1.out.to⟩
  · have ht : Hd (s.unmark i = (1, s)) := ⟨by simp [NS.unmark, hix]⟩
    rw [ht.out]
    have HA : Hd (Calls Try.prog 108 #[.pointer (some ⟨g, 0, none⟩), .int .i64 i] w fun e w' => e = .returned (.int .i64 1) ∧ w = w') := ⟨by have := HAT.out; rw [show s.ix i = false by simpa using hix] at this; exact this⟩
    clear HAT hix ht hln
    go_enter Try.func59, Try.ntmps59
    go_wp2_with fail
    refine HA.out.mono ?_
    rintro e w' ⟨rfl, rfl⟩
    go_wp2
    go_ret
    exact ⟨rfl, N0.to⟩
end Go.Proofs.Ytkgdcglnkodgnaa

