/-
  nav: instead walked. No condition but sizes.
-/
import Derived.Test.YtkgdcglnkodgnaaNav4
import Derived.Test.YtkgdcglnkodgnaaNav6
namespace Go.Proofs.Ytkgdcglnkodgnaa
open Go.RowKit
theorem Slot.front {w : World} {A : Option Addr} {n c : Nat} {l : List Pl} (h : OwnP w 0 A n c l) {k : Nat} (hk : k ≤ n) : Slot w w A c A k c (l.take k) := by
  refine ⟨?_, fun _ e => .inl e, Tch.refl _ _⟩
  have := Own.front h hk
  rw [pc_take] at this
  exact this
theorem Slot.tail {w : World} {g off n c : Nat} {l : List Pl} (h : OwnP w 0 (some ⟨g, off, none⟩) n c l) {k : Nat} (hk : k ≤ n) : Slot w w (some ⟨g, off, none⟩) c (if c = k then some ⟨g, off, none⟩ else some ⟨g, off + k * 2, none⟩) (n - k) (c - k) (l.drop k) := by
  have h1 := Own.cut h hk (Nat.le_refl n)
  rw [pc_drop, pc_take] at h1
  have hl := h.len
  rw [List.take_of_length_le (l := l.drop k) (by rw [List.length_drop]; omega)] at h1
  have e : (if c = k then some (⟨g, off, none⟩ : Addr) else (some (⟨g, off, none⟩ : Addr)).map (·.add (k * 2))) = (if c = k then some ⟨g, off, none⟩ else some ⟨g, off + k * 2, none⟩) := by
    split
    · rfl
    · rw [Option.map_some, add_plain]
  rw [e] at h1
  refine ⟨h1, fun q hq => ?_, Tch.refl _ _⟩
  left
  unfold ownBlk at hq ⊢
  split at hq
  · cases hq
  · rename_i h0
    rw [if_neg (by omega)]
    split at hq <;> simpa using hq
set_option maxRecDepth 100000 in
set_option maxHeartbeats 1000000 in
theorem instead103 (g : Nat) (F : Nat → Prop) (s : NS) (w : World) (h : NavAt w g F s) (hl : s.bh.length ≤ 99) (hl2 : s.ah.length ≤ 99) :
    Calls Try.prog 103 #[.pointer (some ⟨g, 0, none⟩)] w fun e w' => e = .returned (.tuple #[]) ∧ NavTo w w' g F s.instead := by
  obtain ⟨A1, n1, c1, A2, n2, c2, A3, n3, c3, h⟩ := h
  obtain ⟨a0, a1, a2, a3, a4, a5, a6, af⟩ := nav_cells h.heap
  have hg := h.glt
  have hln := h.o1.len
  have hln2 := h.o2.len
  have hmix := try_mixed
  have hh0 := h.heap
  have N0 := NavT.refl h
  cases hb : s.bh.getLast? with
  | some p =>
    have e := getLast?_split hb
    obtain ⟨k, rfl⟩ : ∃ k, n1 = k + 1 := ⟨n1 - 1, by rw [e] at hln; simp at hln; omega⟩
    have hk : k ≤ 98 := by omega
    have ht : Hd (s.instead = { s with now := p, bh := s.bh.dropLast }) := ⟨by simp [NS.instead, hb]⟩
    have hget : s.bh[k]? = some p := by
      have hd : s.bh.dropLast.length = k := by rw [List.length_dropLast]; omega
      rw [e, List.getElem?_append_right (by omega), hd]; simp
    obtain ⟨G1, off, rfl, p0, p1⟩ := OwnP.get h.o1 hget
    have hle := (Own.le h.o1).1
    rw [ht.out]
    have hdl : Hd ((s.bh.take k) = s.bh.dropLast) := ⟨by rw [List.dropLast_eq_take]; congr 1; omega⟩
    have N2 := (N0.st1 (Below.refl _ _) (Slot.front h.o1 (k := k) (by omega))).now p
    rw [hdl.out, setCell_comm w g 4 2 _ _ (by decide), setCell_comm _ g 4 3 _ _ (by decide)] at N2
    have N3 := Hd.mk N2
    have hs2 := Hd.mk (heap_setCell_same w g 2 _ 78 (.int .i64 p.1) hh0)
    have hs3 := Hd.mk (heap_setCell_same _ g 3 _ 78 (.int .i64 p.2) hs2.out)
    have hki : ((k : Nat) : Int) < ((k : Nat) : Int) + 1 := by omega
    have hki0 : (0 : Int) ≤ (k : Int) := by omega
    have hkc : (k : Int) ≤ (c1 : Int) := by omega
    have hkc1 : k ≤ c1 := by omega
    have hw : IntKind.i64.wrap (k : Int) = (k : Int) := by rw [IntKind.wrap_i64]; omega
    clear hln hln2 hb e N2 ht
    go_enter Try.func103, Try.ntmps103
    go_wp2_with fail
    clear a0 a1 a2 a3 a4 a5 a6 af
    refine region_zone 23 [false, false, false, false, false, false, false, false, false, false, false, false, false, false, false, false, false, false, false, false, false, false, false] (by kernel_rfl) (by kernel_rfl) hmix (fun w' => w'.heap[g]? = some (.cells #[.int .i64 1, .int .i64 (if s.has then 1 else 0), .int .i64 s.now.1, .int .i64 s.now.2, .slice (some ⟨G1, off, none⟩) (k + 1) c1, .slice A2 n2 c2, .slice A3 n3 c3] 78 (0, 0)) ∧ w'.cell? ⟨G1, off + k * 2, none⟩ = some (.int .i64 p.1) ∧ w'.cell? ⟨G1, off + k * 2 + 1, none⟩ = some (.int .i64 p.2)) [19, 22] ?_ (fun hS => ?_)
    · exact ⟨hh0, p0, p1⟩
    refine wpAnyZ_take0 (i := 0) (oi := ⟨_, _, _, _, _, _⟩) (v := ?_) rfl (by decide +kernel) (fun _ _ _ h => h) (Or.inl ⟨by rfl, ?_⟩) (fun _ => hS) ?_
    rotate_left
    focus (intro w _; go_simp; (try with_reducible rfl); done)
    simp only [Act.put, List.setIfInBounds_toArray, List.set_cons_zero, List.set_cons_succ]
    refine wpAnyZ_take0 (i := 1) (oi := ⟨_, _, _, _, _, _⟩) (v := ?_) rfl (by decide +kernel) (fun _ _ _ h => h) (Or.inl ⟨by rfl, ?_⟩) (fun _ => hS) ?_
    rotate_left
    focus (intro w _; go_simp; (try with_reducible rfl); done)
    simp only [Act.put, List.setIfInBounds_toArray, List.set_cons_zero, List.set_cons_succ]
    refine wpAnyZ_take0 (i := 2) (oi := ⟨_, _, _, _, _, _⟩) (v := ?_) rfl (by decide +kernel) (fun _ _ _ h => h) (Or.inl ⟨by rfl, ?_⟩) (fun _ => hS) ?_
    rotate_left
    focus (intro w _; go_simp; (try with_reducible rfl); done)
    simp only [Act.put, List.setIfInBounds_toArray, List.set_cons_zero, List.set_cons_succ]
    refine wpAnyZ_take0 (i := 3) (oi := ⟨_, _, _, _, _, _⟩) (v := ?_) rfl (by decide +kernel) (fun _ _ _ h => h) (Or.inl ⟨by rfl, ?_⟩) (fun _ => hS) ?_
    rotate_left
    focus (intro w _; go_simp; (try with_reducible rfl); done)
    simp only [Act.put, List.setIfInBounds_toArray, List.set_cons_zero, List.set_cons_succ]
    refine wpAnyZ_take0 (i := 4) (oi := ⟨_, _, _, _, _, _⟩) (v := ?_) rfl (by decide +kernel) (fun _ _ _ h => h) (Or.inl ⟨by rfl, ?_⟩) (fun _ => hS) ?_
    rotate_left
    focus (intro w _; go_simp; (try with_reducible rfl); done)
    simp only [Act.put, List.setIfInBounds_toArray, List.set_cons_zero, List.set_cons_succ]
    refine wpAnyZ_take (i := 5) (oi := ⟨_, _, _, _, _, _⟩) (v := ?_) rfl (by decide +kernel) (fun _ _ _ h => h) (Or.inl ⟨by rfl, ?_⟩) hS ?_
    rotate_left
    focus (intro w hSw; (try dsimp only at hSw); obtain ⟨hSw, y0, y1⟩ := hSw; obtain ⟨z0, z1, z2, z3, z4, z5, z6, zf⟩ := nav_cells hSw; clear hSw; go_simp; (try with_reducible rfl); done)
    simp only [Act.put, List.setIfInBounds_toArray, List.set_cons_zero, List.set_cons_succ]
    refine wpAnyZ_take0 (i := 6) (oi := ⟨_, _, _, _, _, _⟩) (v := ?_) rfl (by decide +kernel) (fun _ _ _ h => h) (Or.inl ⟨by rfl, ?_⟩) (fun _ => hS) ?_
    rotate_left
    focus (intro w _; go_simp; (try with_reducible rfl); done)
    simp only [Act.put, List.setIfInBounds_toArray, List.set_cons_zero, List.set_cons_succ]
    refine wpAnyZ_take0 (i := 7) (oi := ⟨_, _, _, _, _, _⟩) (v := ?_) rfl (by decide +kernel) (fun _ _ _ h => h) (Or.inl ⟨by rfl, ?_⟩) (fun _ => hS) ?_
    rotate_left
    focus (intro w _; go_simp; (try with_reducible rfl); done)
    simp only [Act.put, List.setIfInBounds_toArray, List.set_cons_zero, List.set_cons_succ]
    refine wpAnyZ_take0 (i := 8) (oi := ⟨_, _, _, _, _, _⟩) (v := ?_) rfl (by decide +kernel) (fun _ _ _ h => h) (Or.inl ⟨by rfl, ?_⟩) (fun _ => hS) ?_
    rotate_left
    focus (intro w _; go_simp; (try with_reducible rfl); done)
    simp only [Act.put, List.setIfInBounds_toArray, List.set_cons_zero, List.set_cons_succ]
    refine wpAnyZ_take (i := 9) (oi := ⟨_, _, _, _, _, _⟩) (v := ?_) rfl (by decide +kernel) (fun _ _ _ h => h) (Or.inl ⟨by rfl, ?_⟩) hS ?_
    rotate_left
    focus (intro w hSw; (try dsimp only at hSw); obtain ⟨hSw, y0, y1⟩ := hSw; obtain ⟨z0, z1, z2, z3, z4, z5, z6, zf⟩ := nav_cells hSw; clear hSw; go_simp; (try with_reducible rfl); done)
    simp only [Act.put, List.setIfInBounds_toArray, List.set_cons_zero, List.set_cons_succ]
    refine wpAnyZ_take0 (i := 10) (oi := ⟨_, _, _, _, _, _⟩) (v := ?_) rfl (by decide +kernel) (fun _ _ _ h => h) (Or.inl ⟨by rfl, ?_⟩) (fun _ => hS) ?_
    rotate_left
    focus (intro w _; go_simp; (try with_reducible rfl); done)
    simp only [Act.put, List.setIfInBounds_toArray, List.set_cons_zero, List.set_cons_succ]
    refine wpAnyZ_take0 (i := 11) (oi := ⟨_, _, _, _, _, _⟩) (v := ?_) rfl (by decide +kernel) (fun _ _ _ h => h) (Or.inl ⟨by rfl, ?_⟩) (fun _ => hS) ?_
    rotate_left
    focus (intro w _; go_simp; (try with_reducible rfl); done)
    simp only [Act.put, List.setIfInBounds_toArray, List.set_cons_zero, List.set_cons_succ]
    refine wpAnyZ_take0 (i := 12) (oi := ⟨_, _, _, _, _, _⟩) (v := ?_) rfl (by decide +kernel) (fun _ _ _ h => h) (Or.inl ⟨by rfl, ?_⟩) (fun _ => hS) ?_
    rotate_left
    focus (intro w _; go_simp; (try with_reducible rfl); done)
    simp only [Act.put, List.setIfInBounds_toArray, List.set_cons_zero, List.set_cons_succ]
    refine wpAnyZ_take (i := 13) (oi := ⟨_, _, _, _, _, _⟩) (v := ?_) rfl (by decide +kernel) (fun _ _ _ h => h) (Or.inl ⟨by rfl, ?_⟩) hS ?_
    rotate_left
    focus (intro w hSw; (try dsimp only at hSw); obtain ⟨hSw, y0, y1⟩ := hSw; obtain ⟨z0, z1, z2, z3, z4, z5, z6, zf⟩ := nav_cells hSw; clear hSw; go_simp; (try with_reducible rfl); done)
    simp only [Act.put, List.setIfInBounds_toArray, List.set_cons_zero, List.set_cons_succ]
    refine wpAnyZ_take0 (i := 14) (oi := ⟨_, _, _, _, _, _⟩) (v := ?_) rfl (by decide +kernel) (fun _ _ _ h => h) (Or.inl ⟨by rfl, ?_⟩) (fun _ => hS) ?_
    rotate_left
    focus (intro w _; go_simp; (try with_reducible rfl); done)
    simp only [Act.put, List.setIfInBounds_toArray, List.set_cons_zero, List.set_cons_succ]
    refine wpAnyZ_take0 (i := 15) (oi := ⟨_, _, _, _, _, _⟩) (v := ?_) rfl (by decide +kernel) (fun _ _ _ h => h) (Or.inl ⟨by rfl, ?_⟩) (fun _ => hS) ?_
    rotate_left
    focus (intro w _; go_simp; (try with_reducible rfl); done)
    simp only [Act.put, List.setIfInBounds_toArray, List.set_cons_zero, List.set_cons_succ]
    refine wpAnyZ_take0 (i := 16) (oi := ⟨_, _, _, _, _, _⟩) (v := ?_) rfl (by decide +kernel) (fun _ _ _ h => h) (Or.inl ⟨by rfl, ?_⟩) (fun _ => hS) ?_
    rotate_left
    focus (intro w _; go_simp; (try with_reducible rfl); done)
    simp only [Act.put, List.setIfInBounds_toArray, List.set_cons_zero, List.set_cons_succ]
    refine wpAnyZ_take0 (i := 17) (oi := ⟨_, _, _, _, _, _⟩) (v := ?_) rfl (by decide +kernel) (fun _ _ _ h => h) (Or.inl ⟨by rfl, ?_⟩) (fun _ => hS) ?_
    rotate_left
    focus (intro w _; go_simp; (try with_reducible rfl); done)
    simp only [Act.put, List.setIfInBounds_toArray, List.set_cons_zero, List.set_cons_succ]
    refine wpAnyZ_take0 (i := 18) (oi := ⟨_, _, _, _, _, _⟩) (v := ?_) rfl (by decide +kernel) (fun _ _ _ h => h) (Or.inl ⟨by rfl, ?_⟩) (fun _ => hS) ?_
    rotate_left
    focus (intro w _; go_simp; (try with_reducible rfl); done)
    simp only [Act.put, List.setIfInBounds_toArray, List.set_cons_zero, List.set_cons_succ]
    refine wpAnyZ_one (i := 19) rfl (by decide +kernel) (fun K hKK => ?_)
    obtain ⟨b0, b1, b2, b3, b4, b5, b6, bf⟩ := nav_cells hh0
    go_simp
    clear b0 b1 b2 b3 b4 b5 b6 bf
    refine hKK.out _ _ (fun hz => absurd hz (by decide +kernel)) ?_
    clear hKK
    refine wpAnyZ_take0 (i := 20) (oi := ⟨_, _, _, _, _, _⟩) (v := ?_) rfl (by decide +kernel) (fun _ _ _ h => h) (Or.inl ⟨by rfl, ?_⟩) (fun hz => absurd hz (by decide +kernel)) ?_
    rotate_left
    focus (intro w _; go_simp; (try with_reducible rfl); done)
    simp only [Act.put, List.setIfInBounds_toArray, List.set_cons_zero, List.set_cons_succ]
    refine wpAnyZ_take0 (i := 21) (oi := ⟨_, _, _, _, _, _⟩) (v := ?_) rfl (by decide +kernel) (fun _ _ _ h => h) (Or.inl ⟨by rfl, ?_⟩) (fun hz => absurd hz (by decide +kernel)) ?_
    rotate_left
    focus (intro w _; go_simp; (try with_reducible rfl); done)
    simp only [Act.put, List.setIfInBounds_toArray, List.set_cons_zero, List.set_cons_succ]
    refine wpAnyZ_one (i := 22) rfl (by decide +kernel) (fun K hKK => ?_)
    have hq := hs3.out
    simp only [List.setIfInBounds_toArray, List.set_cons_zero, List.set_cons_succ] at hq
    clear hh0 p0 p1 hS
    obtain ⟨b0, b1, b2, b3, b4, b5, b6, bf⟩ := nav_cells hq
    go_simp
    clear b0 b1 b2 b3 b4 b5 b6 bf hq
    refine hKK.out _ _ (fun hz => absurd hz (by decide +kernel)) ?_
    clear hKK
    refine wpAnyZ_done (by decide +kernel) ?_
    go_wp2
    go_end0
    exact ⟨rfl, (N3.out.below (below_drew _)).to⟩
  | none =>
    have eb : s.bh = [] := by simpa using hb
    obtain rfl : n1 = 0 := by rw [eb] at hln; simpa using hln.symm
    cases hr : s.ah with
    | cons p r =>
      have hn2 : n2 = r.length + 1 := by rw [hr] at hln2; simpa using hln2.symm
      obtain rfl := hn2
      have ht : Hd (s.instead = { s with now := p, ah := r }) := ⟨by simp [NS.instead, hb, hr]⟩
      obtain ⟨G2, off, rfl, _, _⟩ := OwnP.get h.o2 (k := 0) (p := p) (by rw [hr]; rfl)
      have hc0 := OwnP.cellAt h.o2 (k := 0) (p := p) (by rw [hr]; rfl)
      simp only [Nat.zero_mul, Nat.add_zero] at hc0
      obtain ⟨p0, p1⟩ := hc0
      have hle := (Own.le h.o2).1
      rw [ht.out]
      have N2 := (N0.st2 (Below.refl _ _) (Slot.tail h.o2 (k := 1) (by omega))).now p
      rw [hr] at N2
      simp only [List.drop_succ_cons, List.drop_zero, Nat.one_mul, Nat.add_sub_cancel] at N2
      obtain ⟨D, hD⟩ : ∃ D, (if c2 = 1 then some (⟨G2, off, none⟩ : Addr) else some ⟨G2, off + 2, none⟩) = D := ⟨_, rfl⟩
      rw [hD] at N2
      rw [setCell_comm w g 5 2 _ _ (by decide), setCell_comm _ g 5 3 _ _ (by decide)] at N2
      have N3 := Hd.mk N2
      have hs2 := Hd.mk (heap_setCell_same w g 2 _ 78 (.int .i64 p.1) hh0)
      have hs3 := Hd.mk (heap_setCell_same _ g 3 _ 78 (.int .i64 p.2) hs2.out)
      have hle1 : (1 : Int) ≤ (r.length : Int) + 1 := by omega
      have hi0 : (0 : Int) < (r.length : Int) + 1 := by omega
      have hr98 : r.length ≤ 98 := by rw [hr] at hl2; simp at hl2; omega
      clear hln hln2 hb N2 ht hl2 hr
      go_enter Try.func103, Try.ntmps103
      go_wp2_with fail
      clear a0 a1 a2 a3 a4 a5 a6 af
      refine region_zone 19 [false, false, false, false, false, false, false, false, false, false, false, false, false, false, false, false, false, false, false] (by kernel_rfl) (by kernel_rfl) hmix (fun w' => w'.heap[g]? = some (.cells #[.int .i64 1, .int .i64 (if s.has then 1 else 0), .int .i64 s.now.1, .int .i64 s.now.2, .slice A1 0 c1, .slice (some ⟨G2, off, none⟩) (r.length + 1) c2, .slice A3 n3 c3] 78 (0, 0)) ∧ w'.cell? ⟨G2, off, none⟩ = some (.int .i64 p.1) ∧ w'.cell? ⟨G2, off + 1, none⟩ = some (.int .i64 p.2)) [15, 18] ?_ (fun hS => ?_)
      · exact ⟨hh0, p0, p1⟩
      refine wpAnyZ_take0 (i := 0) (oi := ⟨_, _, _, _, _, _⟩) (v := ?_) rfl (by decide +kernel) (fun _ _ _ h => h) (Or.inl ⟨by rfl, ?_⟩) (fun _ => hS) ?_
      rotate_left
      focus (intro w _; go_simp; (try with_reducible rfl); done)
      simp only [Act.put, List.setIfInBounds_toArray, List.set_cons_zero, List.set_cons_succ]
      refine wpAnyZ_take0 (i := 1) (oi := ⟨_, _, _, _, _, _⟩) (v := ?_) rfl (by decide +kernel) (fun _ _ _ h => h) (Or.inl ⟨by rfl, ?_⟩) (fun _ => hS) ?_
      rotate_left
      focus (intro w _; go_simp; (try with_reducible rfl); done)
      simp only [Act.put, List.setIfInBounds_toArray, List.set_cons_zero, List.set_cons_succ]
      refine wpAnyZ_take0 (i := 2) (oi := ⟨_, _, _, _, _, _⟩) (v := ?_) rfl (by decide +kernel) (fun _ _ _ h => h) (Or.inl ⟨by rfl, ?_⟩) (fun _ => hS) ?_
      rotate_left
      focus (intro w _; go_simp; (try with_reducible rfl); done)
      simp only [Act.put, List.setIfInBounds_toArray, List.set_cons_zero, List.set_cons_succ]
      refine wpAnyZ_take0 (i := 3) (oi := ⟨_, _, _, _, _, _⟩) (v := ?_) rfl (by decide +kernel) (fun _ _ _ h => h) (Or.inl ⟨by rfl, ?_⟩) (fun _ => hS) ?_
      rotate_left
      focus (intro w _; go_simp; (try with_reducible rfl); done)
      simp only [Act.put, List.setIfInBounds_toArray, List.set_cons_zero, List.set_cons_succ]
      refine wpAnyZ_take0 (i := 4) (oi := ⟨_, _, _, _, _, _⟩) (v := ?_) rfl (by decide +kernel) (fun _ _ _ h => h) (Or.inl ⟨by rfl, ?_⟩) (fun _ => hS) ?_
      rotate_left
      focus (intro w _; go_simp; (try with_reducible rfl); done)
      simp only [Act.put, List.setIfInBounds_toArray, List.set_cons_zero, List.set_cons_succ]
      refine wpAnyZ_take (i := 5) (oi := ⟨_, _, _, _, _, _⟩) (v := ?_) rfl (by decide +kernel) (fun _ _ _ h => h) (Or.inl ⟨by rfl, ?_⟩) hS ?_
      rotate_left
      focus (intro w hSw; (try dsimp only at hSw); obtain ⟨hSw, y0, y1⟩ := hSw; obtain ⟨z0, z1, z2, z3, z4, z5, z6, zf⟩ := nav_cells hSw; clear hSw; go_simp; (try with_reducible rfl); done)
      simp only [Act.put, List.setIfInBounds_toArray, List.set_cons_zero, List.set_cons_succ]
      refine wpAnyZ_take0 (i := 6) (oi := ⟨_, _, _, _, _, _⟩) (v := ?_) rfl (by decide +kernel) (fun _ _ _ h => h) (Or.inl ⟨by rfl, ?_⟩) (fun _ => hS) ?_
      rotate_left
      focus (intro w _; go_simp; (try with_reducible rfl); done)
      simp only [Act.put, List.setIfInBounds_toArray, List.set_cons_zero, List.set_cons_succ]
      refine wpAnyZ_take (i := 7) (oi := ⟨_, _, _, _, _, _⟩) (v := ?_) rfl (by decide +kernel) (fun _ _ _ h => h) (Or.inl ⟨by rfl, ?_⟩) hS ?_
      rotate_left
      focus (intro w hSw; (try dsimp only at hSw); obtain ⟨hSw, y0, y1⟩ := hSw; obtain ⟨z0, z1, z2, z3, z4, z5, z6, zf⟩ := nav_cells hSw; clear hSw; go_simp; (try with_reducible rfl); done)
      simp only [Act.put, List.setIfInBounds_toArray, List.set_cons_zero, List.set_cons_succ]
      refine wpAnyZ_take0 (i := 8) (oi := ⟨_, _, _, _, _, _⟩) (v := ?_) rfl (by decide +kernel) (fun _ _ _ h => h) (Or.inl ⟨by rfl, ?_⟩) (fun _ => hS) ?_
      rotate_left
      focus (intro w _; go_simp; (try with_reducible rfl); done)
      simp only [Act.put, List.setIfInBounds_toArray, List.set_cons_zero, List.set_cons_succ]
      refine wpAnyZ_take0 (i := 9) (oi := ⟨_, _, _, _, _, _⟩) (v := ?_) rfl (by decide +kernel) (fun _ _ _ h => h) (Or.inl ⟨by rfl, ?_⟩) (fun _ => hS) ?_
      rotate_left
      focus (intro w _; go_simp; (try with_reducible rfl); done)
      simp only [Act.put, List.setIfInBounds_toArray, List.set_cons_zero, List.set_cons_succ]
      refine wpAnyZ_take0 (i := 10) (oi := ⟨_, _, _, _, _, _⟩) (v := ?_) rfl (by decide +kernel) (fun _ _ _ h => h) (Or.inl ⟨by rfl, ?_⟩) (fun _ => hS) ?_
      rotate_left
      focus (intro w _; go_simp; (try with_reducible rfl); done)
      simp only [Act.put, List.setIfInBounds_toArray, List.set_cons_zero, List.set_cons_succ]
      refine wpAnyZ_take (i := 11) (oi := ⟨_, _, _, _, _, _⟩) (v := ?_) rfl (by decide +kernel) (fun _ _ _ h => h) (Or.inl ⟨by rfl, ?_⟩) hS ?_
      rotate_left
      focus (intro w hSw; (try dsimp only at hSw); obtain ⟨hSw, y0, y1⟩ := hSw; obtain ⟨z0, z1, z2, z3, z4, z5, z6, zf⟩ := nav_cells hSw; clear hSw; go_simp; (try with_reducible rfl); done)
      simp only [Act.put, List.setIfInBounds_toArray, List.set_cons_zero, List.set_cons_succ]
      refine wpAnyZ_take0 (i := 12) (oi := ⟨_, _, _, _, _, _⟩) (v := ?_) rfl (by decide +kernel) (fun _ _ _ h => h) (Or.inl ⟨by rfl, ?_⟩) (fun _ => hS) ?_
      rotate_left
      focus (intro w _; go_simp; (try with_reducible rfl); done)
      simp only [Act.put, List.setIfInBounds_toArray, List.set_cons_zero, List.set_cons_succ]
      refine wpAnyZ_take0 (i := 13) (oi := ⟨_, _, _, _, _, _⟩) (v := ?_) rfl (by decide +kernel) (fun _ _ _ h => h) (Or.inl ⟨by rfl, ?_⟩) (fun _ => hS) ?_
      rotate_left
      focus (intro w _; go_simp; (try with_reducible rfl); done)
      simp only [Act.put, List.setIfInBounds_toArray, List.set_cons_zero, List.set_cons_succ]
      refine wpAnyZ_take0 (i := 14) (oi := ⟨_, _, _, _, _, _⟩) (v := ?_) rfl (by decide +kernel) (fun _ _ _ h => h) (Or.inl ⟨by rfl, ?_⟩) (fun _ => hS) ?_
      rotate_left
      focus (intro w _; go_simp; (try with_reducible rfl); done)
      simp only [Act.put, List.setIfInBounds_toArray, List.set_cons_zero, List.set_cons_succ]
      refine wpAnyZ_one (i := 15) rfl (by decide +kernel) (fun K hKK => ?_)
      obtain ⟨b0, b1, b2, b3, b4, b5, b6, bf⟩ := nav_cells hh0
      go_simp
      clear b0 b1 b2 b3 b4 b5 b6 bf
      refine hKK.out _ _ (fun hz => absurd hz (by decide +kernel)) ?_
      clear hKK
      refine wpAnyZ_take0 (i := 16) (oi := ⟨_, _, _, _, _, _⟩) (v := ?_) rfl (by decide +kernel) (fun _ _ _ h => h) (Or.inl ⟨by rfl, ?_⟩) (fun hz => absurd hz (by decide +kernel)) ?_
      rotate_left
      focus (intro w _; go_simp; (try with_reducible rfl); done)
      simp only [Act.put, List.setIfInBounds_toArray, List.set_cons_zero, List.set_cons_succ]
      refine wpAnyZ_take0 (i := 17) (oi := ⟨_, _, _, _, _, _⟩) (v := ?_) rfl (by decide +kernel) (fun _ _ _ h => h) (Or.inl ⟨by rfl, ?_⟩) (fun hz => absurd hz (by decide +kernel)) ?_
      rotate_left
      focus (intro w _; go_simp; (try with_reducible rfl); done)
      simp only [Act.put, List.setIfInBounds_toArray, List.set_cons_zero, List.set_cons_succ]
      refine wpAnyZ_one (i := 18) rfl (by decide +kernel) (fun K hKK => ?_)
      have hq := hs3.out
      simp only [List.setIfInBounds_toArray, List.set_cons_zero, List.set_cons_succ] at hq
      clear hh0 p0 p1 hS
      obtain ⟨b0, b1, b2, b3, b4, b5, b6, bf⟩ := nav_cells hq
      go_simp
      clear b0 b1 b2 b3 b4 b5 b6 bf hq
      refine hKK.out _ _ (fun hz => absurd hz (by decide +kernel)) ?_
      clear hKK
      refine wpAnyZ_done (by decide +kernel) ?_
      go_wp2
      go_end0
      exact ⟨rfl, (N3.out.below (below_drew _)).to⟩
    | nil =>
      obtain rfl : n2 = 0 := by rw [hr] at hln2; simpa using hln2.symm
      have ht : Hd (s.instead = { s with now := (0, 0), has := false }) := ⟨by simp [NS.instead, hb, hr]⟩
      rw [ht.out]
      have N3 := Hd.mk ((N0.now (0, 0)).has false)
      clear hln hln2 hb ht hr eb
      go_enter Try.func103, Try.ntmps103
      go_wp2_with fail
      go_end0
      exact ⟨rfl, N3.out.to⟩
end Go.Proofs.Ytkgdcglnkodgnaa

