/-
  nav: Back walked. No condition but sizes.
-/
import Derived.Test.YtkgdcglnkodgnaaNav1
namespace Go.Proofs.Ytkgdcglnkodgnaa
open Go.RowKit
/-- A result's own box is written at the end. -/
theorem NavT.res {w w0 w4 w5 : World} {g : Nat} {F : Nat → Prop} {s : NS} {A1 A2 A3 : Option Addr} {n1 c1 n2 c2 n3 c3 r : Nat} (hF : ∀ k, F k → k < w.heap.size) (hb : Below w.heap.size w w0) (h : NavT w0 w4 g F s A1 n1 c1 A2 n2 c2 A3 n3 c3)
    (h1 : w.heap.size ≤ r) (h2 : r < w0.heap.size) (ht : Tch (fun k => k = r) w4 w5) : NavTo w w5 g F s := by
  have s1 := hb.size
  have s2 := h.t.size
  have s3 := ht.size
  refine ⟨((h.c.keep ht (fun k e e2 => ?_)).mono (fun k e => ?_) (fun k e => ?_)).at_, ⟨ht.os.trans (h.t.os.trans hb.os), ht.tape.trans (h.t.tape.trans hb.tape), ht.output.trans (h.t.output.trans hb.output), by omega, fun k hk hn => ?_⟩⟩
  · subst e2
    rcases e with e | e
    · have := hF _ e; omega
    · omega
  · rcases e with e | e
    · exact .inl e
    · exact .inr (by omega)
  · rcases e with e | e
    · have := hF k e; omega
    · exact e.2
  · exact (ht.block k (by omega) (by omega)).trans ((h.t.block k (by omega) hn).trans (hb.block k hk))
theorem Tch.setCell2 {w : World} {r i j : Nat} (u v : Value) : Tch (fun k => k = r) w ((w.setCell ⟨r, i, none⟩ u).setCell ⟨r, j, none⟩ v) :=
  (Tch.setCell (fun k => k = r) _ _ _ _ (.inl rfl)).trans (Tch.setCell _ _ _ _ _ (.inl (.inl rfl)))
theorem setCell_comm (w : World) (g i j : Nat) (u v : Value) (h : i ≠ j) : (w.setCell ⟨g, i, none⟩ u).setCell ⟨g, j, none⟩ v = (w.setCell ⟨g, j, none⟩ v).setCell ⟨g, i, none⟩ u := by
  unfold World.setCell
  simp only
  congr 1
  apply Array.ext
  · simp
  · intro k h1 h2
    simp only [Array.getElem_modify]
    by_cases hk : g = k
    · subst hk
      simp only [if_true]
      cases hw : w.heap[g]'(by simpa using h1) with
      | cells c elem fr => simp [Array.setIfInBounds_comm _ _ h]
      | _ => rfl
    · simp [hk]
/-- An element of an own slice of places. -/
theorem OwnP.get {w : World} {base : Nat} {A : Option Addr} {n c : Nat} {l : List Pl} (h : OwnP w base A n c l) {k : Nat} {p : Pl} (hk : l[k]? = some p) :
    ∃ g off, A = some ⟨g, off, none⟩ ∧ w.cell? ⟨g, off + k * 2, none⟩ = some (.int .i64 p.1) ∧ w.cell? ⟨g, off + k * 2 + 1, none⟩ = some (.int .i64 p.2) := by
  have hkl : k < l.length := (List.getElem?_eq_some_iff.1 hk).1
  have hn := h.len
  have hcells : ∀ (l : List Pl) (k : Nat) (p : Pl), l[k]? = some p → (pc l)[k * 2]? = some (.int .i64 p.1) ∧ (pc l)[k * 2 + 1]? = some (.int .i64 p.2) := by
    intro l
    induction l with
    | nil => intro k p h; simp at h
    | cons q r ih =>
      intro k p h
      cases k with
      | zero => simp at h; subst h; exact ⟨rfl, rfl⟩
      | succ k => rw [show (k + 1) * 2 = k * 2 + 2 by omega]; exact ih k p h
  obtain ⟨h1, h2⟩ := hcells l k p hk
  rcases h.2.2.2 with h0 | ⟨g, off, cur, hA, _⟩
  · have := h.2.1; omega
  · obtain ⟨ad, hA', hc⟩ := (Own.rd h).2 (by omega)
    rw [hA] at hA'; injection hA' with hA'; subst hA'
    refine ⟨g, off, hA, ?_, ?_⟩
    · have := hc _ _ h1; rwa [add_plain] at this
    · have := hc _ _ h2; rwa [add_plain, ← Nat.add_assoc] at this
theorem OwnP.cellAt {w : World} {base : Nat} {g off n c : Nat} {l : List Pl} (h : OwnP w base (some ⟨g, off, none⟩) n c l) {k : Nat} {p : Pl} (hk : l[k]? = some p) :
    w.cell? ⟨g, off + k * 2, none⟩ = some (.int .i64 p.1) ∧ w.cell? ⟨g, off + k * 2 + 1, none⟩ = some (.int .i64 p.2) := by
  obtain ⟨g', off', e, h1, h2⟩ := OwnP.get h hk
  injection e with e
  injection e with e1 e2
  subst e1; subst e2
  exact ⟨h1, h2⟩
theorem OwnP.takeRd {w : World} {base : Nat} {A : Option Addr} {n c : Nat} {l : List Pl} (h : OwnP w base A n c l) {k : Nat} (hk : k ≤ n) : RdP w A k (l.take k) := by
  have := Rd.take_ (w := w) (Own.rd h) (q := k) hk
  rw [pc_take] at this
  exact this
set_option maxRecDepth 100000 in
set_option maxHeartbeats 1000000 in
theorem back45 (g : Nat) (F : Nat → Prop) (s : NS) (w : World) (h : NavAt w g F s) (hl : s.bh.length ≤ 99) (hl2 : s.ah.length ≤ 99) :
    Calls Try.prog 45 #[.pointer (some ⟨g, 0, none⟩)] w fun e w' => e = .returned (.tuple #[plV s.back.1, .int .i64 (s.back.2.1 : Int)]) ∧ NavTo w w' g F s.back.2.2 := by
  obtain ⟨A1, n1, c1, A2, n2, c2, A3, n3, c3, h⟩ := h
  obtain ⟨a0, a1, a2, a3, a4, a5, a6, af⟩ := nav_cells h.heap
  have hg := h.glt
  have hln := h.o1.len
  have hmix := try_mixed
  cases hb : s.bh.getLast? with
  | none =>
    have e : s.bh = [] := by simpa using hb
    have ht : Hd (s.back = ((0, 0), 3, s)) := ⟨by simp [NS.back, hb]⟩
    obtain rfl : n1 = 0 := by rw [e] at hln; simpa using hln.symm
    have N0 := (NavT.refl h).below (below_alloc w (.cells #[.int .i64 0, .int .i64 0] 58))
    rw [ht.out]
    clear hln hb
    go_enter Try.func45, Try.ntmps45
    go_wp2_with (first
      | (go_at_call 96; refine (is96 g _ (h.alloc _).made).mono ?_; rintro e w' ⟨rfl, rfl⟩))
    (try simp only [Exit.inBlock, Exit.then])
    refine bodyPost_ret (v := .tuple #[plV (0, 0), .int .i64 3]) ?_ rfl ⟨rfl, N0.to⟩
    rw [results_cell_tmp rfl]
    simp [asAddr, Result.andThen]
    rw [run_loadVar_row _ _ 58 58 #[.int .i64 0, .int .i64 0] (0, 0) _ (heap_alloc_new w _) Try.underlying58 rfl (by kernel_rfl)]
    rfl
  | some p =>
    have e := getLast?_split hb
    obtain ⟨k, rfl⟩ : ∃ k, n1 = k + 1 := ⟨n1 - 1, by rw [e] at hln; simp at hln; omega⟩
    have hk : k ≤ 98 := by omega
    have ht : Hd (s.back = (p, 0, { s with now := p, bh := s.bh.dropLast, ah := s.now :: s.ah })) := ⟨by simp [NS.back, hb]⟩
    have hget : s.bh[k]? = some p := by
      have hd : s.bh.dropLast.length = k := by rw [List.length_dropLast]; omega
      rw [e, List.getElem?_append_right (by omega), hd]; simp
    obtain ⟨G1, off, rfl, p0, p1⟩ := OwnP.get h.o1 hget
    have hG1 : G1 < w.heap.size := cell_lt p0
    have hn2 : n2 ≤ 99 := by rw [← h.o2.len]; exact hl2
    have hle := (Own.le h.o1).1
    have HB := Hd.mk (below_alloc w (.cells #[.int .i64 0, .int .i64 0] 58))
    have C0 := h.below HB.out
    rw [ht.out]
    have hdl : Hd ((s.bh.take k) = s.bh.dropLast) := ⟨by rw [List.dropLast_eq_take]; congr 1; omega⟩
    clear hln hb e
    go_enter Try.func45, Try.ntmps45
    go_wp2_with (first
      | (go_at_call 96; refine (is96 g _ (h.alloc _).made).mono ?_; rintro e w' ⟨rfl, rfl⟩))
    have hheap0 := C0.heap
    have hres0 := Hd.mk (heap_alloc_new w (.cells #[.int .i64 0, .int .i64 0] 58))
    have hsz0 : Hd ((w.alloc (.cells #[.int .i64 0, .int .i64 0] 58)).heap.size = w.heap.size + 1) := ⟨by simp⟩
    have hp00 := Hd.mk ((HB.out.cell (p := ⟨G1, off + k * 2, none⟩) hG1).trans p0)
    have hp01 := Hd.mk ((HB.out.cell (p := ⟨G1, off + k * 2 + 1, none⟩) hG1).trans p1)
    clear a0 a1 a2 a3 a4 a5 a6 af
    generalize w.alloc (.cells #[.int .i64 0, .int .i64 0] 58) = w0 at *
    refine region_zone 14 [false, false, false, false, false, false, false, false, false, false, false, false, false, false] (by kernel_rfl) (by kernel_rfl) hmix (fun w' => w'.heap[g]? = some (.cells #[.int .i64 1, .int .i64 (if s.has then 1 else 0), .int .i64 s.now.1, .int .i64 s.now.2, .slice (some ⟨G1, off, none⟩) (k + 1) c1, .slice A2 n2 c2, .slice A3 n3 c3] 78 (0, 0))) [13] ?_ (fun hS => ?_)
    · exact hheap0
    refine wpAnyZ_take0 (i := 0) (oi := ⟨_, _, _, _, _, _⟩) (v := ?_) rfl (by decide +kernel) (fun _ _ _ h => h) (Or.inl ⟨by rfl, ?_⟩) (fun _ => hS) ?_
    rotate_left
    focus (intro w _; go_simp; (try with_reducible rfl); done)
    simp only [Act.put, List.setIfInBounds_toArray, List.set_cons_zero, List.set_cons_succ]
    refine wpAnyZ_take0 (i := 1) (oi := ⟨_, _, _, _, _, _⟩) (v := ?_) rfl (by decide +kernel) (fun _ _ _ h => h) (Or.inl ⟨by rfl, ?_⟩) (fun _ => hS) ?_
    rotate_left
    focus (intro w _; go_simp; (try with_reducible rfl); done)
    simp only [Act.put, List.setIfInBounds_toArray, List.set_cons_zero, List.set_cons_succ]
    refine wpAnyZ_take0 (i := 2) (oi := ⟨_, _, _, _, _, _⟩) (v := ?_) rfl (by decide +kernel) (fun _ _ _ h => h) (Or.inl ⟨by rfl, ?_⟩) (fun _ => hS) ?_
    rotate_left
    focus (intro w _; go_simp; (try with_reducible rfl); done)
    simp only [Act.put, List.setIfInBounds_toArray, List.set_cons_zero, List.set_cons_succ]
    refine wpAnyZ_take0 (i := 3) (oi := ⟨_, _, _, _, _, _⟩) (v := ?_) rfl (by decide +kernel) (fun _ _ _ h => h) (Or.inl ⟨by rfl, ?_⟩) (fun _ => hS) ?_
    rotate_left
    focus (intro w _; go_simp; (try with_reducible rfl); done)
    simp only [Act.put, List.setIfInBounds_toArray, List.set_cons_zero, List.set_cons_succ]
    refine wpAnyZ_take (i := 4) (oi := ⟨_, _, _, _, _, _⟩) (v := ?_) rfl (by decide +kernel) (fun _ _ _ h => h) (Or.inl ⟨by rfl, ?_⟩) hS ?_
    rotate_left
    focus (intro w hSw; (try dsimp only at hSw); obtain ⟨z0, z1, z2, z3, z4, z5, z6, zf⟩ := nav_cells hSw; clear hSw; go_simp; (try with_reducible rfl); done)
    simp only [Act.put, List.setIfInBounds_toArray, List.set_cons_zero, List.set_cons_succ]
    refine wpAnyZ_take0 (i := 5) (oi := ⟨_, _, _, _, _, _⟩) (v := ?_) rfl (by decide +kernel) (fun _ _ _ h => h) (Or.inl ⟨by rfl, ?_⟩) (fun _ => hS) ?_
    rotate_left
    focus (intro w _; go_simp; (try with_reducible rfl); done)
    simp only [Act.put, List.setIfInBounds_toArray, List.set_cons_zero, List.set_cons_succ]
    refine wpAnyZ_take0 (i := 6) (oi := ⟨_, _, _, _, _, _⟩) (v := ?_) rfl (by decide +kernel) (fun _ _ _ h => h) (Or.inl ⟨by rfl, ?_⟩) (fun _ => hS) ?_
    rotate_left
    focus (intro w _; go_simp; (try with_reducible rfl); done)
    simp only [Act.put, List.setIfInBounds_toArray, List.set_cons_zero, List.set_cons_succ]
    refine wpAnyZ_take0 (i := 7) (oi := ⟨_, _, _, _, _, _⟩) (v := ?_) rfl (by decide +kernel) (fun _ _ _ h => h) (Or.inl ⟨by rfl, ?_⟩) (fun _ => hS) ?_
    rotate_left
    focus (intro w _; go_simp; (try with_reducible rfl); done)
    simp only [Act.put, List.setIfInBounds_toArray, List.set_cons_zero, List.set_cons_succ]
    refine wpAnyZ_take (i := 8) (oi := ⟨_, _, _, _, _, _⟩) (v := ?_) rfl (by decide +kernel) (fun _ _ _ h => h) (Or.inl ⟨by rfl, ?_⟩) hS ?_
    rotate_left
    focus (intro w hSw; (try dsimp only at hSw); obtain ⟨z0, z1, z2, z3, z4, z5, z6, zf⟩ := nav_cells hSw; clear hSw; go_simp; (try with_reducible rfl); done)
    simp only [Act.put, List.setIfInBounds_toArray, List.set_cons_zero, List.set_cons_succ]
    refine wpAnyZ_one (i := 9) rfl (by decide +kernel) (fun K hKK => ?_)
    go_simp
    clear hS
    have hS := (C0.drew.alloc (.cells #[.int .i64 s.now.1, .int .i64 s.now.2] 58)).heap
    refine hKK.out _ _ (fun _ => hS) ?_
    clear hKK
    have hB1 := (below_drew w0).trans (below_alloc w0.drew (.cells #[.int .i64 s.now.1, .int .i64 s.now.2] 58))
    have hC1 := Hd.mk (C0.below hB1)
    have hnew := Hd.mk (heap_alloc_new w0.drew (.cells #[.int .i64 s.now.1, .int .i64 s.now.2] 58))
    refine wpAnyZ_one (i := 10) rfl (by decide +kernel) (fun K hKK => ?_)
    go_simp
    refine (insert98 A2 n2 c2 s.ah s.now w0.heap.size _ _ hC1.out.o2 (by omega) (RdP.new _ [s.now] rfl rfl) hnew.out (fun q hq e => by have := C0.lt q (C0.f2 q hq); omega)).mono ?_
    rintro e w1 ⟨A', c', rfl, hs⟩
    have N1 := (NavT.refl C0).st2 hB1 hs
    have hheap := Hd.mk (((NavT.refl C0).heap hB1 hs C0.ne2).trans C0.heap)
    clear hS
    have hS := hheap.out
    refine hKK.out _ _ (fun _ => hS) ?_
    clear hKK
    simp only [List.setIfInBounds_toArray, List.set_cons_zero, List.set_cons_succ]
    refine wpAnyZ_take0 (i := 11) (oi := ⟨_, _, _, _, _, _⟩) (v := ?_) rfl (by decide +kernel) (fun _ _ _ h => h) (Or.inl ⟨by rfl, ?_⟩) (fun _ => hS) ?_
    rotate_left
    focus (intro w _; go_simp; (try with_reducible rfl); done)
    simp only [Act.put, List.setIfInBounds_toArray, List.set_cons_zero, List.set_cons_succ]
    refine wpAnyZ_take0 (i := 12) (oi := ⟨_, _, _, _, _, _⟩) (v := ?_) rfl (by decide +kernel) (fun _ _ _ h => h) (Or.inl ⟨by rfl, ?_⟩) (fun _ => hS) ?_
    rotate_left
    focus (intro w _; go_simp; (try with_reducible rfl); done)
    simp only [Act.put, List.setIfInBounds_toArray, List.set_cons_zero, List.set_cons_succ]
    refine wpAnyZ_one (i := 13) rfl (by decide +kernel) (fun K hKK => ?_)
    obtain ⟨b0, b1, b2, b3, b4, b5, b6, bf⟩ := nav_cells hheap.out
    go_simp
    refine hKK.out _ _ (fun hz => absurd hz (by decide +kernel)) ?_
    clear hKK
    refine wpAnyZ_done (by decide +kernel) ?_
    have hres1 := Hd.mk ((heap_setCell_other w1 ⟨g, 5, none⟩ w.heap.size (.slice A' (n2 + 1) c') (by simp; omega)).trans (((hs.tch.block w.heap.size (by have := hsz0.out; simp; omega) (fun e => by have := h.lt _ (h.f2 _ e); omega)).trans (hB1.block w.heap.size (by have := hsz0.out; omega))).trans hres0.out))
    clear b0 b1 b2 b3 b4 b5 b6 bf hheap hs hS hB1 hC1 hnew hp00 hp01 hres0 hheap0
    generalize w1.setCell ⟨g, 5, none⟩ (.slice A' (n2 + 1) c') = w2 at N1 hres1 ⊢
    have hc1 := OwnP.cellAt N1.c.o1 hget
    have hrk := Hd.mk (OwnP.takeRd N1.c.o1 (k := k) (by omega))
    have hlt2 := Hd.mk (cell_lt hc1.1)
    clear p0 p1
    have hki : ((k : Nat) : Int) < ((k : Nat) : Int) + 1 := by omega
    have hki0 : (0 : Int) ≤ (k : Int) := by omega
    have hkc : (k : Int) ≤ (c1 : Int) := by omega
    have hkc1 : k ≤ c1 := by omega
    have hhh := N1.c.heap
    simp only at hhh
    go_wp2_with fail
    refine region_zone 22 [false, false, false, false, false, false, false, false, false, false, false, false, false, false, false, false, false, false, false, false, false, false] (by kernel_rfl) (by kernel_rfl) hmix (fun w' => w'.heap[g]? = some (.cells #[.int .i64 1, .int .i64 (if s.has then 1 else 0), .int .i64 s.now.1, .int .i64 s.now.2, .slice (some ⟨G1, off, none⟩) (k + 1) c1, .slice A' (n2 + 1) c', .slice A3 n3 c3] 78 (0, 0)) ∧ w'.cell? ⟨G1, off + k * 2, none⟩ = some (.int .i64 p.1) ∧ w'.cell? ⟨G1, off + k * 2 + 1, none⟩ = some (.int .i64 p.2)) [18, 21] ?_ (fun hS => ?_)
    · exact ⟨hhh, hc1⟩
    refine wpAnyZ_take0 (i := 0) (oi := ⟨_, _, _, _, _, _⟩) (v := ?_) rfl (by decide +kernel) (fun _ _ _ h => h) (Or.inl ⟨by rfl, ?_⟩) (fun _ => hS) ?_
    rotate_left
    focus (intro w _; go_simp; (try with_reducible rfl); done)
    simp only [Act.put, List.setIfInBounds_toArray, List.set_cons_zero, List.set_cons_succ]
    refine wpAnyZ_take0 (i := 1) (oi := ⟨_, _, _, _, _, _⟩) (v := ?_) rfl (by decide +kernel) (fun _ _ _ h => h) (Or.inl ⟨by rfl, ?_⟩) (fun _ => hS) ?_
    rotate_left
    focus (intro w _; go_simp; (try with_reducible rfl); done)
    simp only [Act.put, List.setIfInBounds_toArray, List.set_cons_zero, List.set_cons_succ]
    refine wpAnyZ_take0 (i := 2) (oi := ⟨_, _, _, _, _, _⟩) (v := ?_) rfl (by decide +kernel) (fun _ _ _ h => h) (Or.inl ⟨by rfl, ?_⟩) (fun _ => hS) ?_
    rotate_left
    focus (intro w _; go_simp; (try with_reducible rfl); done)
    simp only [Act.put, List.setIfInBounds_toArray, List.set_cons_zero, List.set_cons_succ]
    refine wpAnyZ_take0 (i := 3) (oi := ⟨_, _, _, _, _, _⟩) (v := ?_) rfl (by decide +kernel) (fun _ _ _ h => h) (Or.inl ⟨by rfl, ?_⟩) (fun _ => hS) ?_
    rotate_left
    focus (intro w _; go_simp; (try with_reducible rfl); done)
    simp only [Act.put, List.setIfInBounds_toArray, List.set_cons_zero, List.set_cons_succ]
    refine wpAnyZ_take0 (i := 4) (oi := ⟨_, _, _, _, _, _⟩) (v := ?_) rfl (by decide +kernel) (fun _ _ _ h => h) (Or.inl ⟨by rfl, ?_⟩) (fun _ => hS) ?_
    rotate_left
    focus (intro w _; go_simp; (try with_reducible rfl); done)
    simp only [Act.put, List.setIfInBounds_toArray, List.set_cons_zero, List.set_cons_succ]
    refine wpAnyZ_take (i := 5) (oi := ⟨_, _, _, _, _, _⟩) (v := ?_) rfl (by decide +kernel) (fun _ _ _ h => h) (Or.inl ⟨by rfl, ?_⟩) hS ?_
    rotate_left
    focus (intro w hSw; (try dsimp only at hSw); obtain ⟨hSw, y0, y1⟩ := hSw; obtain ⟨z0, z1, z2, z3, z4, z5, z6, zf⟩ := nav_cells hSw; clear hSw; go_simp; (try with_reducible rfl); done)
    simp only [Act.put, List.setIfInBounds_toArray, List.set_cons_zero, List.set_cons_succ]
    refine wpAnyZ_take0 (i := 6) (oi := ⟨_, _, _, _, _, _⟩) (v := ?_) rfl (by decide +kernel) (fun _ _ _ h => h) (Or.inl ⟨by rfl, ?_⟩) (fun _ => hS) ?_
    rotate_left
    focus (intro w _; go_simp; (try with_reducible rfl); done)
    simp only [Act.put, List.setIfInBounds_toArray, List.set_cons_zero, List.set_cons_succ]
    refine wpAnyZ_take0 (i := 7) (oi := ⟨_, _, _, _, _, _⟩) (v := ?_) rfl (by decide +kernel) (fun _ _ _ h => h) (Or.inl ⟨by rfl, ?_⟩) (fun _ => hS) ?_
    rotate_left
    focus (intro w _; go_simp; (try with_reducible rfl); done)
    simp only [Act.put, List.setIfInBounds_toArray, List.set_cons_zero, List.set_cons_succ]
    refine wpAnyZ_take (i := 8) (oi := ⟨_, _, _, _, _, _⟩) (v := ?_) rfl (by decide +kernel) (fun _ _ _ h => h) (Or.inl ⟨by rfl, ?_⟩) hS ?_
    rotate_left
    focus (intro w hSw; (try dsimp only at hSw); obtain ⟨hSw, y0, y1⟩ := hSw; obtain ⟨z0, z1, z2, z3, z4, z5, z6, zf⟩ := nav_cells hSw; clear hSw; go_simp; (try with_reducible rfl); done)
    simp only [Act.put, List.setIfInBounds_toArray, List.set_cons_zero, List.set_cons_succ]
    refine wpAnyZ_take0 (i := 9) (oi := ⟨_, _, _, _, _, _⟩) (v := ?_) rfl (by decide +kernel) (fun _ _ _ h => h) (Or.inl ⟨by rfl, ?_⟩) (fun _ => hS) ?_
    rotate_left
    focus (intro w _; go_simp; (try with_reducible rfl); done)
    simp only [Act.put, List.setIfInBounds_toArray, List.set_cons_zero, List.set_cons_succ]
    refine wpAnyZ_take0 (i := 10) (oi := ⟨_, _, _, _, _, _⟩) (v := ?_) rfl (by decide +kernel) (fun _ _ _ h => h) (Or.inl ⟨by rfl, ?_⟩) (fun _ => hS) ?_
    rotate_left
    focus (intro w _; go_simp; (try with_reducible rfl); done)
    simp only [Act.put, List.setIfInBounds_toArray, List.set_cons_zero, List.set_cons_succ]
    refine wpAnyZ_take0 (i := 11) (oi := ⟨_, _, _, _, _, _⟩) (v := ?_) rfl (by decide +kernel) (fun _ _ _ h => h) (Or.inl ⟨by rfl, ?_⟩) (fun _ => hS) ?_
    rotate_left
    focus (intro w _; go_simp; (try with_reducible rfl); done)
    simp only [Act.put, List.setIfInBounds_toArray, List.set_cons_zero, List.set_cons_succ]
    refine wpAnyZ_take (i := 12) (oi := ⟨_, _, _, _, _, _⟩) (v := ?_) rfl (by decide +kernel) (fun _ _ _ h => h) (Or.inl ⟨by rfl, ?_⟩) hS ?_
    rotate_left
    focus (intro w hSw; (try dsimp only at hSw); obtain ⟨hSw, y0, y1⟩ := hSw; obtain ⟨z0, z1, z2, z3, z4, z5, z6, zf⟩ := nav_cells hSw; clear hSw; go_simp; (try with_reducible rfl); done)
    simp only [Act.put, List.setIfInBounds_toArray, List.set_cons_zero, List.set_cons_succ]
    refine wpAnyZ_take0 (i := 13) (oi := ⟨_, _, _, _, _, _⟩) (v := ?_) rfl (by decide +kernel) (fun _ _ _ h => h) (Or.inl ⟨by rfl, ?_⟩) (fun _ => hS) ?_
    rotate_left
    focus (intro w _; go_simp; (try with_reducible rfl); done)
    simp only [Act.put, List.setIfInBounds_toArray, List.set_cons_zero, List.set_cons_succ]
    refine wpAnyZ_take0 (i := 14) (oi := ⟨_, _, _, _, _, _⟩) (v := ?_) rfl (by decide +kernel) (fun _ _ _ h => h) (Or.inl ⟨by rfl, ?_⟩) (fun _ => hS) ?_
    rotate_left
    focus (intro w _; go_simp; (try with_reducible rfl); done)
    simp only [Act.put, List.setIfInBounds_toArray, List.set_cons_zero, List.set_cons_succ]
    refine wpAnyZ_one (i := 15) rfl (by decide +kernel) (fun K hKK => ?_)
    go_simp
    refine (clone99 (some ⟨G1, off, none⟩) k c1 (s.bh.take k) _ hrk.out.drew (by omega) (fun e => by cases e)).mono ?_
    rintro e w3 ⟨B, cb, rfl, ho, hb3⟩
    have hg2 := N1.c.glt
    have hcc := Hd.mk (And.intro ((hb3.cell (p := ⟨G1, off + k * 2, none⟩) hlt2.out).trans hc1.1) ((hb3.cell (p := ⟨G1, off + k * 2 + 1, none⟩) hlt2.out).trans hc1.2))
    have hh3 := Hd.mk ((hb3.block g hg2).trans hhh)
    clear hS
    have hS := And.intro hh3.out hcc.out
    refine hKK.out _ _ (fun _ => hS) ?_
    clear hKK
    rw [hdl.out] at ho
    have N2 := (N1.st1 (below_drew w2) (Slot.fresh ho hb3)).now p
    have hres3 := Hd.mk ((hb3.block w.heap.size (Array.getElem?_eq_some_iff.1 hres1.out).1).trans hres1.out)
    rw [setCell_comm w3 g 4 2 _ _ (by decide), setCell_comm _ g 4 3 _ _ (by decide)] at N2
    have N3 := Hd.mk N2
    have hs2 := Hd.mk (heap_setCell_same w3 g 2 _ 78 (.int .i64 p.1) hh3.out)
    have hs3 := Hd.mk (heap_setCell_same _ g 3 _ 78 (.int .i64 p.2) hs2.out)
    have hs4 := Hd.mk (heap_setCell_same _ g 4 _ 78 (.slice B k cb) hs3.out)
    have hr4 := Hd.mk (((heap_setCell_other ((w3.setCell ⟨g, 2, none⟩ (.int .i64 p.1)).setCell ⟨g, 3, none⟩ (.int .i64 p.2)) ⟨g, 4, none⟩ w.heap.size (.slice B k cb) (by simp; omega)).trans ((heap_setCell_other (w3.setCell ⟨g, 2, none⟩ (.int .i64 p.1)) ⟨g, 3, none⟩ w.heap.size (.int .i64 p.2) (by simp; omega)).trans (heap_setCell_other w3 ⟨g, 2, none⟩ w.heap.size (.int .i64 p.1) (by simp; omega)))).trans hres3.out)
    clear N2 hb3 ho hcc
    simp only [List.setIfInBounds_toArray, List.set_cons_zero, List.set_cons_succ]
    refine wpAnyZ_take0 (i := 16) (oi := ⟨_, _, _, _, _, _⟩) (v := ?_) rfl (by decide +kernel) (fun _ _ _ h => h) (Or.inl ⟨by rfl, ?_⟩) (fun _ => hS) ?_
    rotate_left
    focus (intro w _; go_simp; (try with_reducible rfl); done)
    simp only [Act.put, List.setIfInBounds_toArray, List.set_cons_zero, List.set_cons_succ]
    refine wpAnyZ_take0 (i := 17) (oi := ⟨_, _, _, _, _, _⟩) (v := ?_) rfl (by decide +kernel) (fun _ _ _ h => h) (Or.inl ⟨by rfl, ?_⟩) (fun _ => hS) ?_
    rotate_left
    focus (intro w _; go_simp; (try with_reducible rfl); done)
    simp only [Act.put, List.setIfInBounds_toArray, List.set_cons_zero, List.set_cons_succ]
    refine wpAnyZ_one (i := 18) rfl (by decide +kernel) (fun K hKK => ?_)
    obtain ⟨b0, b1, b2, b3, b4, b5, b6, bf⟩ := nav_cells hh3.out
    go_simp
    clear b0 b1 b2 b3 b4 b5 b6 bf
    refine hKK.out _ _ (fun hz => absurd hz (by decide +kernel)) ?_
    clear hKK
    refine wpAnyZ_take0 (i := 19) (oi := ⟨_, _, _, _, _, _⟩) (v := ?_) rfl (by decide +kernel) (fun _ _ _ h => h) (Or.inl ⟨by rfl, ?_⟩) (fun hz => absurd hz (by decide +kernel)) ?_
    rotate_left
    focus (intro w _; go_simp; (try with_reducible rfl); done)
    simp only [Act.put, List.setIfInBounds_toArray, List.set_cons_zero, List.set_cons_succ]
    refine wpAnyZ_take0 (i := 20) (oi := ⟨_, _, _, _, _, _⟩) (v := ?_) rfl (by decide +kernel) (fun _ _ _ h => h) (Or.inl ⟨by rfl, ?_⟩) (fun hz => absurd hz (by decide +kernel)) ?_
    rotate_left
    focus (intro w _; go_simp; (try with_reducible rfl); done)
    simp only [Act.put, List.setIfInBounds_toArray, List.set_cons_zero, List.set_cons_succ]
    refine wpAnyZ_one (i := 21) rfl (by decide +kernel) (fun K hKK => ?_)
    have hq := hs3.out
    simp only [List.setIfInBounds_toArray, List.set_cons_zero, List.set_cons_succ] at hq
    obtain ⟨b0, b1, b2, b3, b4, b5, b6, bf⟩ := nav_cells hq
    go_simp
    clear b0 b1 b2 b3 b4 b5 b6 bf hq
    refine hKK.out _ _ (fun hz => absurd hz (by decide +kernel)) ?_
    clear hKK
    refine wpAnyZ_done (by decide +kernel) ?_
    have hq := hs4.out
    simp only [List.setIfInBounds_toArray, List.set_cons_zero, List.set_cons_succ] at hq
    clear hh3 hs2 hs3 hs4 hres3 hS hhh hc1 hrk
    generalize ((w3.setCell ⟨g, 2, none⟩ (.int .i64 p.1)).setCell ⟨g, 3, none⟩ (.int .i64 p.2)).setCell ⟨g, 4, none⟩ (.slice B k cb) = w4 at N3 hq hr4 ⊢
    obtain ⟨b0, b1, b2, b3, b4, b5, b6, bf⟩ := nav_cells hq
    have hrf := frozen_of_row w4 w.heap.size 0 _ _ hr4.out
    have hrf1 := frozen_of_row w4 w.heap.size 1 _ _ hr4.out
    have hrc := cell_of_row w4 w.heap.size 0 _ _ _ hr4.out
    have hrc1 := cell_of_row w4 w.heap.size 1 _ _ _ hr4.out
    simp only [List.getElem?_toArray, List.getElem?_cons_zero, List.getElem?_cons_succ] at hrc hrc1
    have hm1 := Hd.mk (heap_setCell_same w4 w.heap.size 0 _ 58 (.int .i64 p.1) hr4.out)
    have hm2 := Hd.mk (heap_setCell_same _ w.heap.size 1 _ 58 (.int .i64 p.2) hm1.out)
    clear hq
    go_wp2
    (try simp only [Exit.inBlock, Exit.then])
    refine bodyPost_ret (v := .tuple #[plV p, .int .i64 0]) ?_ rfl ⟨rfl, NavT.res h.lt HB.out N3.out (Nat.le_refl _) (by have := hsz0.out; omega) (Tch.setCell2 _ _)⟩
    rw [results_cell_tmp rfl]
    simp [asAddr, Result.andThen]
    have hm3 := hm2.out
    simp only [List.setIfInBounds_toArray, List.set_cons_zero, List.set_cons_succ] at hm3
    rw [run_loadVar_row _ _ 58 58 #[.int .i64 p.1, .int .i64 p.2] (0, 0) _ hm3 Try.underlying58 rfl (by kernel_rfl)]
    rfl
end Go.Proofs.Ytkgdcglnkodgnaa

