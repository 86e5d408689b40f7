/-
  nav: Drop walked. No condition but sizes.
-/
import Derived.Test.YtkgdcglnkodgnaaNav9
import Derived.Test.YtkgdcglnkodgnaaNav10
import Derived.Test.YtkgdcglnkodgnaaNav11
namespace Go.Proofs.Ytkgdcglnkodgnaa
open Go.RowKit
theorem NavC.st123 {w w3 : World} {g r : Nat} {F : Nat → Prop} {s : NS} {A1 A2 A3 B1 B2 B3 : Option Addr} {n1 c1 n2 c2 n3 c3 m1 d1 m2 d2 m3 d3 : Nat} {l1 l2 l3 : List Pl} (h : NavC w g F s A1 n1 c1 A2 n2 c2 A3 n3 c3)
    (ht : Tch (fun k => k = r) w w3) (hr : ¬ F r) (o1 : OwnP w3 w.heap.size B1 m1 d1 l1) (o2 : OwnP w3 w.heap.size B2 m2 d2 l2) (o3 : OwnP w3 w.heap.size B3 m3 d3 l3)
    (d12 : ∀ k, ownBlk B1 d1 = some k → ownBlk B2 d2 ≠ some k) (d13 : ∀ k, ownBlk B1 d1 = some k → ownBlk B3 d3 ≠ some k) (d23 : ∀ k, ownBlk B2 d2 = some k → ownBlk B3 d3 ≠ some k) :
    NavC (((w3.setCell ⟨g, 4, none⟩ (.slice B1 m1 d1)).setCell ⟨g, 5, none⟩ (.slice B2 m2 d2)).setCell ⟨g, 6, none⟩ (.slice B3 m3 d3)) g (up F w w3) { s with bh := l1, ah := l2, mks := l3 } B1 m1 d1 B2 m2 d2 B3 m3 d3 := by
  have hgg : w3.heap[g]? = w.heap[g]? := ht.block g h.glt (fun e => hr (e ▸ h.fg))
  have e1 := heap_setCell_same w3 g 4 _ 78 (.slice B1 m1 d1) (hgg.trans h.heap)
  have e2 := heap_setCell_same _ g 5 _ 78 (.slice B2 m2 d2) e1
  have e3 := heap_setCell_same _ g 6 _ 78 (.slice B3 m3 d3) e2
  have hgl := h.glt
  have f1 : ∀ {A n c l}, OwnP w3 w.heap.size A n c l → OwnP (((w3.setCell ⟨g, 4, none⟩ (.slice B1 m1 d1)).setCell ⟨g, 5, none⟩ (.slice B2 m2 d2)).setCell ⟨g, 6, none⟩ (.slice B3 m3 d3)) w.heap.size A n c l :=
    fun ho => OwnP.setFar (OwnP.setFar (OwnP.setFar ho hgl _) hgl _) hgl _
  have hz : (((w3.setCell ⟨g, 4, none⟩ (.slice B1 m1 d1)).setCell ⟨g, 5, none⟩ (.slice B2 m2 d2)).setCell ⟨g, 6, none⟩ (.slice B3 m3 d3)).heap.size = w3.heap.size := by simp [World.setCell]
  refine ⟨e3, Own.mono (f1 o1) (Nat.zero_le _), Own.mono (f1 o2) (Nat.zero_le _), Own.mono (f1 o3) (Nat.zero_le _), .inl h.fg, fun k e => .inr (Own.lt o1 e), fun k e => .inr (Own.lt o2 e), fun k e => .inr (Own.lt o3 e), d12, d13, d23, fun k e => ?_⟩
  rw [hz]
  rcases e with e | e
  · have := h.lt k e; have := ht.size; omega
  · exact e.2
/-- Behind some steps of Drop: the reader; the boxes of its own (how many topics, how many are gone). -/
structure DI (w X : World) (g : Nat) (F : Nat → Prop) (u : NS) (y t : Int) : Prop where
  nav : ∃ FX, NavAt X g FX u ∧ ∀ k, FX k → F k ∨ w.heap.size + 2 ≤ k
  tch : Tch F w X
  bt : X.heap[w.heap.size]? = some (.cells #[.int .i64 t] 3 (0, 0))
  bg : X.heap[w.heap.size + 1]? = some (.cells #[.int .i64 y] 3 (0, 0))
  sz : w.heap.size + 2 ≤ X.heap.size
theorem DI.to {w X : World} {g : Nat} {F : Nat → Prop} {u : NS} {y t : Int} (hF : ∀ k, F k → k < w.heap.size) (h : DI w X g F u y t) : NavTo w X g F u := by
  obtain ⟨FX, hn, hFX⟩ := h.nav
  have hs := h.sz
  refine ⟨hn.mono (G := fun k => F k ∨ (w.heap.size ≤ k ∧ k < X.heap.size)) (fun k e => ?_) (fun k e => ?_), h.tch⟩
  · rcases hFX k e with e1 | e1
    · exact .inl e1
    · exact .inr ⟨by omega, hn.lt k e⟩
  · rcases e with e | e
    · have := hF k e; omega
    · exact e.2
theorem DI.go {w X X' : World} {g : Nat} {F FX : Nat → Prop} {u u' : NS} {y t : Int} (hF : ∀ k, F k → k < w.heap.size) (h : DI w X g F u y t) (hFX : ∀ k, FX k → F k ∨ w.heap.size + 2 ≤ k) (hN : NavTo X X' g FX u') : DI w X' g F u' y t := by
  have hs := h.sz
  have hz := hN.2.size
  have hno : ∀ k, w.heap.size ≤ k → k < w.heap.size + 2 → ¬ FX k := fun k h1 h2 e => by
    rcases hFX k e with e | e
    · have := hF k e; omega
    · omega
  refine ⟨⟨_, hN.1, fun k e => ?_⟩, ⟨hN.2.os.trans h.tch.os, hN.2.tape.trans h.tch.tape, hN.2.output.trans h.tch.output, by omega, fun k hk hn => ?_⟩, (hN.2.block _ (by omega) (hno _ (by omega) (by omega))).trans h.bt, (hN.2.block _ (by omega) (hno _ (by omega) (by omega))).trans h.bg, by omega⟩
  · rcases e with e | e
    · exact hFX k e
    · exact .inr (by omega)
  · refine (hN.2.block k (by omega) (fun e => ?_)).trans (h.tch.block k hk hn)
    rcases hFX k e with e | e
    · exact hn e
    · omega
theorem DI.below {w X X' : World} {g : Nat} {F : Nat → Prop} {u : NS} {y t : Int} (hF : ∀ k, F k → k < w.heap.size) (h : DI w X g F u y t) (hb : Below X.heap.size X X') : DI w X' g F u y t := by
  obtain ⟨FX, hn, hFX⟩ := h.nav
  exact h.go hF hFX (NavTo.of_below hn hb)
theorem DI.gone {w X : World} {g : Nat} {F : Nat → Prop} {u : NS} {y t : Int} (hF : ∀ k, F k → k < w.heap.size) (h : DI w X g F u y t) (v : Int) : DI w (X.setCell ⟨w.heap.size + 1, 0, none⟩ (.int .i64 v)) g F u v t := by
  obtain ⟨FX, hn, hFX⟩ := h.nav
  have hs := h.sz
  have ht : Tch (fun k => k = w.heap.size + 1) X (X.setCell ⟨w.heap.size + 1, 0, none⟩ (.int .i64 v)) := Tch.setCell _ _ _ _ _ (.inl rfl)
  refine ⟨⟨FX, hn.keep ht (fun k e e2 => ?_), hFX⟩, ⟨ht.os.trans h.tch.os, ht.tape.trans h.tch.tape, ht.output.trans h.tch.output, by have := h.tch.size; have := ht.size; omega, fun k hk hn => (ht.block k (by omega) (by omega)).trans (h.tch.block k hk hn)⟩, (ht.block _ (by omega) (by omega)).trans h.bt, heap_setCell_same X _ 0 _ 3 (.int .i64 v) h.bg, by have := ht.size; omega⟩
  rcases hFX k e with e | e
  · have := hF k e; omega
  · omega
theorem NavC.in1 {w w' : World} {g : Nat} {F : Nat → Prop} {s : NS} {A1 A2 A3 : Option Addr} {n1 c1 n2 c2 n3 c3 : Nat} {l' : List Pl} (h : NavC w g F s A1 n1 c1 A2 n2 c2 A3 n3 c3) (ho : OwnP w' 0 A1 n1 c1 l') (ht : Tch (fun k => ownBlk A1 c1 = some k) w w') :
    NavT w w' g F { s with bh := l' } A1 n1 c1 A2 n2 c2 A3 n3 c3 := by
  have k2 : ∀ k, ownBlk A2 c2 = some k → w'.heap[k]? = w.heap[k]? := fun k e => ht.block k (h.lt k (h.f2 k e)) (fun e1 => h.d12 k e1 e)
  have k3 : ∀ k, ownBlk A3 c3 = some k → w'.heap[k]? = w.heap[k]? := fun k e => ht.block k (h.lt k (h.f3 k e)) (fun e1 => h.d13 k e1 e)
  exact ⟨⟨(ht.block g h.glt (fun e => h.ne1 g e rfl)).trans h.heap, ho, Own.keep h.o2 fun k e _ _ => k2 k e, Own.keep h.o3 fun k e _ _ => k3 k e, .inl h.fg, fun k e => .inl (h.f1 k e), fun k e => .inl (h.f2 k e), fun k e => .inl (h.f3 k e), h.d12, h.d13, h.d23,
    fun k e => e.elim (fun e => Nat.lt_of_lt_of_le (h.lt k e) ht.size) (fun e => e.2)⟩, ht.mono fun k _ e => h.f1 k e⟩
theorem instead_many {u : NS} (h : u.has = true) : (u.instead.many : Int) = (u.many : Int) - 1 := by
  unfold NS.instead NS.many
  cases hb : u.bh.getLast? with
  | some p =>
    have e := congrArg List.length (getLast?_split hb)
    rw [List.length_append] at e
    simp only [h, if_true, List.length_cons, List.length_nil] at e ⊢
    omega
  | none =>
    have eb : u.bh = [] := by simpa using hb
    cases hr : u.ah with
    | cons p r => simp only [h, if_true, eb, List.length_cons, List.length_nil]; omega
    | nil => simp [h, eb]; omega
set_option maxRecDepth 100000 in
set_option maxHeartbeats 4000000 in
theorem drop50 (g : Nat) (F : Nat → Prop) (s : NS) (t : Int) (w : World) (h : NavAt w g F s) (hi : NInv s) :
    Calls Try.prog 50 #[.pointer (some ⟨g, 0, none⟩), .int .i64 t] w fun e w' => e = .returned (.int .i64 ((s.many : Int) - ((s.drop t).many : Int))) ∧ NavTo w w' g F (s.drop t) := by
  obtain ⟨A1, n1, c1, A2, n2, c2, A3, n3, c3, h⟩ := h
  have hlong := hi.long
  have hmarks := hi.marks
  have hl1 := h.o1.len
  have hl2 := h.o2.len
  have hl3 := h.o3.len
  have hmix := try_mixed
  have hn1 : n1 ≤ 32 := by omega
  have hn2 : n2 ≤ 32 := by omega
  have hn3 : n3 ≤ 16 := by omega
  have hg := h.glt
  have HI := Hd.mk hi
  have HL1 := Hd.mk hl1
  have HL2 := Hd.mk hl2
  have HL3 := Hd.mk hl3
  have HB0 := Hd.mk (below_alloc w (.cells #[.int .i64 t] 3))
  have HB1 := Hd.mk (HB0.out.trans ((below_alloc (w.alloc (.cells #[.int .i64 t] 3)) (.cells #[.int .i64 0] 3)).mono HB0.out.size))
  have hT := Hd.mk ((heap_alloc_old (w.alloc (.cells #[.int .i64 t] 3)) (.cells #[.int .i64 0] 3) (r := w.heap.size) (by simp)).trans (heap_alloc_new w (.cells #[.int .i64 t] 3)))
  have hG := Hd.mk (heap_alloc_new (w.alloc (.cells #[.int .i64 t] 3)) (.cells #[.int .i64 0] 3))
  have hz0 : Hd ((w.alloc (.cells #[.int .i64 t] 3)).heap.size = w.heap.size + 1) := ⟨by simp⟩
  have hz1 : Hd (((w.alloc (.cells #[.int .i64 t] 3)).alloc (.cells #[.int .i64 0] 3)).heap.size = w.heap.size + 1 + 1) := ⟨by simp⟩
  rw [hz0.out] at hG
  clear hi hlong hmarks hl1 hl2 hl3
  go_enter Try.func50, Try.ntmps50
  go_wp2_with (go_at_call 96; refine (is96 g _ (h.alloc _).made).mono ?_; rintro e w' ⟨rfl, rfl⟩)
  generalize (w.alloc (.cells #[.int .i64 t] 3)).alloc (.cells #[.int .i64 0] 3) = w0 at *
  have C0 := h.below HB1.out
  have hh0 := C0.heap
  have hbA : ∀ {A : Option Addr} {n c : Nat} {l : List Pl}, OwnP w 0 A n c l → Hd (∀ ad, A = some ad → 0 < n → ad.block ≠ w.heap.size + 1) := fun {A n c l} ho => ⟨fun ad e hn => by
    obtain ⟨ad', e', hc⟩ := (Own.rd ho).2 hn
    rw [e] at e'; injection e' with e'; subst e'
    have := cell_lt (hc 0 _ (List.getElem?_eq_getElem (by rw [ho.1]; omega)))
    rw [block_add] at this; omega⟩
  have hbA1 := hbA h.o1
  have hbA2 := hbA h.o2
  have hbA3 := hbA h.o3
  clear hbA
  refine region_zone 30 [false, false, false, false, false, false, false, false, false, false, false, false, false, false, false, false, false, false, false, false, false, false, false, false, false, false, false, false, false, false] (by kernel_rfl) (by kernel_rfl) hmix (fun w' => w'.heap[g]? = some (.cells #[.int .i64 1, .int .i64 (if s.has then 1 else 0), .int .i64 s.now.1, .int .i64 s.now.2, .slice A1 n1 c1, .slice A2 n2 c2, .slice A3 n3 c3] 78 (0, 0))) [23, 26, 29] ?_ (fun hS => ?_)
  · exact hh0
  refine wpAnyZ_take0 (i := 0) (oi := ⟨_, _, _, _, _, _⟩) (v := ?_) rfl (by decide +kernel) (fun _ _ _ h => h) (Or.inl ⟨by rfl, ?_⟩) (fun _ => hS) ?_
  rotate_left
  focus (intro w _; go_simp; (try with_reducible rfl); done)
  simp only [Act.put, List.setIfInBounds_toArray, List.set_cons_zero, List.set_cons_succ]
  refine wpAnyZ_take0 (i := 1) (oi := ⟨_, _, _, _, _, _⟩) (v := ?_) rfl (by decide +kernel) (fun _ _ _ h => h) (Or.inl ⟨by rfl, ?_⟩) (fun _ => hS) ?_
  rotate_left
  focus (intro w _; go_simp; (try with_reducible rfl); done)
  simp only [Act.put, List.setIfInBounds_toArray, List.set_cons_zero, List.set_cons_succ]
  refine wpAnyZ_take0 (i := 2) (oi := ⟨_, _, _, _, _, _⟩) (v := ?_) rfl (by decide +kernel) (fun _ _ _ h => h) (Or.inl ⟨by rfl, ?_⟩) (fun _ => hS) ?_
  rotate_left
  focus (intro w _; go_simp; (try with_reducible rfl); done)
  simp only [Act.put, List.setIfInBounds_toArray, List.set_cons_zero, List.set_cons_succ]
  refine wpAnyZ_take0 (i := 3) (oi := ⟨_, _, _, _, _, _⟩) (v := ?_) rfl (by decide +kernel) (fun _ _ _ h => h) (Or.inl ⟨by rfl, ?_⟩) (fun _ => hS) ?_
  rotate_left
  focus (intro w _; go_simp; (try with_reducible rfl); done)
  simp only [Act.put, List.setIfInBounds_toArray, List.set_cons_zero, List.set_cons_succ]
  refine wpAnyZ_take0 (i := 4) (oi := ⟨_, _, _, _, _, _⟩) (v := ?_) rfl (by decide +kernel) (fun _ _ _ h => h) (Or.inl ⟨by rfl, ?_⟩) (fun _ => hS) ?_
  rotate_left
  focus (intro w _; go_simp; (try with_reducible rfl); done)
  simp only [Act.put, List.setIfInBounds_toArray, List.set_cons_zero, List.set_cons_succ]
  refine wpAnyZ_take0 (i := 5) (oi := ⟨_, _, _, _, _, _⟩) (v := ?_) rfl (by decide +kernel) (fun _ _ _ h => h) (Or.inl ⟨by rfl, ?_⟩) (fun _ => hS) ?_
  rotate_left
  focus (intro w _; go_simp; (try with_reducible rfl); done)
  simp only [Act.put, List.setIfInBounds_toArray, List.set_cons_zero, List.set_cons_succ]
  refine wpAnyZ_take0 (i := 6) (oi := ⟨_, _, _, _, _, _⟩) (v := ?_) rfl (by decide +kernel) (fun _ _ _ h => h) (Or.inl ⟨by rfl, ?_⟩) (fun _ => hS) ?_
  rotate_left
  focus (intro w _; go_simp; (try with_reducible rfl); done)
  simp only [Act.put, List.setIfInBounds_toArray, List.set_cons_zero, List.set_cons_succ]
  refine wpAnyZ_take (i := 7) (oi := ⟨_, _, _, _, _, _⟩) (v := ?_) rfl (by decide +kernel) (fun _ _ _ h => h) (Or.inl ⟨by rfl, ?_⟩) hS ?_
  rotate_left
  focus (intro w hSw; (try dsimp only at hSw); obtain ⟨z0, z1, z2, z3, z4, z5, z6, zf⟩ := nav_cells hSw; clear hSw; go_simp; (try with_reducible rfl); done)
  simp only [Act.put, List.setIfInBounds_toArray, List.set_cons_zero, List.set_cons_succ]
  refine wpAnyZ_take0 (i := 9) (oi := ⟨_, _, _, _, _, _⟩) (v := ?_) rfl (by decide +kernel) (fun _ _ _ h => h) (Or.inl ⟨by rfl, ?_⟩) (fun _ => hS) ?_
  rotate_left
  focus (intro w _; go_simp; (try with_reducible rfl); done)
  simp only [Act.put, List.setIfInBounds_toArray, List.set_cons_zero, List.set_cons_succ]
  refine wpAnyZ_take0 (i := 10) (oi := ⟨_, _, _, _, _, _⟩) (v := ?_) rfl (by decide +kernel) (fun _ _ _ h => h) (Or.inl ⟨by rfl, ?_⟩) (fun _ => hS) ?_
  rotate_left
  focus (intro w _; go_simp; (try with_reducible rfl); done)
  simp only [Act.put, List.setIfInBounds_toArray, List.set_cons_zero, List.set_cons_succ]
  refine wpAnyZ_take0 (i := 11) (oi := ⟨_, _, _, _, _, _⟩) (v := ?_) rfl (by decide +kernel) (fun _ _ _ h => h) (Or.inl ⟨by rfl, ?_⟩) (fun _ => hS) ?_
  rotate_left
  focus (intro w _; go_simp; (try with_reducible rfl); done)
  simp only [Act.put, List.setIfInBounds_toArray, List.set_cons_zero, List.set_cons_succ]
  refine wpAnyZ_take0 (i := 12) (oi := ⟨_, _, _, _, _, _⟩) (v := ?_) rfl (by decide +kernel) (fun _ _ _ h => h) (Or.inl ⟨by rfl, ?_⟩) (fun _ => hS) ?_
  rotate_left
  focus (intro w _; go_simp; (try with_reducible rfl); done)
  simp only [Act.put, List.setIfInBounds_toArray, List.set_cons_zero, List.set_cons_succ]
  refine wpAnyZ_take (i := 13) (oi := ⟨_, _, _, _, _, _⟩) (v := ?_) rfl (by decide +kernel) (fun _ _ _ h => h) (Or.inl ⟨by rfl, ?_⟩) hS ?_
  rotate_left
  focus (intro w hSw; (try dsimp only at hSw); obtain ⟨z0, z1, z2, z3, z4, z5, z6, zf⟩ := nav_cells hSw; clear hSw; go_simp; (try with_reducible rfl); done)
  simp only [Act.put, List.setIfInBounds_toArray, List.set_cons_zero, List.set_cons_succ]
  refine wpAnyZ_take0 (i := 15) (oi := ⟨_, _, _, _, _, _⟩) (v := ?_) rfl (by decide +kernel) (fun _ _ _ h => h) (Or.inl ⟨by rfl, ?_⟩) (fun _ => hS) ?_
  rotate_left
  focus (intro w _; go_simp; (try with_reducible rfl); done)
  simp only [Act.put, List.setIfInBounds_toArray, List.set_cons_zero, List.set_cons_succ]
  refine wpAnyZ_take0 (i := 16) (oi := ⟨_, _, _, _, _, _⟩) (v := ?_) rfl (by decide +kernel) (fun _ _ _ h => h) (Or.inl ⟨by rfl, ?_⟩) (fun _ => hS) ?_
  rotate_left
  focus (intro w _; go_simp; (try with_reducible rfl); done)
  simp only [Act.put, List.setIfInBounds_toArray, List.set_cons_zero, List.set_cons_succ]
  refine wpAnyZ_take0 (i := 17) (oi := ⟨_, _, _, _, _, _⟩) (v := ?_) rfl (by decide +kernel) (fun _ _ _ h => h) (Or.inl ⟨by rfl, ?_⟩) (fun _ => hS) ?_
  rotate_left
  focus (intro w _; go_simp; (try with_reducible rfl); done)
  simp only [Act.put, List.setIfInBounds_toArray, List.set_cons_zero, List.set_cons_succ]
  refine wpAnyZ_take0 (i := 18) (oi := ⟨_, _, _, _, _, _⟩) (v := ?_) rfl (by decide +kernel) (fun _ _ _ h => h) (Or.inl ⟨by rfl, ?_⟩) (fun _ => hS) ?_
  rotate_left
  focus (intro w _; go_simp; (try with_reducible rfl); done)
  simp only [Act.put, List.setIfInBounds_toArray, List.set_cons_zero, List.set_cons_succ]
  refine wpAnyZ_take (i := 19) (oi := ⟨_, _, _, _, _, _⟩) (v := ?_) rfl (by decide +kernel) (fun _ _ _ h => h) (Or.inl ⟨by rfl, ?_⟩) hS ?_
  rotate_left
  focus (intro w hSw; (try dsimp only at hSw); obtain ⟨z0, z1, z2, z3, z4, z5, z6, zf⟩ := nav_cells hSw; clear hSw; go_simp; (try with_reducible rfl); done)
  simp only [Act.put, List.setIfInBounds_toArray, List.set_cons_zero, List.set_cons_succ]
  refine wpAnyZ_one (i := 8) rfl (by decide +kernel) (fun K hKK => ?_)
  go_simp
  refine (left102 A1 n1 c1 s.bh w.heap.size (w.heap.size + 1) t 0 _ (Own.rd C0.drew.o1) (by omega) hT.out hG.out (by omega) hbA1.out (by omega) (by omega)).mono ?_
  rintro e w1 ⟨B1, m1, d1, rfl, o1, g1, t1⟩
  have hnF : ∀ k, F k → k ≠ w.heap.size + 1 := fun k e => by have := h.lt k e; omega
  have hq1 := Hd.mk ((t1.block g C0.glt (fun e => hnF g h.fg e)).trans hh0)
  clear hS
  have hS := hq1.out
  refine hKK.out _ _ (fun _ => hS) ?_
  clear hKK
  have hlb := (leftP_sub t s.bh).length_le
  have hla := (leftP_sub t s.ah).length_le
  have hlm := (leftP_sub t s.mks).length_le
  have hy1 : ∃ y1 : Int, Hd (y1 = 0 + ((n1 : Int) - (leftP t s.bh).length)) ∧ 0 ≤ y1 ∧ y1 ≤ 32 := ⟨_, ⟨rfl⟩, by have := HL1.out; omega, by have := HL1.out; omega⟩
  obtain ⟨y1, hy1, hy10, hy11⟩ := hy1
  rw [← hy1.out] at g1
  have hT1 := Hd.mk ((t1.block w.heap.size (by have := hz1.out; simp; omega) (by omega)).trans hT.out)
  have C1 := C0.drew.keep t1 (fun k e => hnF k e)
  have hG1 := Hd.mk g1
  have ht1 := Hd.mk t1
  have ho1 := Hd.mk o1
  clear g1 t1 o1
  simp only [List.setIfInBounds_toArray, List.set_cons_zero, List.set_cons_succ]
  refine wpAnyZ_one (i := 14) rfl (by decide +kernel) (fun K hKK => ?_)
  go_simp
  refine (left102 A2 n2 c2 s.ah w.heap.size (w.heap.size + 1) t y1 w1 (Own.rd C1.o2) (by omega) hT1.out hG1.out (by omega) hbA2.out (by omega) (by omega)).mono ?_
  rintro e w2 ⟨B2, m2, d2, rfl, o2, g2, t2⟩
  have hq2 := Hd.mk ((t2.block g C1.glt (fun e => hnF g h.fg e)).trans hq1.out)
  clear hS
  have hS := hq2.out
  refine hKK.out _ _ (fun _ => hS) ?_
  clear hKK
  have hy2 : ∃ y2 : Int, Hd (y2 = y1 + ((n2 : Int) - (leftP t s.ah).length)) ∧ 0 ≤ y2 ∧ y2 ≤ 64 := ⟨_, ⟨rfl⟩, by have := HL2.out; omega, by have := HL2.out; omega⟩
  obtain ⟨y2, hy2, hy20, hy21⟩ := hy2
  rw [← hy2.out] at g2
  have hT2 := Hd.mk ((t2.block w.heap.size (by have := hz1.out; have := ht1.out.size; simp at this; omega) (by omega)).trans hT1.out)
  have C2 := C1.keep t2 (fun k e => hnF k e)
  have hG2 := Hd.mk g2
  have ht2 := Hd.mk t2
  have ho2 := Hd.mk o2
  clear g2 t2 o2
  simp only [List.setIfInBounds_toArray, List.set_cons_zero, List.set_cons_succ]
  refine wpAnyZ_one (i := 20) rfl (by decide +kernel) (fun K hKK => ?_)
  go_simp
  refine (left102 A3 n3 c3 s.mks w.heap.size (w.heap.size + 1) t y2 w2 (Own.rd C2.o3) (by omega) hT2.out hG2.out (by omega) hbA3.out (by omega) (by omega)).mono ?_
  rintro e w3 ⟨B3, m3, d3, rfl, o3, g3, t3⟩
  have hq3 := Hd.mk ((t3.block g C2.glt (fun e => hnF g h.fg e)).trans hq2.out)
  clear hS
  have hS := hq3.out
  refine hKK.out _ _ (fun _ => hS) ?_
  clear hKK
  have hy3 : ∃ y3 : Int, Hd (y3 = y2 + ((n3 : Int) - (leftP t s.mks).length)) ∧ 0 ≤ y3 ∧ y3 ≤ 80 := ⟨_, ⟨rfl⟩, by have := HL3.out; omega, by have := HL3.out; omega⟩
  obtain ⟨y3, hy3, hy30, hy31⟩ := hy3
  rw [← hy3.out] at g3
  have hT3 := Hd.mk ((t3.block w.heap.size (by have h1 := hz1.out; have h2 := ht1.out.size; have h3 := ht2.out.size; simp at h2; omega) (by omega)).trans hT2.out)
  have hsz2 : Hd (w.heap.size + 2 ≤ w0.drew.heap.size ∧ w0.drew.heap.size ≤ w1.heap.size ∧ w1.heap.size ≤ w2.heap.size ∧ w2.heap.size ≤ w3.heap.size) := ⟨by have := hz1.out; simp; omega, ht1.out.size, ht2.out.size, t3.size⟩
  have hnw : ∀ (X Y : World), Tch (fun k => k = w.heap.size + 1) X Y → ∀ {base : Nat} {A : Option Addr} {n c : Nat} {l : List Pl}, w.heap.size + 2 ≤ base → OwnP X base A n c l → OwnP Y base A n c l :=
    fun X Y hXY base A n c l hb ho => Own.keep ho fun k _ h1 h2 => hXY.block k h2 (by omega)
  have z := hsz2.out
  have P1 : OwnP w3 w0.drew.heap.size B1 m1 d1 (leftP t s.bh) := hnw _ _ t3 (by omega) (hnw _ _ ht2.out (by omega) ho1.out)
  have P2 : OwnP w3 w0.drew.heap.size B2 m2 d2 (leftP t s.ah) := Own.mono (hnw _ _ t3 (by omega) ho2.out) (by omega)
  have P3 : OwnP w3 w0.drew.heap.size B3 m3 d3 (leftP t s.mks) := Own.mono o3 (by omega)
  have D12 : ∀ k, ownBlk B1 d1 = some k → ownBlk B2 d2 ≠ some k := fun k e e2 => by have := (Own.lt ho1.out e).2; have := (Own.lt ho2.out e2).1; omega
  have D13 : ∀ k, ownBlk B1 d1 = some k → ownBlk B3 d3 ≠ some k := fun k e e2 => by have := (Own.lt ho1.out e).2; have := (Own.lt o3 e2).1; omega
  have D23 : ∀ k, ownBlk B2 d2 = some k → ownBlk B3 d3 ≠ some k := fun k e e2 => by have := (Own.lt ho2.out e).2; have := (Own.lt o3 e2).1; omega
  have ht03 : Tch (fun k => k = w.heap.size + 1) w0.drew w3 := (ht1.out.trans (ht2.out.mono fun _ _ e => .inl e)).trans (t3.mono fun _ _ e => .inl e)
  have CX := C0.drew.st123 ht03 (fun e => hnF _ e rfl) P1 P2 P3 D12 D13 D23
  have e1 := Hd.mk (heap_setCell_same w3 g 4 _ 78 (.slice B1 m1 d1) hq3.out)
  have e2 := Hd.mk (heap_setCell_same _ g 5 _ 78 (.slice B2 m2 d2) e1.out)
  have tX : Tch F w3 (((w3.setCell ⟨g, 4, none⟩ (.slice B1 m1 d1)).setCell ⟨g, 5, none⟩ (.slice B2 m2 d2)).setCell ⟨g, 6, none⟩ (.slice B3 m3 d3)) :=
    ((Tch.setCell F _ _ _ _ (.inl h.fg)).trans (Tch.setCell _ _ _ _ _ (.inl (.inl h.fg)))).trans (Tch.setCell _ _ _ _ _ (.inl (.inl h.fg)))
  have hFlt := Hd.mk h.lt
  have DX : Hd (DI w (((w3.setCell ⟨g, 4, none⟩ (.slice B1 m1 d1)).setCell ⟨g, 5, none⟩ (.slice B2 m2 d2)).setCell ⟨g, 6, none⟩ (.slice B3 m3 d3)) g F (s.cutD t) y3 t) := ⟨by
    refine ⟨⟨_, CX.at_, fun k e => e.imp id (fun e => by omega)⟩, ?_, ?_, ?_, ?_⟩
    · refine ⟨tX.os.trans (ht03.os.trans HB1.out.os), tX.tape.trans (ht03.tape.trans HB1.out.tape), tX.output.trans (ht03.output.trans HB1.out.output), by have := tX.size; omega, fun k hk hn => ?_⟩
      exact (tX.block k (by omega) hn).trans ((ht03.block k (by omega) (by omega)).trans (HB1.out.block k hk))
    · exact (tX.block _ (by omega) (fun e => by have := hFlt.out _ e; omega)).trans hT3.out
    · exact (tX.block _ (by omega) (fun e => by have := hFlt.out _ e; omega)).trans g3
    · have := tX.size; omega⟩
  clear P1 P2 P3 D12 D13 D23 ht03 CX tX z hnw t3 o3 g3 ho1 ho2 ht1 ht2 hT1 hT2 hT3 hG1 hG2 C1 C2 hq1 hq2 hlb hla hlm
  simp only [List.setIfInBounds_toArray, List.set_cons_zero, List.set_cons_succ]
  refine wpAnyZ_take0 (i := 21) (oi := ⟨_, _, _, _, _, _⟩) (v := ?_) rfl (by decide +kernel) (fun _ _ _ h => h) (Or.inl ⟨by rfl, ?_⟩) (fun _ => hS) ?_
  rotate_left
  focus (intro w _; go_simp; (try with_reducible rfl); done)
  simp only [Act.put, List.setIfInBounds_toArray, List.set_cons_zero, List.set_cons_succ]
  refine wpAnyZ_take0 (i := 22) (oi := ⟨_, _, _, _, _, _⟩) (v := ?_) rfl (by decide +kernel) (fun _ _ _ h => h) (Or.inl ⟨by rfl, ?_⟩) (fun _ => hS) ?_
  rotate_left
  focus (intro w _; go_simp; (try with_reducible rfl); done)
  simp only [Act.put, List.setIfInBounds_toArray, List.set_cons_zero, List.set_cons_succ]
  refine wpAnyZ_one (i := 23) rfl (by decide +kernel) (fun K hKK => ?_)
  obtain ⟨b0, b1, b2, b3, b4, b5, b6, bf⟩ := nav_cells hq3.out
  go_simp
  clear b0 b1 b2 b3 b4 b5 b6 bf
  refine hKK.out _ _ (fun hz => absurd hz (by decide +kernel)) ?_
  clear hKK
  refine wpAnyZ_take0 (i := 24) (oi := ⟨_, _, _, _, _, _⟩) (v := ?_) rfl (by decide +kernel) (fun _ _ _ h => h) (Or.inl ⟨by rfl, ?_⟩) (fun hz => absurd hz (by decide +kernel)) ?_
  rotate_left
  focus (intro w _; go_simp; (try with_reducible rfl); done)
  simp only [Act.put, List.setIfInBounds_toArray, List.set_cons_zero, List.set_cons_succ]
  refine wpAnyZ_take0 (i := 25) (oi := ⟨_, _, _, _, _, _⟩) (v := ?_) rfl (by decide +kernel) (fun _ _ _ h => h) (Or.inl ⟨by rfl, ?_⟩) (fun hz => absurd hz (by decide +kernel)) ?_
  rotate_left
  focus (intro w _; go_simp; (try with_reducible rfl); done)
  simp only [Act.put, List.setIfInBounds_toArray, List.set_cons_zero, List.set_cons_succ]
  refine wpAnyZ_one (i := 26) rfl (by decide +kernel) (fun K hKK => ?_)
  have hq := e1.out
  simp only [List.setIfInBounds_toArray, List.set_cons_zero, List.set_cons_succ] at hq
  clear hh0 hS
  obtain ⟨b0, b1, b2, b3, b4, b5, b6, bf⟩ := nav_cells hq
  go_simp
  clear b0 b1 b2 b3 b4 b5 b6 bf hq
  refine hKK.out _ _ (fun hz => absurd hz (by decide +kernel)) ?_
  clear hKK
  refine wpAnyZ_take0 (i := 27) (oi := ⟨_, _, _, _, _, _⟩) (v := ?_) rfl (by decide +kernel) (fun _ _ _ h => h) (Or.inl ⟨by rfl, ?_⟩) (fun hz => absurd hz (by decide +kernel)) ?_
  rotate_left
  focus (intro w _; go_simp; (try with_reducible rfl); done)
  simp only [Act.put, List.setIfInBounds_toArray, List.set_cons_zero, List.set_cons_succ]
  refine wpAnyZ_take0 (i := 28) (oi := ⟨_, _, _, _, _, _⟩) (v := ?_) rfl (by decide +kernel) (fun _ _ _ h => h) (Or.inl ⟨by rfl, ?_⟩) (fun hz => absurd hz (by decide +kernel)) ?_
  rotate_left
  focus (intro w _; go_simp; (try with_reducible rfl); done)
  simp only [Act.put, List.setIfInBounds_toArray, List.set_cons_zero, List.set_cons_succ]
  refine wpAnyZ_one (i := 29) rfl (by decide +kernel) (fun K hKK => ?_)
  have hq := e2.out
  simp only [List.setIfInBounds_toArray, List.set_cons_zero, List.set_cons_succ] at hq
  obtain ⟨b0, b1, b2, b3, b4, b5, b6, bf⟩ := nav_cells hq
  go_simp
  clear b0 b1 b2 b3 b4 b5 b6 bf hq
  refine hKK.out _ _ (fun hz => absurd hz (by decide +kernel)) ?_
  clear hKK
  refine wpAnyZ_done (by decide +kernel) ?_
  clear e1 e2 hq3
  generalize ((w3.setCell ⟨g, 4, none⟩ (.slice B1 m1 d1)).setCell ⟨g, 5, none⟩ (.slice B2 m2 d2)).setCell ⟨g, 6, none⟩ (.slice B3 m3 d3) = X at DX ⊢
  obtain ⟨u, hu⟩ : ∃ u, Hd (s.cutD t = u) := ⟨_, ⟨rfl⟩⟩
  rw [hu.out] at DX
  have hiu : Hd (NInv u) := ⟨by rw [← hu.out]; exact HI.out.cutD t⟩
  have hy : Hd (y3 = (s.many : Int) - (u.many : Int)) := ⟨by
    rw [hy3.out, hy2.out, hy1.out, ← hu.out, ← HL1.out, ← HL2.out, ← HL3.out]
    unfold NS.many NS.cutD
    simp only
    omega⟩
  have hdrop : Hd (s.drop t = (u.insteadD t).apartD) := ⟨by rw [← hu.out]; rfl⟩
  clear hy1 hy2 hy3 hbA1 hbA2 hbA3 hT hG HB0 hz0 hz1 hsz2 C0 HL1 HL2 HL3 h HB1 hy10 hy11 hy20 hy21
  obtain ⟨FX, hnX, hFX⟩ := DX.out.nav
  obtain ⟨E1, p1, q1, E2, p2, q2, E3, p3, q3, CX⟩ := hnX
  have hgX := CX.glt
  have hFX' := Hd.mk hFX
  clear hFX
  obtain ⟨a0, a1, a2, a3, a4, a5, a6, af⟩ := nav_cells CX.heap
  have bt := cell_of_row _ _ 0 _ _ _ DX.out.bt
  have bg := cell_of_row _ _ 0 _ _ _ DX.out.bg
  have bgf := frozen_of_row X (w.heap.size + 1) 0 _ _ DX.out.bg
  simp only [List.getElem?_toArray, List.getElem?_cons_zero] at bt bg
  cases hh : u.has
  · have hd2 : Hd (s.drop t = u) := ⟨by rw [hdrop.out]; simp [NS.insteadD, NS.apartD, hh]⟩
    rw [hh] at a1
    simp only [Bool.false_eq_true, if_false] at a1
    clear hh
    go_wp2_with fail
    go_quiet (fail)
    go_wp2
    go_ret
    rw [hd2.out]
    exact ⟨by show Ending.returned (.int .i64 y3) = _; rw [hy.out], ((DX.out.below hFlt.out (below_drewN (Below.refl _ _) _)).to hFlt.out)⟩
  · rw [hh] at a1
    simp only [if_true] at a1
    by_cases ht : t ≤ u.now.1
    · have hins : Hd (u.insteadD t = u.instead) := ⟨by simp [NS.insteadD, hh, ht]⟩
      have hiv0 : Hd (NInv u.instead) := ⟨by have := hiu.out.insteadD t; rw [hins.out] at this; exact this⟩
      have hmany := Hd.mk (instead_many hh)
      have hy1 : (y3 + 1 : Int) ≤ 81 := by omega
      have hll : u.bh.length ≤ 99 ∧ u.ah.length ≤ 99 := by have := hiu.out.long; omega
      have HLL := Hd.mk hll
      clear hll
      go_wp2_with fail
      go_quiet (fail)
      have DY := Hd.mk ((DX.out.below hFlt.out (below_drewN (Below.refl _ _) nq)).gone hFlt.out (y3 + 1))
      go_wp2_with fail
      clear bt bg bgf a0 a1 a2 a3 a4 a5 a6 af
      obtain ⟨FY, hnY, hFY⟩ := DY.out.nav
      refine (instead103 g FY u _ hnY HLL.out.1 HLL.out.2).mono ?_
      rintro e X2 ⟨rfl, hN2⟩
      have D2 := Hd.mk (DY.out.go hFlt.out hFY hN2)
      clear hN2 hFY hnY DY DX CX hgX
      obtain ⟨v, hv⟩ : ∃ v, Hd (u.instead = v) := ⟨_, ⟨rfl⟩⟩
      rw [hv.out] at D2 hiv0 hmany hins
      have hyv : Hd (y3 + 1 = (s.many : Int) - (v.many : Int)) := ⟨by rw [hmany.out, hy.out]; omega⟩
      have hdv : Hd (s.drop t = v.apartD) := ⟨by rw [hdrop.out, hins.out]⟩
      obtain ⟨FZ, hnZ, hFZ⟩ := D2.out.nav
      obtain ⟨E1', p1', q1', E2', p2', q2', E3', p3', q3', CZ⟩ := hnZ
      obtain ⟨a0, a1, a2, a3, a4, a5, a6, af⟩ := nav_cells CZ.heap
      have bg := cell_of_row _ _ 0 _ _ _ D2.out.bg
      simp only [List.getElem?_toArray, List.getElem?_cons_zero] at bg
      have hFZ' := Hd.mk hFZ
      clear hFZ
      cases hvh : v.has
      · have hd3 : Hd (s.drop t = v) := ⟨by rw [hdv.out]; simp [NS.apartD, hvh]⟩
        rw [hvh] at a1
        simp only [Bool.false_eq_true, if_false] at a1
        clear hvh hh ht
        go_wp2
        go_ret
        rw [hd3.out]
        exact ⟨by show Ending.returned (.int .i64 (y3 + 1)) = _; rw [hyv.out], D2.out.to hFlt.out⟩
      · rw [hvh] at a1
        simp only [if_true] at a1
        clear hh ht
        go_wp2_with fail
        have hl1 := CZ.o1.len
        have hl2 := CZ.o2.len
        have hlg := hiv0.out.long
        have hp1 : p1' ≤ 32 := by omega
        have hp2 : p2' ≤ 32 := by omega
        have HL1 := Hd.mk hl1
        have HL2 := Hd.mk hl2
        have hm3 := Hd.mk CZ.o3.len
        clear hl1 hl2 hlg
        have hwn : IntKind.i64.wrap ((p1' : Int) + (p2' : Int)) = (p1' : Int) + (p2' : Int) := by rw [IntKind.wrap_i64]; omega
        go_quiet (fail)
        clear hwn
        have CZd := CZ.drewN nq
        have D2d := Hd.mk (D2.out.below hFlt.out (below_drewN (Below.refl _ _) nq))
        obtain ⟨b0, b1, b2, b3, b4, b5, b6, bf⟩ := nav_cells CZd.heap
        clear a0 a1 a2 a3 a4 a5 a6 af bg D2 CZ
        generalize X2.drewN nq = Y2 at *
        go_wp2_with fail
        refine (reverse104 E1' p1' q1' v.bh _ CZd.o1 (by omega)).mono ?_
        rintro e X3 ⟨rfl, or3, tr3⟩
        have N3 := CZd.in1 or3 tr3
        have D3 := Hd.mk (D2d.out.go hFlt.out hFZ'.out N3.to)
        have hF3 : Hd (∀ k, up FZ Y2 X3 k → F k ∨ w.heap.size + 2 ≤ k) := ⟨fun k e => e.elim (hFZ'.out k) (fun e => .inr (by have := D2d.out.sz; omega))⟩
        obtain ⟨C3, _⟩ := N3
        have hh3 := C3.heap
        have HVH := Hd.mk hvh
        clear b0 b1 b2 b3 b4 b5 b6 bf or3 tr3 D2d CZd hvh
        go_wp2_with fail
        refine region_zone 13 [false, false, false, false, false, false, false, false, false, false, false, false, false] (by kernel_rfl) (by kernel_rfl) hmix (fun w' => w'.heap[g]? = some (.cells #[.int .i64 1, .int .i64 (if v.has then 1 else 0), .int .i64 v.now.1, .int .i64 v.now.2, .slice E1' p1' q1', .slice E2' p2' q2', .slice E3' p3' q3'] 78 (0, 0))) [12] ?_ (fun hS => ?_)
        · exact hh3
        refine wpAnyZ_take0 (i := 0) (oi := ⟨_, _, _, _, _, _⟩) (v := ?_) rfl (by decide +kernel) (fun _ _ _ h => h) (Or.inl ⟨by rfl, ?_⟩) (fun _ => hS) ?_
        rotate_left
        focus (intro w _; go_simp; (try with_reducible rfl); done)
        simp only [Act.put, List.setIfInBounds_toArray, List.set_cons_zero, List.set_cons_succ]
        refine wpAnyZ_take0 (i := 1) (oi := ⟨_, _, _, _, _, _⟩) (v := ?_) rfl (by decide +kernel) (fun _ _ _ h => h) (Or.inl ⟨by rfl, ?_⟩) (fun _ => hS) ?_
        rotate_left
        focus (intro w _; go_simp; (try with_reducible rfl); done)
        simp only [Act.put, List.setIfInBounds_toArray, List.set_cons_zero, List.set_cons_succ]
        refine wpAnyZ_take0 (i := 2) (oi := ⟨_, _, _, _, _, _⟩) (v := ?_) rfl (by decide +kernel) (fun _ _ _ h => h) (Or.inl ⟨by rfl, ?_⟩) (fun _ => hS) ?_
        rotate_left
        focus (intro w _; go_simp; (try with_reducible rfl); done)
        simp only [Act.put, List.setIfInBounds_toArray, List.set_cons_zero, List.set_cons_succ]
        refine wpAnyZ_take0 (i := 3) (oi := ⟨_, _, _, _, _, _⟩) (v := ?_) rfl (by decide +kernel) (fun _ _ _ h => h) (Or.inl ⟨by rfl, ?_⟩) (fun _ => hS) ?_
        rotate_left
        focus (intro w _; go_simp; (try with_reducible rfl); done)
        simp only [Act.put, List.setIfInBounds_toArray, List.set_cons_zero, List.set_cons_succ]
        refine wpAnyZ_take (i := 4) (oi := ⟨_, _, _, _, _, _⟩) (v := ?_) rfl (by decide +kernel) (fun _ _ _ h => h) (Or.inl ⟨by rfl, ?_⟩) hS ?_
        rotate_left
        focus (intro w hSw; (try dsimp only at hSw); obtain ⟨z0, z1, z2, z3, z4, z5, z6, zf⟩ := nav_cells hSw; clear hSw; go_simp; (try with_reducible rfl); done)
        simp only [Act.put, List.setIfInBounds_toArray, List.set_cons_zero, List.set_cons_succ]
        refine wpAnyZ_take0 (i := 5) (oi := ⟨_, _, _, _, _, _⟩) (v := ?_) rfl (by decide +kernel) (fun _ _ _ h => h) (Or.inl ⟨by rfl, ?_⟩) (fun _ => hS) ?_
        rotate_left
        focus (intro w _; go_simp; (try with_reducible rfl); done)
        simp only [Act.put, List.setIfInBounds_toArray, List.set_cons_zero, List.set_cons_succ]
        refine wpAnyZ_take0 (i := 6) (oi := ⟨_, _, _, _, _, _⟩) (v := ?_) rfl (by decide +kernel) (fun _ _ _ h => h) (Or.inl ⟨by rfl, ?_⟩) (fun _ => hS) ?_
        rotate_left
        focus (intro w _; go_simp; (try with_reducible rfl); done)
        simp only [Act.put, List.setIfInBounds_toArray, List.set_cons_zero, List.set_cons_succ]
        refine wpAnyZ_take0 (i := 7) (oi := ⟨_, _, _, _, _, _⟩) (v := ?_) rfl (by decide +kernel) (fun _ _ _ h => h) (Or.inl ⟨by rfl, ?_⟩) (fun _ => hS) ?_
        rotate_left
        focus (intro w _; go_simp; (try with_reducible rfl); done)
        simp only [Act.put, List.setIfInBounds_toArray, List.set_cons_zero, List.set_cons_succ]
        refine wpAnyZ_take (i := 8) (oi := ⟨_, _, _, _, _, _⟩) (v := ?_) rfl (by decide +kernel) (fun _ _ _ h => h) (Or.inl ⟨by rfl, ?_⟩) hS ?_
        rotate_left
        focus (intro w hSw; (try dsimp only at hSw); obtain ⟨z0, z1, z2, z3, z4, z5, z6, zf⟩ := nav_cells hSw; clear hSw; go_simp; (try with_reducible rfl); done)
        simp only [Act.put, List.setIfInBounds_toArray, List.set_cons_zero, List.set_cons_succ]
        refine wpAnyZ_one (i := 9) rfl (by decide +kernel) (fun K hKK => ?_)
        go_simp
        refine (apart105 E1' p1' q1' v.bh.reverse v.now _ (Own.rd C3.drew.o1) (by omega)).mono ?_
        rintro e X4 ⟨A4, n4, c4, rfl, o4, b4⟩
        have hq4 := Hd.mk ((b4.block g C3.glt).trans hh3)
        clear hS
        have hS := hq4.out
        refine hKK.out _ _ (fun _ => hS) ?_
        clear hKK
        have N4 := (NavT.refl C3).st1 (below_drew X3) (Slot.fresh o4 b4)
        have D4 := Hd.mk (D3.out.go hFlt.out hF3.out N4.to)
        have hn4 : n4 = (apartP v.now v.bh.reverse).length := o4.len.symm
        have hn4' : n4 ≤ 32 := by rw [hn4]; have h1 := (apartP_sub v.now v.bh.reverse).length_le; rw [List.length_reverse, HL1.out] at h1; omega
        have HN4 := Hd.mk hn4
        clear hn4 o4 b4
        simp only [List.setIfInBounds_toArray, List.set_cons_zero, List.set_cons_succ]
        refine wpAnyZ_take0 (i := 10) (oi := ⟨_, _, _, _, _, _⟩) (v := ?_) rfl (by decide +kernel) (fun _ _ _ h => h) (Or.inl ⟨by rfl, ?_⟩) (fun _ => hS) ?_
        rotate_left
        focus (intro w _; go_simp; (try with_reducible rfl); done)
        simp only [Act.put, List.setIfInBounds_toArray, List.set_cons_zero, List.set_cons_succ]
        refine wpAnyZ_take0 (i := 11) (oi := ⟨_, _, _, _, _, _⟩) (v := ?_) rfl (by decide +kernel) (fun _ _ _ h => h) (Or.inl ⟨by rfl, ?_⟩) (fun _ => hS) ?_
        rotate_left
        focus (intro w _; go_simp; (try with_reducible rfl); done)
        simp only [Act.put, List.setIfInBounds_toArray, List.set_cons_zero, List.set_cons_succ]
        refine wpAnyZ_one (i := 12) rfl (by decide +kernel) (fun K hKK => ?_)
        clear hh3 hS
        obtain ⟨b0, b1, b2, b3, b4, b5, b6, bf⟩ := nav_cells hq4.out
        go_simp
        clear b0 b1 b2 b3 b4 b5 b6 bf hq4
        refine hKK.out _ _ (fun hz => absurd hz (by decide +kernel)) ?_
        clear hKK
        refine wpAnyZ_done (by decide +kernel) ?_
        have hF4 : Hd (∀ k, up (up FZ Y2 X3) X3 (X4.setCell ⟨g, 4, none⟩ (.slice A4 n4 c4)) k → F k ∨ w.heap.size + 2 ≤ k) := ⟨fun k e => e.elim (hF3.out k) (fun e => .inr (by have := D3.out.sz; omega))⟩
        obtain ⟨C4, _⟩ := N4
        obtain ⟨F4, hF4e⟩ : ∃ F4, F4 = up (up FZ Y2 X3) X3 (X4.setCell ⟨g, 4, none⟩ (.slice A4 n4 c4)) := ⟨_, rfl⟩
        rw [← hF4e] at C4 hF4
        clear hF4e C3 D3
        generalize X4.setCell ⟨g, 4, none⟩ (.slice A4 n4 c4) = Y4 at *
        obtain ⟨b0, b1, b2, b3, b4, b5, b6, bf⟩ := nav_cells C4.heap
        go_wp2_with fail
        refine (reverse104 A4 n4 c4 (apartP v.now v.bh.reverse) _ C4.o1 (by omega)).mono ?_
        rintro e X5 ⟨rfl, or5, tr5⟩
        have N5 := C4.in1 or5 tr5
        have D5 := Hd.mk (D4.out.go hFlt.out hF4.out N5.to)
        have hF5 : Hd (∀ k, up F4 Y4 X5 k → F k ∨ w.heap.size + 2 ≤ k) := ⟨fun k e => e.elim (hF4.out k) (fun e => .inr (by have := D4.out.sz; omega))⟩
        obtain ⟨C5, _⟩ := N5
        have hh5 := C5.heap
        clear b0 b1 b2 b3 b4 b5 b6 bf or5 tr5 D4 C4
        go_wp2_with fail
        refine region_zone 13 [false, false, false, false, false, false, false, false, false, false, false, false, false] (by kernel_rfl) (by kernel_rfl) hmix (fun w' => w'.heap[g]? = some (.cells #[.int .i64 1, .int .i64 (if v.has then 1 else 0), .int .i64 v.now.1, .int .i64 v.now.2, .slice A4 n4 c4, .slice E2' p2' q2', .slice E3' p3' q3'] 78 (0, 0))) [12] ?_ (fun hS => ?_)
        · exact hh5
        refine wpAnyZ_take0 (i := 0) (oi := ⟨_, _, _, _, _, _⟩) (v := ?_) rfl (by decide +kernel) (fun _ _ _ h => h) (Or.inl ⟨by rfl, ?_⟩) (fun _ => hS) ?_
        rotate_left
        focus (intro w _; go_simp; (try with_reducible rfl); done)
        simp only [Act.put, List.setIfInBounds_toArray, List.set_cons_zero, List.set_cons_succ]
        refine wpAnyZ_take0 (i := 1) (oi := ⟨_, _, _, _, _, _⟩) (v := ?_) rfl (by decide +kernel) (fun _ _ _ h => h) (Or.inl ⟨by rfl, ?_⟩) (fun _ => hS) ?_
        rotate_left
        focus (intro w _; go_simp; (try with_reducible rfl); done)
        simp only [Act.put, List.setIfInBounds_toArray, List.set_cons_zero, List.set_cons_succ]
        refine wpAnyZ_take0 (i := 2) (oi := ⟨_, _, _, _, _, _⟩) (v := ?_) rfl (by decide +kernel) (fun _ _ _ h => h) (Or.inl ⟨by rfl, ?_⟩) (fun _ => hS) ?_
        rotate_left
        focus (intro w _; go_simp; (try with_reducible rfl); done)
        simp only [Act.put, List.setIfInBounds_toArray, List.set_cons_zero, List.set_cons_succ]
        refine wpAnyZ_take0 (i := 3) (oi := ⟨_, _, _, _, _, _⟩) (v := ?_) rfl (by decide +kernel) (fun _ _ _ h => h) (Or.inl ⟨by rfl, ?_⟩) (fun _ => hS) ?_
        rotate_left
        focus (intro w _; go_simp; (try with_reducible rfl); done)
        simp only [Act.put, List.setIfInBounds_toArray, List.set_cons_zero, List.set_cons_succ]
        refine wpAnyZ_take (i := 4) (oi := ⟨_, _, _, _, _, _⟩) (v := ?_) rfl (by decide +kernel) (fun _ _ _ h => h) (Or.inl ⟨by rfl, ?_⟩) hS ?_
        rotate_left
        focus (intro w hSw; (try dsimp only at hSw); obtain ⟨z0, z1, z2, z3, z4, z5, z6, zf⟩ := nav_cells hSw; clear hSw; go_simp; (try with_reducible rfl); done)
        simp only [Act.put, List.setIfInBounds_toArray, List.set_cons_zero, List.set_cons_succ]
        refine wpAnyZ_take0 (i := 5) (oi := ⟨_, _, _, _, _, _⟩) (v := ?_) rfl (by decide +kernel) (fun _ _ _ h => h) (Or.inl ⟨by rfl, ?_⟩) (fun _ => hS) ?_
        rotate_left
        focus (intro w _; go_simp; (try with_reducible rfl); done)
        simp only [Act.put, List.setIfInBounds_toArray, List.set_cons_zero, List.set_cons_succ]
        refine wpAnyZ_take0 (i := 6) (oi := ⟨_, _, _, _, _, _⟩) (v := ?_) rfl (by decide +kernel) (fun _ _ _ h => h) (Or.inl ⟨by rfl, ?_⟩) (fun _ => hS) ?_
        rotate_left
        focus (intro w _; go_simp; (try with_reducible rfl); done)
        simp only [Act.put, List.setIfInBounds_toArray, List.set_cons_zero, List.set_cons_succ]
        refine wpAnyZ_take0 (i := 7) (oi := ⟨_, _, _, _, _, _⟩) (v := ?_) rfl (by decide +kernel) (fun _ _ _ h => h) (Or.inl ⟨by rfl, ?_⟩) (fun _ => hS) ?_
        rotate_left
        focus (intro w _; go_simp; (try with_reducible rfl); done)
        simp only [Act.put, List.setIfInBounds_toArray, List.set_cons_zero, List.set_cons_succ]
        refine wpAnyZ_take (i := 8) (oi := ⟨_, _, _, _, _, _⟩) (v := ?_) rfl (by decide +kernel) (fun _ _ _ h => h) (Or.inl ⟨by rfl, ?_⟩) hS ?_
        rotate_left
        focus (intro w hSw; (try dsimp only at hSw); obtain ⟨z0, z1, z2, z3, z4, z5, z6, zf⟩ := nav_cells hSw; clear hSw; go_simp; (try with_reducible rfl); done)
        simp only [Act.put, List.setIfInBounds_toArray, List.set_cons_zero, List.set_cons_succ]
        refine wpAnyZ_one (i := 9) rfl (by decide +kernel) (fun K hKK => ?_)
        go_simp
        refine (apart105 E2' p2' q2' v.ah v.now _ (Own.rd C5.drew.o2) (by omega)).mono ?_
        rintro e X6 ⟨A6, n6, c6, rfl, o6, b6⟩
        have hq6 := Hd.mk ((b6.block g C5.glt).trans hh5)
        clear hS
        have hS := hq6.out
        refine hKK.out _ _ (fun _ => hS) ?_
        clear hKK
        have N6 := (NavT.refl C5).st2 (below_drew X5) (Slot.fresh o6 b6)
        have D6 := Hd.mk (D5.out.go hFlt.out hF5.out N6.to)
        have hn6 : n6 = (apartP v.now v.ah).length := o6.len.symm
        have hn6' : n6 ≤ 32 := by rw [hn6]; have h1 := (apartP_sub v.now v.ah).length_le; rw [HL2.out] at h1; omega
        have HN6 := Hd.mk hn6
        clear hn6 o6 b6
        simp only [List.setIfInBounds_toArray, List.set_cons_zero, List.set_cons_succ]
        refine wpAnyZ_take0 (i := 10) (oi := ⟨_, _, _, _, _, _⟩) (v := ?_) rfl (by decide +kernel) (fun _ _ _ h => h) (Or.inl ⟨by rfl, ?_⟩) (fun _ => hS) ?_
        rotate_left
        focus (intro w _; go_simp; (try with_reducible rfl); done)
        simp only [Act.put, List.setIfInBounds_toArray, List.set_cons_zero, List.set_cons_succ]
        refine wpAnyZ_take0 (i := 11) (oi := ⟨_, _, _, _, _, _⟩) (v := ?_) rfl (by decide +kernel) (fun _ _ _ h => h) (Or.inl ⟨by rfl, ?_⟩) (fun _ => hS) ?_
        rotate_left
        focus (intro w _; go_simp; (try with_reducible rfl); done)
        simp only [Act.put, List.setIfInBounds_toArray, List.set_cons_zero, List.set_cons_succ]
        refine wpAnyZ_one (i := 12) rfl (by decide +kernel) (fun K hKK => ?_)
        clear hh5 hS
        obtain ⟨b0, b1, b2, b3, b4, b5, b6, bf⟩ := nav_cells hq6.out
        go_simp
        clear b0 b1 b2 b3 b4 b5 b6 bf hq6
        refine hKK.out _ _ (fun hz => absurd hz (by decide +kernel)) ?_
        clear hKK
        refine wpAnyZ_done (by decide +kernel) ?_
        have hq6 := Hd.mk N6.c.heap
        clear N6 D5 C5
        generalize X6.setCell ⟨g, 5, none⟩ (.slice A6 n6 c6) = Y6 at *
        obtain ⟨yv, hyvd⟩ : ∃ yv : Int, Hd (y3 + 1 = yv) := ⟨_, ⟨rfl⟩⟩
        have hyv0 : 0 ≤ yv ∧ yv ≤ 81 := by rw [← hyvd.out]; omega
        obtain ⟨hyv0, hyv1⟩ := hyv0
        rw [hyvd.out] at D6 hyv
        have bgY := D6.out.bg
        go_wp2_with fail
        have w1' : IntKind.i64.wrap ((p1' : Int) + (p2' : Int) - (n4 : Int)) = (p1' : Int) + (p2' : Int) - (n4 : Int) := by rw [IntKind.wrap_i64]; omega
        have w2' : IntKind.i64.wrap ((p1' : Int) + (p2' : Int) - (n4 : Int) - (n6 : Int)) = (p1' : Int) + (p2' : Int) - (n4 : Int) - (n6 : Int) := by rw [IntKind.wrap_i64]; omega
        have w3' : IntKind.i64.wrap (yv + ((p1' : Int) + (p2' : Int) - (n4 : Int) - (n6 : Int))) = yv + ((p1' : Int) + (p2' : Int) - (n4 : Int) - (n6 : Int)) := by rw [IntKind.wrap_i64]; omega
        refine region_zone 16 [false, false, false, false, false, false, false, false, false, false, false, false, false, false, false, false] (by kernel_rfl) (by kernel_rfl) hmix (fun w' => w'.heap[g]? = some (.cells #[.int .i64 1, .int .i64 (if v.has then 1 else 0), .int .i64 v.now.1, .int .i64 v.now.2, .slice A4 n4 c4, .slice A6 n6 c6, .slice E3' p3' q3'] 78 (0, 0)) ∧ w'.heap[w.heap.size + 1]? = some (.cells #[.int .i64 yv] 3 (0, 0))) [15] ?_ (fun hS => ?_)
        · exact ⟨hq6.out, bgY⟩
        refine wpAnyZ_take (i := 0) (oi := ⟨_, _, _, _, _, _⟩) (v := ?_) rfl (by decide +kernel) (fun _ _ _ h => h) (Or.inl ⟨by rfl, ?_⟩) hS ?_
        rotate_left
        focus (intro w hSw; (try dsimp only at hSw); obtain ⟨hSw, y0⟩ := hSw; obtain ⟨z0, z1, z2, z3, z4, z5, z6, zf⟩ := nav_cells hSw; have k0 := cell_of_row _ _ 0 _ _ _ y0; simp only [List.getElem?_toArray, List.getElem?_cons_zero] at k0; clear hSw y0; go_simp; (try with_reducible rfl); done)
        simp only [Act.put, List.setIfInBounds_toArray, List.set_cons_zero, List.set_cons_succ]
        refine wpAnyZ_take0 (i := 1) (oi := ⟨_, _, _, _, _, _⟩) (v := ?_) rfl (by decide +kernel) (fun _ _ _ h => h) (Or.inl ⟨by rfl, ?_⟩) (fun _ => hS) ?_
        rotate_left
        focus (intro w _; go_simp; (try with_reducible rfl); done)
        simp only [Act.put, List.setIfInBounds_toArray, List.set_cons_zero, List.set_cons_succ]
        refine wpAnyZ_take0 (i := 2) (oi := ⟨_, _, _, _, _, _⟩) (v := ?_) rfl (by decide +kernel) (fun _ _ _ h => h) (Or.inl ⟨by rfl, ?_⟩) (fun _ => hS) ?_
        rotate_left
        focus (intro w _; go_simp; (try with_reducible rfl); done)
        simp only [Act.put, List.setIfInBounds_toArray, List.set_cons_zero, List.set_cons_succ]
        refine wpAnyZ_take0 (i := 3) (oi := ⟨_, _, _, _, _, _⟩) (v := ?_) rfl (by decide +kernel) (fun _ _ _ h => h) (Or.inl ⟨by rfl, ?_⟩) (fun _ => hS) ?_
        rotate_left
        focus (intro w _; go_simp; (try with_reducible rfl); done)
        simp only [Act.put, List.setIfInBounds_toArray, List.set_cons_zero, List.set_cons_succ]
        refine wpAnyZ_take0 (i := 4) (oi := ⟨_, _, _, _, _, _⟩) (v := ?_) rfl (by decide +kernel) (fun _ _ _ h => h) (Or.inl ⟨by rfl, ?_⟩) (fun _ => hS) ?_
        rotate_left
        focus (intro w _; go_simp; (try with_reducible rfl); done)
        simp only [Act.put, List.setIfInBounds_toArray, List.set_cons_zero, List.set_cons_succ]
        refine wpAnyZ_take (i := 5) (oi := ⟨_, _, _, _, _, _⟩) (v := ?_) rfl (by decide +kernel) (fun _ _ _ h => h) (Or.inl ⟨by rfl, ?_⟩) hS ?_
        rotate_left
        focus (intro w hSw; (try dsimp only at hSw); obtain ⟨hSw, y0⟩ := hSw; obtain ⟨z0, z1, z2, z3, z4, z5, z6, zf⟩ := nav_cells hSw; have k0 := cell_of_row _ _ 0 _ _ _ y0; simp only [List.getElem?_toArray, List.getElem?_cons_zero] at k0; clear hSw y0; go_simp; (try with_reducible rfl); done)
        simp only [Act.put, List.setIfInBounds_toArray, List.set_cons_zero, List.set_cons_succ]
        refine wpAnyZ_take0 (i := 6) (oi := ⟨_, _, _, _, _, _⟩) (v := ?_) rfl (by decide +kernel) (fun _ _ _ h => h) (Or.inl ⟨by rfl, ?_⟩) (fun _ => hS) ?_
        rotate_left
        focus (intro w _; go_simp; (try with_reducible rfl); done)
        simp only [Act.put, List.setIfInBounds_toArray, List.set_cons_zero, List.set_cons_succ]
        refine wpAnyZ_take0 (i := 7) (oi := ⟨_, _, _, _, _, _⟩) (v := ?_) rfl (by decide +kernel) (fun _ _ _ h => h) (Or.inl ⟨by rfl, ?_⟩) (fun _ => hS) ?_
        rotate_left
        focus (intro w _; go_simp; (try with_reducible rfl); done)
        simp only [Act.put, List.setIfInBounds_toArray, List.set_cons_zero, List.set_cons_succ]
        refine wpAnyZ_take0 (i := 8) (oi := ⟨_, _, _, _, _, _⟩) (v := ?_) rfl (by decide +kernel) (fun _ _ _ h => h) (Or.inl ⟨by rfl, ?_⟩) (fun _ => hS) ?_
        rotate_left
        focus (intro w _; go_simp; (try with_reducible rfl); done)
        simp only [Act.put, List.setIfInBounds_toArray, List.set_cons_zero, List.set_cons_succ]
        refine wpAnyZ_take0 (i := 9) (oi := ⟨_, _, _, _, _, _⟩) (v := ?_) rfl (by decide +kernel) (fun _ _ _ h => h) (Or.inl ⟨by rfl, ?_⟩) (fun _ => hS) ?_
        rotate_left
        focus (intro w _; go_simp; (try with_reducible rfl); done)
        simp only [Act.put, List.setIfInBounds_toArray, List.set_cons_zero, List.set_cons_succ]
        refine wpAnyZ_take0 (i := 10) (oi := ⟨_, _, _, _, _, _⟩) (v := ?_) rfl (by decide +kernel) (fun _ _ _ h => h) (Or.inl ⟨by rfl, ?_⟩) (fun _ => hS) ?_
        rotate_left
        focus (intro w _; go_simp; (try with_reducible rfl); done)
        simp only [Act.put, List.setIfInBounds_toArray, List.set_cons_zero, List.set_cons_succ]
        refine wpAnyZ_take (i := 11) (oi := ⟨_, _, _, _, _, _⟩) (v := ?_) rfl (by decide +kernel) (fun _ _ _ h => h) (Or.inl ⟨by rfl, ?_⟩) hS ?_
        rotate_left
        focus (intro w hSw; (try dsimp only at hSw); obtain ⟨hSw, y0⟩ := hSw; obtain ⟨z0, z1, z2, z3, z4, z5, z6, zf⟩ := nav_cells hSw; have k0 := cell_of_row _ _ 0 _ _ _ y0; simp only [List.getElem?_toArray, List.getElem?_cons_zero] at k0; clear hSw y0; go_simp; (try with_reducible rfl); done)
        simp only [Act.put, List.setIfInBounds_toArray, List.set_cons_zero, List.set_cons_succ]
        refine wpAnyZ_take0 (i := 12) (oi := ⟨_, _, _, _, _, _⟩) (v := ?_) rfl (by decide +kernel) (fun _ _ _ h => h) (Or.inl ⟨by rfl, ?_⟩) (fun _ => hS) ?_
        rotate_left
        focus (intro w _; go_simp; (try with_reducible rfl); done)
        simp only [Act.put, List.setIfInBounds_toArray, List.set_cons_zero, List.set_cons_succ]
        refine wpAnyZ_take0 (i := 13) (oi := ⟨_, _, _, _, _, _⟩) (v := ?_) rfl (by decide +kernel) (fun _ _ _ h => h) (Or.inl ⟨by rfl, ?_⟩) (fun _ => hS) ?_
        rotate_left
        focus (intro w _; go_simp; (try with_reducible rfl); done)
        simp only [Act.put, List.setIfInBounds_toArray, List.set_cons_zero, List.set_cons_succ]
        refine wpAnyZ_take0 (i := 14) (oi := ⟨_, _, _, _, _, _⟩) (v := ?_) rfl (by decide +kernel) (fun _ _ _ h => h) (Or.inl ⟨by rfl, ?_⟩) (fun _ => hS) ?_
        rotate_left
        focus (intro w _; go_simp; (try with_reducible rfl); done)
        simp only [Act.put, List.setIfInBounds_toArray, List.set_cons_zero, List.set_cons_succ]
        refine wpAnyZ_one (i := 15) rfl (by decide +kernel) (fun K hKK => ?_)
        have kf := frozen_of_row _ (w.heap.size + 1) 0 _ _ hS.2
        have k0 := cell_of_row _ _ 0 _ _ _ hS.2
        simp only [List.getElem?_toArray, List.getElem?_cons_zero] at k0
        clear hS
        go_simp
        refine hKK.out _ _ (fun hz => absurd hz (by decide +kernel)) ?_
        clear hKK
        refine wpAnyZ_done (by decide +kernel) ?_
        have D7 := Hd.mk (((D6.out.below hFlt.out (below_drew Y6)).gone hFlt.out (yv + ((p1' : Int) + (p2' : Int) - (n4 : Int) - (n6 : Int)))))
        have bg7 := cell_of_row _ _ 0 _ _ _ D7.out.bg
        simp only [List.getElem?_toArray, List.getElem?_cons_zero] at bg7
        have bg8 : ((Y6.setCell ⟨w.heap.size + 1, 0, none⟩ (.int .i64 (yv + ((p1' : Int) + (p2' : Int) - (n4 : Int) - (n6 : Int))))).drew).cell? ⟨w.heap.size + 1, 0, none⟩ = some (.int .i64 (yv + ((p1' : Int) + (p2' : Int) - (n4 : Int) - (n6 : Int)))) := bg7
        clear bg7
        have hfin : Hd (yv + ((p1' : Int) + (p2' : Int) - (n4 : Int) - (n6 : Int)) = (s.many : Int) - (v.apartD.many : Int)) := ⟨by
          rw [hyv.out, HN4.out, HN6.out, ← HL1.out, ← HL2.out]
          unfold NS.apartD
          rw [if_pos HVH.out]
          unfold NS.many
          simp only [HVH.out, if_true, List.length_reverse]
          omega⟩
        have hap : Hd ({ ({ ({ v with bh := v.bh.reverse } : NS) with bh := apartP v.now v.bh.reverse } : NS) with bh := (apartP v.now v.bh.reverse).reverse, ah := apartP v.now v.ah } = v.apartD) := ⟨by unfold NS.apartD; rw [if_pos HVH.out]⟩
        clear k0 kf w1' w2' w3' bgY D6
        go_wp2
        go_ret
        rw [hdv.out]
        refine ⟨by show Ending.returned (.int .i64 (yv + ((p1' : Int) + (p2' : Int) - (n4 : Int) - (n6 : Int)))) = _; rw [hfin.out], ?_⟩
        have := D7.out.to hFlt.out
        rw [← hap.out]
        exact this
    · have hd2 : Hd (s.drop t = u.apartD) := ⟨by rw [hdrop.out]; simp [NS.insteadD, ht]⟩
      have D2q := DX
      go_wp2_with fail
      go_quiet (fail)
      have D2 := Hd.mk (D2q.out.below hFlt.out (below_drewN (Below.refl _ _) nq))
      clear bt bg bgf a0 a1 a2 a3 a4 a5 a6 af D2q DX CX hgX
      generalize X.drewN nq = X2 at *
      obtain ⟨v, hv⟩ : ∃ v, u = v := ⟨_, rfl⟩
      subst hv
      have hiv0 := hiu
      have hyv := hy
      have hdv := hd2
      have hvh := hh
      obtain ⟨FZ, hnZ, hFZ⟩ := D2.out.nav
      obtain ⟨E1', p1', q1', E2', p2', q2', E3', p3', q3', CZ⟩ := hnZ
      obtain ⟨a0, a1, a2, a3, a4, a5, a6, af⟩ := nav_cells CZ.heap
      have bg := cell_of_row _ _ 0 _ _ _ D2.out.bg
      simp only [List.getElem?_toArray, List.getElem?_cons_zero] at bg
      have hFZ' := Hd.mk hFZ
      clear hFZ
      rw [hvh] at a1
      simp only [if_true] at a1
      clear hh
      go_wp2_with fail
      clear ht
      have hl1 := CZ.o1.len
      have hl2 := CZ.o2.len
      have hlg := hiv0.out.long
      have hp1 : p1' ≤ 32 := by omega
      have hp2 : p2' ≤ 32 := by omega
      have HL1 := Hd.mk hl1
      have HL2 := Hd.mk hl2
      have hm3 := Hd.mk CZ.o3.len
      clear hl1 hl2 hlg
      have hwn : IntKind.i64.wrap ((p1' : Int) + (p2' : Int)) = (p1' : Int) + (p2' : Int) := by rw [IntKind.wrap_i64]; omega
      go_quiet (fail)
      clear hwn
      have CZd := CZ.drewN nq
      have D2d := Hd.mk (D2.out.below hFlt.out (below_drewN (Below.refl _ _) nq))
      obtain ⟨b0, b1, b2, b3, b4, b5, b6, bf⟩ := nav_cells CZd.heap
      clear a0 a1 a2 a3 a4 a5 a6 af bg D2 CZ
      generalize X2.drewN nq = Y2 at *
      go_wp2_with fail
      refine (reverse104 E1' p1' q1' u.bh _ CZd.o1 (by omega)).mono ?_
      rintro e X3 ⟨rfl, or3, tr3⟩
      have N3 := CZd.in1 or3 tr3
      have D3 := Hd.mk (D2d.out.go hFlt.out hFZ'.out N3.to)
      have hF3 : Hd (∀ k, up FZ Y2 X3 k → F k ∨ w.heap.size + 2 ≤ k) := ⟨fun k e => e.elim (hFZ'.out k) (fun e => .inr (by have := D2d.out.sz; omega))⟩
      obtain ⟨C3, _⟩ := N3
      have hh3 := C3.heap
      have HVH := Hd.mk hvh
      clear b0 b1 b2 b3 b4 b5 b6 bf or3 tr3 D2d CZd hvh
      go_wp2_with fail
      refine region_zone 13 [false, false, false, false, false, false, false, false, false, false, false, false, false] (by kernel_rfl) (by kernel_rfl) hmix (fun w' => w'.heap[g]? = some (.cells #[.int .i64 1, .int .i64 (if u.has then 1 else 0), .int .i64 u.now.1, .int .i64 u.now.2, .slice E1' p1' q1', .slice E2' p2' q2', .slice E3' p3' q3'] 78 (0, 0))) [12] ?_ (fun hS => ?_)
      · exact hh3
      refine wpAnyZ_take0 (i := 0) (oi := ⟨_, _, _, _, _, _⟩) (v := ?_) rfl (by decide +kernel) (fun _ _ _ h => h) (Or.inl ⟨by rfl, ?_⟩) (fun _ => hS) ?_
      rotate_left
      focus (intro w _; go_simp; (try with_reducible rfl); done)
      simp only [Act.put, List.setIfInBounds_toArray, List.set_cons_zero, List.set_cons_succ]
      refine wpAnyZ_take0 (i := 1) (oi := ⟨_, _, _, _, _, _⟩) (v := ?_) rfl (by decide +kernel) (fun _ _ _ h => h) (Or.inl ⟨by rfl, ?_⟩) (fun _ => hS) ?_
      rotate_left
      focus (intro w _; go_simp; (try with_reducible rfl); done)
      simp only [Act.put, List.setIfInBounds_toArray, List.set_cons_zero, List.set_cons_succ]
      refine wpAnyZ_take0 (i := 2) (oi := ⟨_, _, _, _, _, _⟩) (v := ?_) rfl (by decide +kernel) (fun _ _ _ h => h) (Or.inl ⟨by rfl, ?_⟩) (fun _ => hS) ?_
      rotate_left
      focus (intro w _; go_simp; (try with_reducible rfl); done)
      simp only [Act.put, List.setIfInBounds_toArray, List.set_cons_zero, List.set_cons_succ]
      refine wpAnyZ_take0 (i := 3) (oi := ⟨_, _, _, _, _, _⟩) (v := ?_) rfl (by decide +kernel) (fun _ _ _ h => h) (Or.inl ⟨by rfl, ?_⟩) (fun _ => hS) ?_
      rotate_left
      focus (intro w _; go_simp; (try with_reducible rfl); done)
      simp only [Act.put, List.setIfInBounds_toArray, List.set_cons_zero, List.set_cons_succ]
      refine wpAnyZ_take (i := 4) (oi := ⟨_, _, _, _, _, _⟩) (v := ?_) rfl (by decide +kernel) (fun _ _ _ h => h) (Or.inl ⟨by rfl, ?_⟩) hS ?_
      rotate_left
      focus (intro w hSw; (try dsimp only at hSw); obtain ⟨z0, z1, z2, z3, z4, z5, z6, zf⟩ := nav_cells hSw; clear hSw; go_simp; (try with_reducible rfl); done)
      simp only [Act.put, List.setIfInBounds_toArray, List.set_cons_zero, List.set_cons_succ]
      refine wpAnyZ_take0 (i := 5) (oi := ⟨_, _, _, _, _, _⟩) (v := ?_) rfl (by decide +kernel) (fun _ _ _ h => h) (Or.inl ⟨by rfl, ?_⟩) (fun _ => hS) ?_
      rotate_left
      focus (intro w _; go_simp; (try with_reducible rfl); done)
      simp only [Act.put, List.setIfInBounds_toArray, List.set_cons_zero, List.set_cons_succ]
      refine wpAnyZ_take0 (i := 6) (oi := ⟨_, _, _, _, _, _⟩) (v := ?_) rfl (by decide +kernel) (fun _ _ _ h => h) (Or.inl ⟨by rfl, ?_⟩) (fun _ => hS) ?_
      rotate_left
      focus (intro w _; go_simp; (try with_reducible rfl); done)
      simp only [Act.put, List.setIfInBounds_toArray, List.set_cons_zero, List.set_cons_succ]
      refine wpAnyZ_take0 (i := 7) (oi := ⟨_, _, _, _, _, _⟩) (v := ?_) rfl (by decide +kernel) (fun _ _ _ h => h) (Or.inl ⟨by rfl, ?_⟩) (fun _ => hS) ?_
      rotate_left
      focus (intro w _; go_simp; (try with_reducible rfl); done)
      simp only [Act.put, List.setIfInBounds_toArray, List.set_cons_zero, List.set_cons_succ]
      refine wpAnyZ_take (i := 8) (oi := ⟨_, _, _, _, _, _⟩) (v := ?_) rfl (by decide +kernel) (fun _ _ _ h => h) (Or.inl ⟨by rfl, ?_⟩) hS ?_
      rotate_left
      focus (intro w hSw; (try dsimp only at hSw); obtain ⟨z0, z1, z2, z3, z4, z5, z6, zf⟩ := nav_cells hSw; clear hSw; go_simp; (try with_reducible rfl); done)
      simp only [Act.put, List.setIfInBounds_toArray, List.set_cons_zero, List.set_cons_succ]
      refine wpAnyZ_one (i := 9) rfl (by decide +kernel) (fun K hKK => ?_)
      go_simp
      refine (apart105 E1' p1' q1' u.bh.reverse u.now _ (Own.rd C3.drew.o1) (by omega)).mono ?_
      rintro e X4 ⟨A4, n4, c4, rfl, o4, b4⟩
      have hq4 := Hd.mk ((b4.block g C3.glt).trans hh3)
      clear hS
      have hS := hq4.out
      refine hKK.out _ _ (fun _ => hS) ?_
      clear hKK
      have N4 := (NavT.refl C3).st1 (below_drew X3) (Slot.fresh o4 b4)
      have D4 := Hd.mk (D3.out.go hFlt.out hF3.out N4.to)
      have hn4 : n4 = (apartP u.now u.bh.reverse).length := o4.len.symm
      have hn4' : n4 ≤ 32 := by rw [hn4]; have h1 := (apartP_sub u.now u.bh.reverse).length_le; rw [List.length_reverse, HL1.out] at h1; omega
      have HN4 := Hd.mk hn4
      clear hn4 o4 b4
      simp only [List.setIfInBounds_toArray, List.set_cons_zero, List.set_cons_succ]
      refine wpAnyZ_take0 (i := 10) (oi := ⟨_, _, _, _, _, _⟩) (v := ?_) rfl (by decide +kernel) (fun _ _ _ h => h) (Or.inl ⟨by rfl, ?_⟩) (fun _ => hS) ?_
      rotate_left
      focus (intro w _; go_simp; (try with_reducible rfl); done)
      simp only [Act.put, List.setIfInBounds_toArray, List.set_cons_zero, List.set_cons_succ]
      refine wpAnyZ_take0 (i := 11) (oi := ⟨_, _, _, _, _, _⟩) (v := ?_) rfl (by decide +kernel) (fun _ _ _ h => h) (Or.inl ⟨by rfl, ?_⟩) (fun _ => hS) ?_
      rotate_left
      focus (intro w _; go_simp; (try with_reducible rfl); done)
      simp only [Act.put, List.setIfInBounds_toArray, List.set_cons_zero, List.set_cons_succ]
      refine wpAnyZ_one (i := 12) rfl (by decide +kernel) (fun K hKK => ?_)
      clear hh3 hS
      obtain ⟨b0, b1, b2, b3, b4, b5, b6, bf⟩ := nav_cells hq4.out
      go_simp
      clear b0 b1 b2 b3 b4 b5 b6 bf hq4
      refine hKK.out _ _ (fun hz => absurd hz (by decide +kernel)) ?_
      clear hKK
      refine wpAnyZ_done (by decide +kernel) ?_
      have hF4 : Hd (∀ k, up (up FZ Y2 X3) X3 (X4.setCell ⟨g, 4, none⟩ (.slice A4 n4 c4)) k → F k ∨ w.heap.size + 2 ≤ k) := ⟨fun k e => e.elim (hF3.out k) (fun e => .inr (by have := D3.out.sz; omega))⟩
      obtain ⟨C4, _⟩ := N4
      obtain ⟨F4, hF4e⟩ : ∃ F4, F4 = up (up FZ Y2 X3) X3 (X4.setCell ⟨g, 4, none⟩ (.slice A4 n4 c4)) := ⟨_, rfl⟩
      rw [← hF4e] at C4 hF4
      clear hF4e C3 D3
      generalize X4.setCell ⟨g, 4, none⟩ (.slice A4 n4 c4) = Y4 at *
      obtain ⟨b0, b1, b2, b3, b4, b5, b6, bf⟩ := nav_cells C4.heap
      go_wp2_with fail
      refine (reverse104 A4 n4 c4 (apartP u.now u.bh.reverse) _ C4.o1 (by omega)).mono ?_
      rintro e X5 ⟨rfl, or5, tr5⟩
      have N5 := C4.in1 or5 tr5
      have D5 := Hd.mk (D4.out.go hFlt.out hF4.out N5.to)
      have hF5 : Hd (∀ k, up F4 Y4 X5 k → F k ∨ w.heap.size + 2 ≤ k) := ⟨fun k e => e.elim (hF4.out k) (fun e => .inr (by have := D4.out.sz; omega))⟩
      obtain ⟨C5, _⟩ := N5
      have hh5 := C5.heap
      clear b0 b1 b2 b3 b4 b5 b6 bf or5 tr5 D4 C4
      go_wp2_with fail
      refine region_zone 13 [false, false, false, false, false, false, false, false, false, false, false, false, false] (by kernel_rfl) (by kernel_rfl) hmix (fun w' => w'.heap[g]? = some (.cells #[.int .i64 1, .int .i64 (if u.has then 1 else 0), .int .i64 u.now.1, .int .i64 u.now.2, .slice A4 n4 c4, .slice E2' p2' q2', .slice E3' p3' q3'] 78 (0, 0))) [12] ?_ (fun hS => ?_)
      · exact hh5
      refine wpAnyZ_take0 (i := 0) (oi := ⟨_, _, _, _, _, _⟩) (v := ?_) rfl (by decide +kernel) (fun _ _ _ h => h) (Or.inl ⟨by rfl, ?_⟩) (fun _ => hS) ?_
      rotate_left
      focus (intro w _; go_simp; (try with_reducible rfl); done)
      simp only [Act.put, List.setIfInBounds_toArray, List.set_cons_zero, List.set_cons_succ]
      refine wpAnyZ_take0 (i := 1) (oi := ⟨_, _, _, _, _, _⟩) (v := ?_) rfl (by decide +kernel) (fun _ _ _ h => h) (Or.inl ⟨by rfl, ?_⟩) (fun _ => hS) ?_
      rotate_left
      focus (intro w _; go_simp; (try with_reducible rfl); done)
      simp only [Act.put, List.setIfInBounds_toArray, List.set_cons_zero, List.set_cons_succ]
      refine wpAnyZ_take0 (i := 2) (oi := ⟨_, _, _, _, _, _⟩) (v := ?_) rfl (by decide +kernel) (fun _ _ _ h => h) (Or.inl ⟨by rfl, ?_⟩) (fun _ => hS) ?_
      rotate_left
      focus (intro w _; go_simp; (try with_reducible rfl); done)
      simp only [Act.put, List.setIfInBounds_toArray, List.set_cons_zero, List.set_cons_succ]
      refine wpAnyZ_take0 (i := 3) (oi := ⟨_, _, _, _, _, _⟩) (v := ?_) rfl (by decide +kernel) (fun _ _ _ h => h) (Or.inl ⟨by rfl, ?_⟩) (fun _ => hS) ?_
      rotate_left
      focus (intro w _; go_simp; (try with_reducible rfl); done)
      simp only [Act.put, List.setIfInBounds_toArray, List.set_cons_zero, List.set_cons_succ]
      refine wpAnyZ_take (i := 4) (oi := ⟨_, _, _, _, _, _⟩) (v := ?_) rfl (by decide +kernel) (fun _ _ _ h => h) (Or.inl ⟨by rfl, ?_⟩) hS ?_
      rotate_left
      focus (intro w hSw; (try dsimp only at hSw); obtain ⟨z0, z1, z2, z3, z4, z5, z6, zf⟩ := nav_cells hSw; clear hSw; go_simp; (try with_reducible rfl); done)
      simp only [Act.put, List.setIfInBounds_toArray, List.set_cons_zero, List.set_cons_succ]
      refine wpAnyZ_take0 (i := 5) (oi := ⟨_, _, _, _, _, _⟩) (v := ?_) rfl (by decide +kernel) (fun _ _ _ h => h) (Or.inl ⟨by rfl, ?_⟩) (fun _ => hS) ?_
      rotate_left
      focus (intro w _; go_simp; (try with_reducible rfl); done)
      simp only [Act.put, List.setIfInBounds_toArray, List.set_cons_zero, List.set_cons_succ]
      refine wpAnyZ_take0 (i := 6) (oi := ⟨_, _, _, _, _, _⟩) (v := ?_) rfl (by decide +kernel) (fun _ _ _ h => h) (Or.inl ⟨by rfl, ?_⟩) (fun _ => hS) ?_
      rotate_left
      focus (intro w _; go_simp; (try with_reducible rfl); done)
      simp only [Act.put, List.setIfInBounds_toArray, List.set_cons_zero, List.set_cons_succ]
      refine wpAnyZ_take0 (i := 7) (oi := ⟨_, _, _, _, _, _⟩) (v := ?_) rfl (by decide +kernel) (fun _ _ _ h => h) (Or.inl ⟨by rfl, ?_⟩) (fun _ => hS) ?_
      rotate_left
      focus (intro w _; go_simp; (try with_reducible rfl); done)
      simp only [Act.put, List.setIfInBounds_toArray, List.set_cons_zero, List.set_cons_succ]
      refine wpAnyZ_take (i := 8) (oi := ⟨_, _, _, _, _, _⟩) (v := ?_) rfl (by decide +kernel) (fun _ _ _ h => h) (Or.inl ⟨by rfl, ?_⟩) hS ?_
      rotate_left
      focus (intro w hSw; (try dsimp only at hSw); obtain ⟨z0, z1, z2, z3, z4, z5, z6, zf⟩ := nav_cells hSw; clear hSw; go_simp; (try with_reducible rfl); done)
      simp only [Act.put, List.setIfInBounds_toArray, List.set_cons_zero, List.set_cons_succ]
      refine wpAnyZ_one (i := 9) rfl (by decide +kernel) (fun K hKK => ?_)
      go_simp
      refine (apart105 E2' p2' q2' u.ah u.now _ (Own.rd C5.drew.o2) (by omega)).mono ?_
      rintro e X6 ⟨A6, n6, c6, rfl, o6, b6⟩
      have hq6 := Hd.mk ((b6.block g C5.glt).trans hh5)
      clear hS
      have hS := hq6.out
      refine hKK.out _ _ (fun _ => hS) ?_
      clear hKK
      have N6 := (NavT.refl C5).st2 (below_drew X5) (Slot.fresh o6 b6)
      have D6 := Hd.mk (D5.out.go hFlt.out hF5.out N6.to)
      have hn6 : n6 = (apartP u.now u.ah).length := o6.len.symm
      have hn6' : n6 ≤ 32 := by rw [hn6]; have h1 := (apartP_sub u.now u.ah).length_le; rw [HL2.out] at h1; omega
      have HN6 := Hd.mk hn6
      clear hn6 o6 b6
      simp only [List.setIfInBounds_toArray, List.set_cons_zero, List.set_cons_succ]
      refine wpAnyZ_take0 (i := 10) (oi := ⟨_, _, _, _, _, _⟩) (v := ?_) rfl (by decide +kernel) (fun _ _ _ h => h) (Or.inl ⟨by rfl, ?_⟩) (fun _ => hS) ?_
      rotate_left
      focus (intro w _; go_simp; (try with_reducible rfl); done)
      simp only [Act.put, List.setIfInBounds_toArray, List.set_cons_zero, List.set_cons_succ]
      refine wpAnyZ_take0 (i := 11) (oi := ⟨_, _, _, _, _, _⟩) (v := ?_) rfl (by decide +kernel) (fun _ _ _ h => h) (Or.inl ⟨by rfl, ?_⟩) (fun _ => hS) ?_
      rotate_left
      focus (intro w _; go_simp; (try with_reducible rfl); done)
      simp only [Act.put, List.setIfInBounds_toArray, List.set_cons_zero, List.set_cons_succ]
      refine wpAnyZ_one (i := 12) rfl (by decide +kernel) (fun K hKK => ?_)
      clear hh5 hS
      obtain ⟨b0, b1, b2, b3, b4, b5, b6, bf⟩ := nav_cells hq6.out
      go_simp
      clear b0 b1 b2 b3 b4 b5 b6 bf hq6
      refine hKK.out _ _ (fun hz => absurd hz (by decide +kernel)) ?_
      clear hKK
      refine wpAnyZ_done (by decide +kernel) ?_
      have hq6 := Hd.mk N6.c.heap
      clear N6 D5 C5
      generalize X6.setCell ⟨g, 5, none⟩ (.slice A6 n6 c6) = Y6 at *
      obtain ⟨yv, hyvd⟩ : ∃ yv : Int, Hd (y3 = yv) := ⟨_, ⟨rfl⟩⟩
      have hyv0 : 0 ≤ yv ∧ yv ≤ 81 := by rw [← hyvd.out]; omega
      obtain ⟨hyv0, hyv1⟩ := hyv0
      rw [hyvd.out] at D6 hyv
      have bgY := D6.out.bg
      go_wp2_with fail
      have w1' : IntKind.i64.wrap ((p1' : Int) + (p2' : Int) - (n4 : Int)) = (p1' : Int) + (p2' : Int) - (n4 : Int) := by rw [IntKind.wrap_i64]; omega
      have w2' : IntKind.i64.wrap ((p1' : Int) + (p2' : Int) - (n4 : Int) - (n6 : Int)) = (p1' : Int) + (p2' : Int) - (n4 : Int) - (n6 : Int) := by rw [IntKind.wrap_i64]; omega
      have w3' : IntKind.i64.wrap (yv + ((p1' : Int) + (p2' : Int) - (n4 : Int) - (n6 : Int))) = yv + ((p1' : Int) + (p2' : Int) - (n4 : Int) - (n6 : Int)) := by rw [IntKind.wrap_i64]; omega
      refine region_zone 16 [false, false, false, false, false, false, false, false, false, false, false, false, false, false, false, false] (by kernel_rfl) (by kernel_rfl) hmix (fun w' => w'.heap[g]? = some (.cells #[.int .i64 1, .int .i64 (if u.has then 1 else 0), .int .i64 u.now.1, .int .i64 u.now.2, .slice A4 n4 c4, .slice A6 n6 c6, .slice E3' p3' q3'] 78 (0, 0)) ∧ w'.heap[w.heap.size + 1]? = some (.cells #[.int .i64 yv] 3 (0, 0))) [15] ?_ (fun hS => ?_)
      · exact ⟨hq6.out, bgY⟩
      refine wpAnyZ_take (i := 0) (oi := ⟨_, _, _, _, _, _⟩) (v := ?_) rfl (by decide +kernel) (fun _ _ _ h => h) (Or.inl ⟨by rfl, ?_⟩) hS ?_
      rotate_left
      focus (intro w hSw; (try dsimp only at hSw); obtain ⟨hSw, y0⟩ := hSw; obtain ⟨z0, z1, z2, z3, z4, z5, z6, zf⟩ := nav_cells hSw; have k0 := cell_of_row _ _ 0 _ _ _ y0; simp only [List.getElem?_toArray, List.getElem?_cons_zero] at k0; clear hSw y0; go_simp; (try with_reducible rfl); done)
      simp only [Act.put, List.setIfInBounds_toArray, List.set_cons_zero, List.set_cons_succ]
      refine wpAnyZ_take0 (i := 1) (oi := ⟨_, _, _, _, _, _⟩) (v := ?_) rfl (by decide +kernel) (fun _ _ _ h => h) (Or.inl ⟨by rfl, ?_⟩) (fun _ => hS) ?_
      rotate_left
      focus (intro w _; go_simp; (try with_reducible rfl); done)
      simp only [Act.put, List.setIfInBounds_toArray, List.set_cons_zero, List.set_cons_succ]
      refine wpAnyZ_take0 (i := 2) (oi := ⟨_, _, _, _, _, _⟩) (v := ?_) rfl (by decide +kernel) (fun _ _ _ h => h) (Or.inl ⟨by rfl, ?_⟩) (fun _ => hS) ?_
      rotate_left
      focus (intro w _; go_simp; (try with_reducible rfl); done)
      simp only [Act.put, List.setIfInBounds_toArray, List.set_cons_zero, List.set_cons_succ]
      refine wpAnyZ_take0 (i := 3) (oi := ⟨_, _, _, _, _, _⟩) (v := ?_) rfl (by decide +kernel) (fun _ _ _ h => h) (Or.inl ⟨by rfl, ?_⟩) (fun _ => hS) ?_
      rotate_left
      focus (intro w _; go_simp; (try with_reducible rfl); done)
      simp only [Act.put, List.setIfInBounds_toArray, List.set_cons_zero, List.set_cons_succ]
      refine wpAnyZ_take0 (i := 4) (oi := ⟨_, _, _, _, _, _⟩) (v := ?_) rfl (by decide +kernel) (fun _ _ _ h => h) (Or.inl ⟨by rfl, ?_⟩) (fun _ => hS) ?_
      rotate_left
      focus (intro w _; go_simp; (try with_reducible rfl); done)
      simp only [Act.put, List.setIfInBounds_toArray, List.set_cons_zero, List.set_cons_succ]
      refine wpAnyZ_take (i := 5) (oi := ⟨_, _, _, _, _, _⟩) (v := ?_) rfl (by decide +kernel) (fun _ _ _ h => h) (Or.inl ⟨by rfl, ?_⟩) hS ?_
      rotate_left
      focus (intro w hSw; (try dsimp only at hSw); obtain ⟨hSw, y0⟩ := hSw; obtain ⟨z0, z1, z2, z3, z4, z5, z6, zf⟩ := nav_cells hSw; have k0 := cell_of_row _ _ 0 _ _ _ y0; simp only [List.getElem?_toArray, List.getElem?_cons_zero] at k0; clear hSw y0; go_simp; (try with_reducible rfl); done)
      simp only [Act.put, List.setIfInBounds_toArray, List.set_cons_zero, List.set_cons_succ]
      refine wpAnyZ_take0 (i := 6) (oi := ⟨_, _, _, _, _, _⟩) (v := ?_) rfl (by decide +kernel) (fun _ _ _ h => h) (Or.inl ⟨by rfl, ?_⟩) (fun _ => hS) ?_
      rotate_left
      focus (intro w _; go_simp; (try with_reducible rfl); done)
      simp only [Act.put, List.setIfInBounds_toArray, List.set_cons_zero, List.set_cons_succ]
      refine wpAnyZ_take0 (i := 7) (oi := ⟨_, _, _, _, _, _⟩) (v := ?_) rfl (by decide +kernel) (fun _ _ _ h => h) (Or.inl ⟨by rfl, ?_⟩) (fun _ => hS) ?_
      rotate_left
      focus (intro w _; go_simp; (try with_reducible rfl); done)
      simp only [Act.put, List.setIfInBounds_toArray, List.set_cons_zero, List.set_cons_succ]
      refine wpAnyZ_take0 (i := 8) (oi := ⟨_, _, _, _, _, _⟩) (v := ?_) rfl (by decide +kernel) (fun _ _ _ h => h) (Or.inl ⟨by rfl, ?_⟩) (fun _ => hS) ?_
      rotate_left
      focus (intro w _; go_simp; (try with_reducible rfl); done)
      simp only [Act.put, List.setIfInBounds_toArray, List.set_cons_zero, List.set_cons_succ]
      refine wpAnyZ_take0 (i := 9) (oi := ⟨_, _, _, _, _, _⟩) (v := ?_) rfl (by decide +kernel) (fun _ _ _ h => h) (Or.inl ⟨by rfl, ?_⟩) (fun _ => hS) ?_
      rotate_left
      focus (intro w _; go_simp; (try with_reducible rfl); done)
      simp only [Act.put, List.setIfInBounds_toArray, List.set_cons_zero, List.set_cons_succ]
      refine wpAnyZ_take0 (i := 10) (oi := ⟨_, _, _, _, _, _⟩) (v := ?_) rfl (by decide +kernel) (fun _ _ _ h => h) (Or.inl ⟨by rfl, ?_⟩) (fun _ => hS) ?_
      rotate_left
      focus (intro w _; go_simp; (try with_reducible rfl); done)
      simp only [Act.put, List.setIfInBounds_toArray, List.set_cons_zero, List.set_cons_succ]
      refine wpAnyZ_take (i := 11) (oi := ⟨_, _, _, _, _, _⟩) (v := ?_) rfl (by decide +kernel) (fun _ _ _ h => h) (Or.inl ⟨by rfl, ?_⟩) hS ?_
      rotate_left
      focus (intro w hSw; (try dsimp only at hSw); obtain ⟨hSw, y0⟩ := hSw; obtain ⟨z0, z1, z2, z3, z4, z5, z6, zf⟩ := nav_cells hSw; have k0 := cell_of_row _ _ 0 _ _ _ y0; simp only [List.getElem?_toArray, List.getElem?_cons_zero] at k0; clear hSw y0; go_simp; (try with_reducible rfl); done)
      simp only [Act.put, List.setIfInBounds_toArray, List.set_cons_zero, List.set_cons_succ]
      refine wpAnyZ_take0 (i := 12) (oi := ⟨_, _, _, _, _, _⟩) (v := ?_) rfl (by decide +kernel) (fun _ _ _ h => h) (Or.inl ⟨by rfl, ?_⟩) (fun _ => hS) ?_
      rotate_left
      focus (intro w _; go_simp; (try with_reducible rfl); done)
      simp only [Act.put, List.setIfInBounds_toArray, List.set_cons_zero, List.set_cons_succ]
      refine wpAnyZ_take0 (i := 13) (oi := ⟨_, _, _, _, _, _⟩) (v := ?_) rfl (by decide +kernel) (fun _ _ _ h => h) (Or.inl ⟨by rfl, ?_⟩) (fun _ => hS) ?_
      rotate_left
      focus (intro w _; go_simp; (try with_reducible rfl); done)
      simp only [Act.put, List.setIfInBounds_toArray, List.set_cons_zero, List.set_cons_succ]
      refine wpAnyZ_take0 (i := 14) (oi := ⟨_, _, _, _, _, _⟩) (v := ?_) rfl (by decide +kernel) (fun _ _ _ h => h) (Or.inl ⟨by rfl, ?_⟩) (fun _ => hS) ?_
      rotate_left
      focus (intro w _; go_simp; (try with_reducible rfl); done)
      simp only [Act.put, List.setIfInBounds_toArray, List.set_cons_zero, List.set_cons_succ]
      refine wpAnyZ_one (i := 15) rfl (by decide +kernel) (fun K hKK => ?_)
      have kf := frozen_of_row _ (w.heap.size + 1) 0 _ _ hS.2
      have k0 := cell_of_row _ _ 0 _ _ _ hS.2
      simp only [List.getElem?_toArray, List.getElem?_cons_zero] at k0
      clear hS
      go_simp
      refine hKK.out _ _ (fun hz => absurd hz (by decide +kernel)) ?_
      clear hKK
      refine wpAnyZ_done (by decide +kernel) ?_
      have D7 := Hd.mk (((D6.out.below hFlt.out (below_drew Y6)).gone hFlt.out (yv + ((p1' : Int) + (p2' : Int) - (n4 : Int) - (n6 : Int)))))
      have bg7 := cell_of_row _ _ 0 _ _ _ D7.out.bg
      simp only [List.getElem?_toArray, List.getElem?_cons_zero] at bg7
      have bg8 : ((Y6.setCell ⟨w.heap.size + 1, 0, none⟩ (.int .i64 (yv + ((p1' : Int) + (p2' : Int) - (n4 : Int) - (n6 : Int))))).drew).cell? ⟨w.heap.size + 1, 0, none⟩ = some (.int .i64 (yv + ((p1' : Int) + (p2' : Int) - (n4 : Int) - (n6 : Int)))) := bg7
      clear bg7
      have hfin : Hd (yv + ((p1' : Int) + (p2' : Int) - (n4 : Int) - (n6 : Int)) = (s.many : Int) - (u.apartD.many : Int)) := ⟨by
        rw [hyv.out, HN4.out, HN6.out, ← HL1.out, ← HL2.out]
        unfold NS.apartD
        rw [if_pos HVH.out]
        unfold NS.many
        simp only [HVH.out, if_true, List.length_reverse]
        omega⟩
      have hap : Hd ({ ({ ({ u with bh := u.bh.reverse } : NS) with bh := apartP u.now u.bh.reverse } : NS) with bh := (apartP u.now u.bh.reverse).reverse, ah := apartP u.now u.ah } = u.apartD) := ⟨by unfold NS.apartD; rw [if_pos HVH.out]⟩
      clear k0 kf w1' w2' w3' bgY D6
      go_wp2
      go_ret
      rw [hdv.out]
      refine ⟨by show Ending.returned (.int .i64 (yv + ((p1' : Int) + (p2' : Int) - (n4 : Int) - (n6 : Int)))) = _; rw [hfin.out], ?_⟩
      have := D7.out.to hFlt.out
      rw [← hap.out]
      exact this
end Go.Proofs.Ytkgdcglnkodgnaa

