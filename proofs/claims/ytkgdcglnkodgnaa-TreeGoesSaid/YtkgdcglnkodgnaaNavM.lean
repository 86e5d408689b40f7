/-
  A reader of layer 26 in memory: its block, its slices, what a call may touch. No condition.
-/
import Derived.Test.YtkgdcglnkodgnaaNavP
import Derived.Test.YtkgdcglnkodgnaaClone
namespace Go.Proofs.Ytkgdcglnkodgnaa
open Go.RowKit
/-- Only blocks in F (and new ones) differ. -/
structure Tch (F : Nat → Prop) (w w' : World) : Prop where
  os : w'.os = w.os
  tape : w'.tape = w.tape
  output : w'.output = w.output
  size : w.heap.size ≤ w'.heap.size
  block : ∀ k, k < w.heap.size → ¬ F k → w'.heap[k]? = w.heap[k]?
theorem Tch.refl (F : Nat → Prop) (w : World) : Tch F w w := ⟨rfl, rfl, rfl, Nat.le_refl _, fun _ _ _ => rfl⟩
theorem Tch.of_below {F : Nat → Prop} {w w' : World} (h : Below w.heap.size w w') : Tch F w w' := ⟨h.os, h.tape, h.output, h.size, fun k hk _ => h.block k hk⟩
theorem Tch.of_grown {F : Nat → Prop} {w w' : World} {row : Option Nat} (h : w.grownBy w' row) (hr : ∀ k, row = some k → F k ∨ w.heap.size ≤ k) : Tch F w w' :=
  ⟨h.os, h.tape, h.output, h.size, fun k hk hn => h.block k hk (fun e => (hr k e.symm).elim hn (by omega))⟩
theorem Tch.mono {F G : Nat → Prop} {w w' : World} (h : Tch F w w') (hFG : ∀ k, k < w.heap.size → F k → G k) : Tch G w w' := ⟨h.os, h.tape, h.output, h.size, fun k hk hn => h.block k hk (fun f => hn (hFG k hk f))⟩
/-- F and what is new. -/
def up (F : Nat → Prop) (w w' : World) : Nat → Prop := fun k => F k ∨ (w.heap.size ≤ k ∧ k < w'.heap.size)
theorem Tch.trans {F : Nat → Prop} {w w1 w2 : World} (h : Tch F w w1) (h' : Tch (up F w w1) w1 w2) : Tch F w w2 :=
  ⟨h'.os.trans h.os, h'.tape.trans h.tape, h'.output.trans h.output, Nat.le_trans h.size h'.size, fun k hk hn => (h'.block k (Nat.lt_of_lt_of_le hk h.size) (fun u => u.elim hn (by omega))).trans (h.block k hk hn)⟩
theorem Tch.below {F : Nat → Prop} {w w' : World} {B : Nat} (h : Tch F w w') (hF : ∀ k, F k → B ≤ k) (hB : B ≤ w.heap.size) : Below B w w' :=
  ⟨h.os, h.tape, h.output, h.size, fun k hk => h.block k (by omega) (fun f => by have := hF k f; omega)⟩
theorem Tch.drewN {F : Nat → Prop} {w w' : World} {n : Nat} (h : Tch F (w.drewN n) w') : Tch F w w' := ⟨h.os, h.tape, h.output, h.size, h.block⟩
theorem Tch.setCell (F : Nat → Prop) (w : World) (g i : Nat) (v : Value) (hg : F g ∨ w.heap.size ≤ g) : Tch F w (w.setCell ⟨g, i, none⟩ v) :=
  Tch.of_grown (grown_cell v) (fun k e => by injection e with e; subst e; exact hg)
/-- A reader in block g, its slices. -/
structure NavC (w : World) (g : Nat) (F : Nat → Prop) (s : NS) (A1 : Option Addr) (n1 c1 : Nat) (A2 : Option Addr) (n2 c2 : Nat) (A3 : Option Addr) (n3 c3 : Nat) : Prop where
  heap : w.heap[g]? = some (.cells #[.int .i64 1, .int .i64 (if s.has then 1 else 0), .int .i64 s.now.1, .int .i64 s.now.2, .slice A1 n1 c1, .slice A2 n2 c2, .slice A3 n3 c3] 78 (0, 0))
  o1 : OwnP w 0 A1 n1 c1 s.bh
  o2 : OwnP w 0 A2 n2 c2 s.ah
  o3 : OwnP w 0 A3 n3 c3 s.mks
  fg : F g
  f1 : ∀ k, ownBlk A1 c1 = some k → F k
  f2 : ∀ k, ownBlk A2 c2 = some k → F k
  f3 : ∀ k, ownBlk A3 c3 = some k → F k
  d12 : ∀ k, ownBlk A1 c1 = some k → ownBlk A2 c2 ≠ some k
  d13 : ∀ k, ownBlk A1 c1 = some k → ownBlk A3 c3 ≠ some k
  d23 : ∀ k, ownBlk A2 c2 = some k → ownBlk A3 c3 ≠ some k
  lt : ∀ k, F k → k < w.heap.size
def NavAt (w : World) (g : Nat) (F : Nat → Prop) (s : NS) : Prop := ∃ A1 n1 c1 A2 n2 c2 A3 n3 c3, NavC w g F s A1 n1 c1 A2 n2 c2 A3 n3 c3
/-- What a call on a reader leaves. -/
def NavTo (w w' : World) (g : Nat) (F : Nat → Prop) (s : NS) : Prop := NavAt w' g (up F w w') s ∧ Tch F w w'
theorem OwnP.len {w : World} {base : Nat} {A : Option Addr} {n c : Nat} {l : List Pl} (h : OwnP w base A n c l) : l.length = n := by
  have := h.1; rw [pc_length] at this; omega
theorem OwnP.ne_nav {w : World} {base : Nat} {A : Option Addr} {n c g : Nat} {l : List Pl} {cs : Array Value} {T : TypeId} (hT : T ≠ 58) (h : OwnP w base A n c l) (hg : w.heap[g]? = some (.cells cs T (0, 0))) : ∀ k, ownBlk A c = some k → k ≠ g := by
  intro k hk e
  subst e
  rcases h.2.2.2 with h0 | ⟨g', off, cur, h1, _, h3, _⟩
  · simp [ownBlk, h0] at hk
  · unfold ownBlk at hk
    split at hk
    · cases hk
    · simp [h1] at hk
      subst hk
      rw [hg] at h3
      injection h3 with h3
      injection h3 with _ h3
      exact hT h3
theorem OwnP.some_ {w : World} {base : Nat} {A : Option Addr} {n c : Nat} {l : List Pl} (h : OwnP w base A n c l) : A = none → n = 0 := by
  intro e
  rcases Nat.eq_zero_or_pos n with h0 | h0
  · exact h0
  · obtain ⟨ad, h1, _⟩ := (Own.rd h).2 h0
    rw [e] at h1; cases h1
section
variable {w w' : World} {g : Nat} {F : Nat → Prop} {s : NS} {A1 A2 A3 : Option Addr} {n1 c1 n2 c2 n3 c3 : Nat}
theorem NavC.mono (h : NavC w g F s A1 n1 c1 A2 n2 c2 A3 n3 c3) {G : Nat → Prop} (hFG : ∀ k, F k → G k) (hG : ∀ k, G k → k < w.heap.size) : NavC w g G s A1 n1 c1 A2 n2 c2 A3 n3 c3 :=
  ⟨h.heap, h.o1, h.o2, h.o3, hFG _ h.fg, fun k e => hFG k (h.f1 k e), fun k e => hFG k (h.f2 k e), fun k e => hFG k (h.f3 k e), h.d12, h.d13, h.d23, hG⟩
theorem NavAt.mono (h : NavAt w g F s) {G : Nat → Prop} (hFG : ∀ k, F k → G k) (hG : ∀ k, G k → k < w.heap.size) : NavAt w g G s := by
  obtain ⟨A1, n1, c1, A2, n2, c2, A3, n3, c3, h⟩ := h
  exact ⟨A1, n1, c1, A2, n2, c2, A3, n3, c3, h.mono hFG hG⟩
theorem NavAt.lt (h : NavAt w g F s) : ∀ k, F k → k < w.heap.size := by
  obtain ⟨A1, n1, c1, A2, n2, c2, A3, n3, c3, h⟩ := h
  exact h.lt
theorem NavAt.in_ (h : NavAt w g F s) : F g := by
  obtain ⟨A1, n1, c1, A2, n2, c2, A3, n3, c3, h⟩ := h
  exact h.fg
/-- What the walk wants: the cells. -/
theorem nav_cells {a b c d e f i : Value} (h : w.heap[g]? = some (.cells #[a, b, c, d, e, f, i] 78 (0, 0))) :
    w.cell? ⟨g, 0, none⟩ = some a ∧ w.cell? ⟨g, 1, none⟩ = some b ∧ w.cell? ⟨g, 2, none⟩ = some c ∧ w.cell? ⟨g, 3, none⟩ = some d ∧ w.cell? ⟨g, 4, none⟩ = some e ∧ w.cell? ⟨g, 5, none⟩ = some f ∧ w.cell? ⟨g, 6, none⟩ = some i ∧
    (∀ j, w.frozen? ⟨g, j, none⟩ = false) := by
  refine ⟨?_, ?_, ?_, ?_, ?_, ?_, ?_, fun j => frozen_of_row w g j _ _ h⟩
  all_goals
    rw [cell_of_row w g _ _ _ _ h]; rfl
/-- Blocks outside the reader's differ, at most. -/
theorem NavC.keep (h : NavC w g F s A1 n1 c1 A2 n2 c2 A3 n3 c3) {G : Nat → Prop} (ht : Tch G w w') (hG : ∀ k, F k → ¬ G k) : NavC w' g F s A1 n1 c1 A2 n2 c2 A3 n3 c3 := by
  have hk : ∀ k, F k → w'.heap[k]? = w.heap[k]? := fun k hF => ht.block k (h.lt k hF) (hG k hF)
  exact ⟨(hk g h.fg).trans h.heap, Own.keep h.o1 fun k e _ _ => hk k (h.f1 k e), Own.keep h.o2 fun k e _ _ => hk k (h.f2 k e), Own.keep h.o3 fun k e _ _ => hk k (h.f3 k e), h.fg, h.f1, h.f2, h.f3, h.d12, h.d13, h.d23,
    fun k hF => Nat.lt_of_lt_of_le (h.lt k hF) ht.size⟩
theorem NavAt.keep (h : NavAt w g F s) {G : Nat → Prop} (ht : Tch G w w') (hG : ∀ k, F k → ¬ G k) : NavAt w' g F s := by
  obtain ⟨A1, n1, c1, A2, n2, c2, A3, n3, c3, h⟩ := h
  exact ⟨A1, n1, c1, A2, n2, c2, A3, n3, c3, h.keep ht hG⟩
theorem NavC.below (h : NavC w g F s A1 n1 c1 A2 n2 c2 A3 n3 c3) (hb : Below w.heap.size w w') : NavC w' g F s A1 n1 c1 A2 n2 c2 A3 n3 c3 := h.keep (Tch.of_below (F := fun _ => False) hb) (fun _ _ => id)
theorem NavAt.below (h : NavAt w g F s) (hb : Below w.heap.size w w') : NavAt w' g F s := h.keep (Tch.of_below (F := fun _ => False) hb) (fun _ _ => id)
theorem NavTo.refl (h : NavAt w g F s) : NavTo w w g F s := ⟨h.mono (fun _ => .inl) (fun k e => e.elim (h.lt k) (by omega)), Tch.refl _ _⟩
theorem NavTo.of_below (h : NavAt w g F s) (hb : Below w.heap.size w w') : NavTo w w' g F s :=
  ⟨(h.below hb).mono (fun _ => .inl) (fun k e => e.elim (fun f => Nat.lt_of_lt_of_le (h.lt k f) hb.size) And.right), Tch.of_below hb⟩
theorem NavTo.trans {w1 w2 : World} {s1 s2 : NS} (h : NavTo w w1 g F s1) (h' : NavTo w1 w2 g (up F w w1) s2) : NavTo w w2 g F s2 := by
  refine ⟨h'.1.mono (fun k e => ?_) (fun k e => ?_), h.2.trans h'.2⟩
  · rcases e with (e | e) | e
    · exact .inl e
    · exact .inr ⟨e.1, by have := h'.2.size; omega⟩
    · exact .inr ⟨by have := h.2.size; omega, e.2⟩
  · rcases e with e | e
    · exact h'.1.lt k (.inl (.inl e))
    · exact e.2
theorem NavTo.below {B : Nat} {w1 : World} {s1 : NS} (h : NavTo w w1 g F s1) (hF : ∀ k, F k → B ≤ k) (hB : B ≤ w.heap.size) : Below B w w1 := h.2.below hF hB
theorem up_ge {B : Nat} {w w1 : World} {F : Nat → Prop} (hF : ∀ k, F k → B ≤ k) (hB : B ≤ w.heap.size) : ∀ k, up F w w1 k → B ≤ k := fun k e => e.elim (hF k) (fun e => by omega)
/-- The new slice of a slot: its block was the slot's, or is new. -/
structure Slot (w w' : World) (A : Option Addr) (c : Nat) (A' : Option Addr) (n' c' : Nat) (l' : List Pl) : Prop where
  own : OwnP w' 0 A' n' c' l'
  blk : ∀ k, ownBlk A' c' = some k → ownBlk A c = some k ∨ w.heap.size ≤ k
  tch : Tch (fun k => ownBlk A c = some k) w w'
theorem Slot.ofApp {n' c : Nat} {A : Option Addr} {l : List Pl} {v : Value} (h : AppP w 0 A c n' l v w') (hA : ∀ k, ownBlk A c = some k → k < w.heap.size) : ∃ A' c', v = .slice A' n' c' ∧ Slot w w' A c A' n' c' l := by
  obtain ⟨A', c', rfl, ho, hg, hh⟩ := h
  refine ⟨A', c', rfl, ho, fun k e => ?_, Tch.of_grown hg (fun k e => .inl e)⟩
  rcases hh with ⟨rfl, rfl, _⟩ | hh
  · exact .inl e
  · right
    subst hh
    unfold ownBlk at e
    split at e
    · cases e
    · simp at e; omega
theorem Slot.fresh {A A' : Option Addr} {c n' c' : Nat} {l' : List Pl} (ho : OwnP w' w.heap.size A' n' c' l') (hb : Below w.heap.size w w') : Slot w w' A c A' n' c' l' :=
  ⟨Own.mono ho (Nat.zero_le _), fun _ e => .inr (Own.lt ho e).1, Tch.of_below hb⟩
theorem Slot.nil_ {A : Option Addr} {c : Nat} : Slot w w A c none 0 0 [] := ⟨OwnP.nil_ _ _ _, fun k e => by simp [ownBlk] at e, Tch.refl _ _⟩
/-- A slot's slice made in steps. -/
theorem Slot.trans {w1 : World} {A A1 A' : Option Addr} {c n1 c1 n' c' : Nat} {l1 l' : List Pl} (h : Slot w w1 A c A1 n1 c1 l1) (h' : Slot w1 w' A1 c1 A' n' c' l') : Slot w w' A c A' n' c' l' :=
  ⟨h'.own, fun k e => (h'.blk k e).elim (h.blk k) (fun e => .inr (by have := h.tch.size; omega)),
   ⟨h'.tch.os.trans h.tch.os, h'.tch.tape.trans h.tch.tape, h'.tch.output.trans h.tch.output, Nat.le_trans h.tch.size h'.tch.size, fun k hk hn => (h'.tch.block k (Nat.lt_of_lt_of_le hk h.tch.size) (fun e => (h.blk k e).elim hn (by omega))).trans (h.tch.block k hk hn)⟩⟩
/-- The reader's blocks when a slot's slice has been made anew. -/
theorem NavC.st1 (h : NavC w g F s A1 n1 c1 A2 n2 c2 A3 n3 c3) {A' : Option Addr} {n' c' : Nat} {l' : List Pl} (hs : Slot w w' A1 c1 A' n' c' l') :
    NavC (w'.setCell ⟨g, 4, none⟩ (.slice A' n' c')) g (up F w w') { s with bh := l' } A' n' c' A2 n2 c2 A3 n3 c3 ∧ Tch F w (w'.setCell ⟨g, 4, none⟩ (.slice A' n' c')) ∧ w'.heap[g]? = w.heap[g]? := by
  have ht := hs.tch
  have hgg : w'.heap[g]? = w.heap[g]? := ht.block g (h.lt g h.fg) (fun e => OwnP.ne_nav (by decide) h.o1 h.heap g e rfl)
  have hg' := hgg.trans h.heap
  have hset := heap_setCell_same w' g 4 _ 78 (.slice A' n' c') hg'
  have hother : ∀ k, k ≠ g → (w'.setCell ⟨g, 4, none⟩ (.slice A' n' c')).heap[k]? = w'.heap[k]? := fun k hk => heap_setCell_other w' ⟨g, 4, none⟩ k _ hk
  have k2 : ∀ k, ownBlk A2 c2 = some k → (w'.setCell ⟨g, 4, none⟩ (.slice A' n' c')).heap[k]? = w.heap[k]? := fun k e =>
    (hother k (OwnP.ne_nav (by decide) h.o2 h.heap k e)).trans (ht.block k (h.lt k (h.f2 k e)) (fun e1 => h.d12 k e1 e))
  have k3 : ∀ k, ownBlk A3 c3 = some k → (w'.setCell ⟨g, 4, none⟩ (.slice A' n' c')).heap[k]? = w.heap[k]? := fun k e =>
    (hother k (OwnP.ne_nav (by decide) h.o3 h.heap k e)).trans (ht.block k (h.lt k (h.f3 k e)) (fun e1 => h.d13 k e1 e))
  have hne' := OwnP.ne_nav (by decide) hs.own hg'
  refine ⟨⟨hset, Own.keep hs.own fun k e _ _ => hother k (hne' k e), Own.keep h.o2 fun k e _ _ => k2 k e, Own.keep h.o3 fun k e _ _ => k3 k e, .inl h.fg, fun k e => ?_, fun k e => .inl (h.f2 k e), fun k e => .inl (h.f3 k e), fun k e e2 => ?_, fun k e e2 => ?_, h.d23, fun k e => ?_⟩,
    ht.mono (fun k _ e => h.f1 k e) |>.trans (Tch.setCell _ _ _ _ _ (.inl (.inl h.fg))), hgg⟩
  · rcases hs.blk k e with e1 | e1
    · exact .inl (h.f1 k e1)
    · exact .inr ⟨e1, (Own.lt hs.own e).2⟩
  · rcases hs.blk k e with e1 | e1
    · exact h.d12 k e1 e2
    · have := h.lt k (h.f2 k e2); omega
  · rcases hs.blk k e with e1 | e1
    · exact h.d13 k e1 e2
    · have := h.lt k (h.f3 k e2); omega
  · have hz : (w'.setCell ⟨g, 4, none⟩ (.slice A' n' c')).heap.size = w'.heap.size := by simp [World.setCell]
    rw [hz]
    rcases e with e | e
    · have := h.lt k e; have := ht.size; omega
    · exact e.2
theorem NavC.st2 (h : NavC w g F s A1 n1 c1 A2 n2 c2 A3 n3 c3) {A' : Option Addr} {n' c' : Nat} {l' : List Pl} (hs : Slot w w' A2 c2 A' n' c' l') :
    NavC (w'.setCell ⟨g, 5, none⟩ (.slice A' n' c')) g (up F w w') { s with ah := l' } A1 n1 c1 A' n' c' A3 n3 c3 ∧ Tch F w (w'.setCell ⟨g, 5, none⟩ (.slice A' n' c')) ∧ w'.heap[g]? = w.heap[g]? := by
  have ht := hs.tch
  have hgg : w'.heap[g]? = w.heap[g]? := ht.block g (h.lt g h.fg) (fun e => OwnP.ne_nav (by decide) h.o2 h.heap g e rfl)
  have hg' := hgg.trans h.heap
  have hset := heap_setCell_same w' g 5 _ 78 (.slice A' n' c') hg'
  have hother : ∀ k, k ≠ g → (w'.setCell ⟨g, 5, none⟩ (.slice A' n' c')).heap[k]? = w'.heap[k]? := fun k hk => heap_setCell_other w' ⟨g, 5, none⟩ k _ hk
  have k1 : ∀ k, ownBlk A1 c1 = some k → (w'.setCell ⟨g, 5, none⟩ (.slice A' n' c')).heap[k]? = w.heap[k]? := fun k e =>
    (hother k (OwnP.ne_nav (by decide) h.o1 h.heap k e)).trans (ht.block k (h.lt k (h.f1 k e)) (fun e1 => h.d12 k e e1))
  have k3 : ∀ k, ownBlk A3 c3 = some k → (w'.setCell ⟨g, 5, none⟩ (.slice A' n' c')).heap[k]? = w.heap[k]? := fun k e =>
    (hother k (OwnP.ne_nav (by decide) h.o3 h.heap k e)).trans (ht.block k (h.lt k (h.f3 k e)) (fun e1 => h.d23 k e1 e))
  have hne' := OwnP.ne_nav (by decide) hs.own hg'
  refine ⟨⟨hset, Own.keep h.o1 fun k e _ _ => k1 k e, Own.keep hs.own fun k e _ _ => hother k (hne' k e), Own.keep h.o3 fun k e _ _ => k3 k e, .inl h.fg, fun k e => .inl (h.f1 k e), fun k e => ?_, fun k e => .inl (h.f3 k e), fun k e e2 => ?_, h.d13, fun k e e2 => ?_, fun k e => ?_⟩,
    ht.mono (fun k _ e => h.f2 k e) |>.trans (Tch.setCell _ _ _ _ _ (.inl (.inl h.fg))), hgg⟩
  · rcases hs.blk k e with e1 | e1
    · exact .inl (h.f2 k e1)
    · exact .inr ⟨e1, (Own.lt hs.own e).2⟩
  · rcases hs.blk k e2 with e1 | e1
    · exact h.d12 k e e1
    · have := h.lt k (h.f1 k e); omega
  · rcases hs.blk k e with e1 | e1
    · exact h.d23 k e1 e2
    · have := h.lt k (h.f3 k e2); omega
  · have hz : (w'.setCell ⟨g, 5, none⟩ (.slice A' n' c')).heap.size = w'.heap.size := by simp [World.setCell]
    rw [hz]
    rcases e with e | e
    · have := h.lt k e; have := ht.size; omega
    · exact e.2
theorem NavC.st3 (h : NavC w g F s A1 n1 c1 A2 n2 c2 A3 n3 c3) {A' : Option Addr} {n' c' : Nat} {l' : List Pl} (hs : Slot w w' A3 c3 A' n' c' l') :
    NavC (w'.setCell ⟨g, 6, none⟩ (.slice A' n' c')) g (up F w w') { s with mks := l' } A1 n1 c1 A2 n2 c2 A' n' c' ∧ Tch F w (w'.setCell ⟨g, 6, none⟩ (.slice A' n' c')) ∧ w'.heap[g]? = w.heap[g]? := by
  have ht := hs.tch
  have hgg : w'.heap[g]? = w.heap[g]? := ht.block g (h.lt g h.fg) (fun e => OwnP.ne_nav (by decide) h.o3 h.heap g e rfl)
  have hg' := hgg.trans h.heap
  have hset := heap_setCell_same w' g 6 _ 78 (.slice A' n' c') hg'
  have hother : ∀ k, k ≠ g → (w'.setCell ⟨g, 6, none⟩ (.slice A' n' c')).heap[k]? = w'.heap[k]? := fun k hk => heap_setCell_other w' ⟨g, 6, none⟩ k _ hk
  have k1 : ∀ k, ownBlk A1 c1 = some k → (w'.setCell ⟨g, 6, none⟩ (.slice A' n' c')).heap[k]? = w.heap[k]? := fun k e =>
    (hother k (OwnP.ne_nav (by decide) h.o1 h.heap k e)).trans (ht.block k (h.lt k (h.f1 k e)) (fun e1 => h.d13 k e e1))
  have k2 : ∀ k, ownBlk A2 c2 = some k → (w'.setCell ⟨g, 6, none⟩ (.slice A' n' c')).heap[k]? = w.heap[k]? := fun k e =>
    (hother k (OwnP.ne_nav (by decide) h.o2 h.heap k e)).trans (ht.block k (h.lt k (h.f2 k e)) (fun e1 => h.d23 k e e1))
  have hne' := OwnP.ne_nav (by decide) hs.own hg'
  refine ⟨⟨hset, Own.keep h.o1 fun k e _ _ => k1 k e, Own.keep h.o2 fun k e _ _ => k2 k e, Own.keep hs.own fun k e _ _ => hother k (hne' k e), .inl h.fg, fun k e => .inl (h.f1 k e), fun k e => .inl (h.f2 k e), fun k e => ?_, h.d12, fun k e e2 => ?_, fun k e e2 => ?_, fun k e => ?_⟩,
    ht.mono (fun k _ e => h.f3 k e) |>.trans (Tch.setCell _ _ _ _ _ (.inl (.inl h.fg))), hgg⟩
  · rcases hs.blk k e with e1 | e1
    · exact .inl (h.f3 k e1)
    · exact .inr ⟨e1, (Own.lt hs.own e).2⟩
  · rcases hs.blk k e2 with e1 | e1
    · exact h.d13 k e e1
    · have := h.lt k (h.f1 k e); omega
  · rcases hs.blk k e2 with e1 | e1
    · exact h.d23 k e e1
    · have := h.lt k (h.f2 k e); omega
  · have hz : (w'.setCell ⟨g, 6, none⟩ (.slice A' n' c')).heap.size = w'.heap.size := by simp [World.setCell]
    rw [hz]
    rcases e with e | e
    · have := h.lt k e; have := ht.size; omega
    · exact e.2
/-- The place now, and whether there is one. -/
theorem NavC.stNow (h : NavC w g F s A1 n1 c1 A2 n2 c2 A3 n3 c3) (p : Pl) : NavC ((w.setCell ⟨g, 2, none⟩ (.int .i64 p.1)).setCell ⟨g, 3, none⟩ (.int .i64 p.2)) g F { s with now := p } A1 n1 c1 A2 n2 c2 A3 n3 c3 := by
  have h1 := heap_setCell_same w g 2 _ 78 (.int .i64 p.1) h.heap
  have h2 := heap_setCell_same _ g 3 _ 78 (.int .i64 p.2) h1
  have hk : ∀ k, k ≠ g → ((w.setCell ⟨g, 2, none⟩ (.int .i64 p.1)).setCell ⟨g, 3, none⟩ (.int .i64 p.2)).heap[k]? = w.heap[k]? := fun k hk =>
    (heap_setCell_other _ ⟨g, 3, none⟩ k _ hk).trans (heap_setCell_other _ ⟨g, 2, none⟩ k _ hk)
  refine ⟨h2, Own.keep h.o1 fun k e _ _ => hk k (OwnP.ne_nav (by decide) h.o1 h.heap k e), Own.keep h.o2 fun k e _ _ => hk k (OwnP.ne_nav (by decide) h.o2 h.heap k e), Own.keep h.o3 fun k e _ _ => hk k (OwnP.ne_nav (by decide) h.o3 h.heap k e), h.fg, h.f1, h.f2, h.f3, h.d12, h.d13, h.d23, fun k hF => ?_⟩
  have := h.lt k hF
  simpa [World.setCell] using this
theorem NavC.stLine (h : NavC w g F s A1 n1 c1 A2 n2 c2 A3 n3 c3) (x : Int) : NavC (w.setCell ⟨g, 3, none⟩ (.int .i64 x)) g F { s with now := (s.now.1, x) } A1 n1 c1 A2 n2 c2 A3 n3 c3 := by
  have h1 := heap_setCell_same w g 3 _ 78 (.int .i64 x) h.heap
  have hk : ∀ k, k ≠ g → (w.setCell ⟨g, 3, none⟩ (.int .i64 x)).heap[k]? = w.heap[k]? := fun k hk => heap_setCell_other _ ⟨g, 3, none⟩ k _ hk
  refine ⟨h1, Own.keep h.o1 fun k e _ _ => hk k (OwnP.ne_nav (by decide) h.o1 h.heap k e), Own.keep h.o2 fun k e _ _ => hk k (OwnP.ne_nav (by decide) h.o2 h.heap k e), Own.keep h.o3 fun k e _ _ => hk k (OwnP.ne_nav (by decide) h.o3 h.heap k e), h.fg, h.f1, h.f2, h.f3, h.d12, h.d13, h.d23, fun k hF => ?_⟩
  have := h.lt k hF
  simpa [World.setCell] using this
theorem NavC.stHas (h : NavC w g F s A1 n1 c1 A2 n2 c2 A3 n3 c3) (b : Bool) : NavC (w.setCell ⟨g, 1, none⟩ (.int .i64 (if b then 1 else 0))) g F { s with has := b } A1 n1 c1 A2 n2 c2 A3 n3 c3 := by
  have h1 := heap_setCell_same w g 1 _ 78 (.int .i64 (if b then 1 else 0)) h.heap
  have hk : ∀ k, k ≠ g → (w.setCell ⟨g, 1, none⟩ (.int .i64 (if b then 1 else 0))).heap[k]? = w.heap[k]? := fun k hk => heap_setCell_other _ ⟨g, 1, none⟩ k _ hk
  refine ⟨h1, Own.keep h.o1 fun k e _ _ => hk k (OwnP.ne_nav (by decide) h.o1 h.heap k e), Own.keep h.o2 fun k e _ _ => hk k (OwnP.ne_nav (by decide) h.o2 h.heap k e), Own.keep h.o3 fun k e _ _ => hk k (OwnP.ne_nav (by decide) h.o3 h.heap k e), h.fg, h.f1, h.f2, h.f3, h.d12, h.d13, h.d23, fun k hF => ?_⟩
  have := h.lt k hF
  simpa [World.setCell] using this
theorem NavC.drewN (h : NavC w g F s A1 n1 c1 A2 n2 c2 A3 n3 c3) (k : Nat) : NavC (w.drewN k) g F s A1 n1 c1 A2 n2 c2 A3 n3 c3 := ⟨h.heap, h.o1, h.o2, h.o3, h.fg, h.f1, h.f2, h.f3, h.d12, h.d13, h.d23, h.lt⟩
theorem NavC.at_ (h : NavC w g F s A1 n1 c1 A2 n2 c2 A3 n3 c3) : NavAt w g F s := ⟨_, _, _, _, _, _, _, _, _, h⟩
theorem NavC.new (w : World) : NavC (w.alloc (.cells #[.int .i64 1, .int .i64 0, .int .i64 0, .int .i64 0, .slice none 0 0, .slice none 0 0, .slice none 0 0] 78)) w.heap.size (fun k => k = w.heap.size) NS.new none 0 0 none 0 0 none 0 0 :=
  ⟨heap_alloc_new w _, OwnP.nil_ _ _ _, OwnP.nil_ _ _ _, OwnP.nil_ _ _ _, rfl, fun k e => by simp [ownBlk] at e, fun k e => by simp [ownBlk] at e, fun k e => by simp [ownBlk] at e, fun k e => by simp [ownBlk] at e, fun k e => by simp [ownBlk] at e, fun k e => by simp [ownBlk] at e, fun k e => by simp; omega⟩
theorem NavC.alloc (h : NavC w g F s A1 n1 c1 A2 n2 c2 A3 n3 c3) (o : Obj) : NavC (w.alloc o) g F s A1 n1 c1 A2 n2 c2 A3 n3 c3 := h.below ((Below.refl _ _).alloc (Nat.le_refl _) o)
theorem NavC.drew (h : NavC w g F s A1 n1 c1 A2 n2 c2 A3 n3 c3) : NavC w.drew g F s A1 n1 c1 A2 n2 c2 A3 n3 c3 := h.drewN 1
theorem Slot.ofApp1 {n' n c : Nat} {A : Option Addr} {l l0 : List Pl} {v : Value} (ho : OwnP w 0 A n c l0) (h : AppP w 0 A c n' l v w') : ∃ A' c', v = .slice A' n' c' ∧ Slot w w' A c A' n' c' l :=
  Slot.ofApp h (fun _ e => (Own.lt ho e).2)
/-- A reader behind some steps, its slices. -/
structure NavT (w w' : World) (g : Nat) (F : Nat → Prop) (s : NS) (A1 : Option Addr) (n1 c1 : Nat) (A2 : Option Addr) (n2 c2 : Nat) (A3 : Option Addr) (n3 c3 : Nat) : Prop where
  c : NavC w' g (up F w w') s A1 n1 c1 A2 n2 c2 A3 n3 c3
  t : Tch F w w'
theorem NavT.to (h : NavT w w' g F s A1 n1 c1 A2 n2 c2 A3 n3 c3) : NavTo w w' g F s := ⟨h.c.at_, h.t⟩
theorem NavT.refl (h : NavC w g F s A1 n1 c1 A2 n2 c2 A3 n3 c3) : NavT w w g F s A1 n1 c1 A2 n2 c2 A3 n3 c3 := ⟨h.mono (fun _ => .inl) (fun k e => e.elim (h.lt k) (by omega)), Tch.refl _ _⟩
theorem NavT.step {w2 : World} {s2 : NS} {B1 B2 B3 : Option Addr} {m1 d1 m2 d2 m3 d3 : Nat} (h : NavT w w' g F s A1 n1 c1 A2 n2 c2 A3 n3 c3) {G : Nat → Prop}
    (hc : NavC w2 g G s2 B1 m1 d1 B2 m2 d2 B3 m3 d3) (hG : ∀ k, G k → up F w w' k ∨ w'.heap.size ≤ k) (ht : Tch (up F w w') w' w2) : NavT w w2 g F s2 B1 m1 d1 B2 m2 d2 B3 m3 d3 := by
  have h1 := h.t.size
  have h2 := ht.size
  refine ⟨hc.mono (fun k e => ?_) (fun k e => ?_), h.t.trans ht⟩
  · rcases hG k e with (e1 | e1) | e1
    · exact .inl e1
    · exact .inr ⟨e1.1, by omega⟩
    · exact .inr ⟨by omega, hc.lt k e⟩
  · rcases e with e1 | e1
    · have := h.c.lt k (.inl e1); omega
    · exact e1.2
theorem NavT.trans {w2 : World} {s2 : NS} (h : NavT w w' g F s A1 n1 c1 A2 n2 c2 A3 n3 c3) (h' : NavTo w' w2 g (up F w w') s2) : NavTo w w2 g F s2 := NavTo.trans h.to h'
theorem NavT.below {w2 : World} (h : NavT w w' g F s A1 n1 c1 A2 n2 c2 A3 n3 c3) (hb : Below w'.heap.size w' w2) : NavT w w2 g F s A1 n1 c1 A2 n2 c2 A3 n3 c3 :=
  h.step (h.c.below hb) (fun _ => .inl) (Tch.of_below hb)
theorem below_up {W w2 : World} {k : Nat} (hb : Below w.heap.size w W) (h : up F W w2 k) : F k ∨ w.heap.size ≤ k := h.imp id (fun e => by have := hb.size; omega)
theorem NavT.st1 {W w2 : World} {A' : Option Addr} {n' c' : Nat} {l' : List Pl} (h : NavT w w' g F s A1 n1 c1 A2 n2 c2 A3 n3 c3) (hb : Below w'.heap.size w' W) (hs : Slot W w2 A1 c1 A' n' c' l') :
    NavT w (w2.setCell ⟨g, 4, none⟩ (.slice A' n' c')) g F { s with bh := l' } A' n' c' A2 n2 c2 A3 n3 c3 := by
  have k := (h.c.below hb).st1 hs
  refine h.step k.1 (fun _ e => below_up hb e) (Tch.trans (Tch.of_below hb) (k.2.1.mono fun _ _ e => .inl e))
theorem NavT.st2 {W w2 : World} {A' : Option Addr} {n' c' : Nat} {l' : List Pl} (h : NavT w w' g F s A1 n1 c1 A2 n2 c2 A3 n3 c3) (hb : Below w'.heap.size w' W) (hs : Slot W w2 A2 c2 A' n' c' l') :
    NavT w (w2.setCell ⟨g, 5, none⟩ (.slice A' n' c')) g F { s with ah := l' } A1 n1 c1 A' n' c' A3 n3 c3 := by
  have k := (h.c.below hb).st2 hs
  refine h.step k.1 (fun _ e => below_up hb e) (Tch.trans (Tch.of_below hb) (k.2.1.mono fun _ _ e => .inl e))
theorem NavT.st3 {W w2 : World} {A' : Option Addr} {n' c' : Nat} {l' : List Pl} (h : NavT w w' g F s A1 n1 c1 A2 n2 c2 A3 n3 c3) (hb : Below w'.heap.size w' W) (hs : Slot W w2 A3 c3 A' n' c' l') :
    NavT w (w2.setCell ⟨g, 6, none⟩ (.slice A' n' c')) g F { s with mks := l' } A1 n1 c1 A2 n2 c2 A' n' c' := by
  have k := (h.c.below hb).st3 hs
  refine h.step k.1 (fun _ e => below_up hb e) (Tch.trans (Tch.of_below hb) (k.2.1.mono fun _ _ e => .inl e))
theorem NavT.heap {W w2 : World} (h : NavT w w' g F s A1 n1 c1 A2 n2 c2 A3 n3 c3) (hb : Below w'.heap.size w' W) {A' A : Option Addr} {n' c' c : Nat} {l' : List Pl} (hs : Slot W w2 A c A' n' c' l') (hA : ∀ k, ownBlk A c = some k → k ≠ g) : w2.heap[g]? = w'.heap[g]? :=
  (hs.tch.block g (Nat.lt_of_lt_of_le (h.c.lt g h.c.fg) hb.size) (fun e => hA g e rfl)).trans (hb.block g (h.c.lt g h.c.fg))
theorem NavC.ne1 (h : NavC w g F s A1 n1 c1 A2 n2 c2 A3 n3 c3) : ∀ k, ownBlk A1 c1 = some k → k ≠ g := OwnP.ne_nav (by decide) h.o1 h.heap
theorem NavC.ne2 (h : NavC w g F s A1 n1 c1 A2 n2 c2 A3 n3 c3) : ∀ k, ownBlk A2 c2 = some k → k ≠ g := OwnP.ne_nav (by decide) h.o2 h.heap
theorem NavC.ne3 (h : NavC w g F s A1 n1 c1 A2 n2 c2 A3 n3 c3) : ∀ k, ownBlk A3 c3 = some k → k ≠ g := OwnP.ne_nav (by decide) h.o3 h.heap
theorem NavT.now (h : NavT w w' g F s A1 n1 c1 A2 n2 c2 A3 n3 c3) (p : Pl) : NavT w ((w'.setCell ⟨g, 2, none⟩ (.int .i64 p.1)).setCell ⟨g, 3, none⟩ (.int .i64 p.2)) g F { s with now := p } A1 n1 c1 A2 n2 c2 A3 n3 c3 :=
  h.step (h.c.stNow p) (fun _ => .inl) (Tch.trans (Tch.setCell _ _ _ _ _ (.inl h.c.fg)) (Tch.setCell _ _ _ _ _ (.inl (.inl h.c.fg))))
theorem NavT.line (h : NavT w w' g F s A1 n1 c1 A2 n2 c2 A3 n3 c3) (x : Int) : NavT w (w'.setCell ⟨g, 3, none⟩ (.int .i64 x)) g F { s with now := (s.now.1, x) } A1 n1 c1 A2 n2 c2 A3 n3 c3 :=
  h.step (h.c.stLine x) (fun _ => .inl) (Tch.setCell _ _ _ _ _ (.inl h.c.fg))
theorem NavT.has (h : NavT w w' g F s A1 n1 c1 A2 n2 c2 A3 n3 c3) (b : Bool) : NavT w (w'.setCell ⟨g, 1, none⟩ (.int .i64 (if b then 1 else 0))) g F { s with has := b } A1 n1 c1 A2 n2 c2 A3 n3 c3 :=
  h.step (h.c.stHas b) (fun _ => .inl) (Tch.setCell _ _ _ _ _ (.inl h.c.fg))
/-- A new row of places. -/
theorem RdP.new (w : World) (k : List Pl) {cs : Array Value} (h : cs = (pc k).toArray) {m : Nat} (hm : m = k.length) : RdP (w.alloc (.cells cs 58)) (some ⟨w.heap.size, 0, none⟩) m k := by
  subst h; subst hm
  refine ⟨by rw [pc_length], fun _ => ⟨_, rfl, fun j u hu => ?_⟩⟩
  rw [add_plain, cell_of_row _ _ _ _ _ _ (heap_alloc_new w _), Nat.zero_add]
  simpa using hu
theorem below_alloc (w : World) (o : Obj) : Below w.heap.size w (w.alloc o) := (Below.refl _ _).alloc (Nat.le_refl _) o
theorem below_drew (w : World) : Below w.heap.size w w.drew := ⟨rfl, rfl, rfl, Nat.le_refl _, fun _ _ => rfl⟩
theorem NavTo.pre {w1 w2 : World} (hb : Below w.heap.size w w1) (h : NavTo w1 w2 g F s) : NavTo w w2 g F s := by
  have h1 := hb.size
  have h2 := h.2.size
  refine ⟨h.1.mono (fun k e => e.imp id (fun e => by omega)) (fun k e => ?_), (Tch.of_below hb).trans (h.2.mono fun _ _ e => .inl e)⟩
  rcases e with e | e
  · exact h.1.lt k (.inl e)
  · exact e.2
theorem NavT.pre {w1 w2 : World} (hb : Below w.heap.size w w1) (h : NavT w1 w2 g F s A1 n1 c1 A2 n2 c2 A3 n3 c3) : NavT w w2 g F s A1 n1 c1 A2 n2 c2 A3 n3 c3 := by
  have h1 := hb.size
  have h2 := h.t.size
  refine ⟨h.c.mono (fun k e => e.imp id (fun e => by omega)) (fun k e => ?_), (Tch.of_below hb).trans (h.t.mono fun _ _ e => .inl e)⟩
  rcases e with e | e
  · exact h.c.lt k (.inl e)
  · exact e.2
end
theorem try_mixed : Try.prog.follows .mixedOrders = true := by kernel_rfl
end Go.Proofs.Ytkgdcglnkodgnaa
