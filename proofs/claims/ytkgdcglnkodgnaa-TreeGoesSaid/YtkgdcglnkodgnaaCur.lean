/-
  The cursor of layer 3 (octet): what its calls do. No condition but sizes.
-/
import Derived.Test.YtkgdcglnkodgnaaOct
namespace Go.Proofs.Ytkgdcglnkodgnaa
open Go.RowKit
theorem zeros_len (n : Nat) : (zeros n).length = n := by simp [zeros]
/-- A cursor's state. -/
structure CS where
  l : List UInt8
  at' : Nat
  err : Nat
/-- A cursor in block g (T: its struct's type). -/
def Cur (T : TypeId) (w : World) (g : Nat) (s : CS) : Prop :=
  ∃ B n c, w.heap[g]? = some (.cells #[.slice B n c, .int .i64 (s.at' : Int), .int .i64 (s.err : Int)] T (0, 0)) ∧ Rd8 w B n s.l ∧ n ≤ c ∧ s.at' ≤ n ∧ n ≤ 140737488355328 ∧ (0 < n → ∀ ad, B = some ad → ad.block < g)
/-- A call that makes a cursor. -/
def RetCur (T : TypeId) (w0 : World) (l : List UInt8) (e : Ending) (w' : World) : Prop := ∃ g, e = .returned (.pointer (some ⟨g, 0, none⟩)) ∧ w0.heap.size ≤ g ∧ Cur T w' g ⟨l, 0, 0⟩ ∧ Below w0.heap.size w0 w'

section
variable {T : TypeId} {w w' : World} {g : Nat} {s : CS}
theorem Cur.lt (h : Cur T w g s) : g < w.heap.size := by
  obtain ⟨B, n, c, h1, _⟩ := h
  exact (Array.getElem?_eq_some_iff.1 h1).1
/-- What the walk wants of a cursor: its cells. -/
theorem Cur.cells (h : Cur T w g s) : ∃ B n c, w.cell? ⟨g, 0, none⟩ = some (.slice B n c) ∧ w.cell? ⟨g, 1, none⟩ = some (.int .i64 (s.at' : Int)) ∧ w.cell? ⟨g, 2, none⟩ = some (.int .i64 (s.err : Int)) ∧
    w.frozen? ⟨g, 0, none⟩ = false ∧ w.frozen? ⟨g, 1, none⟩ = false ∧ w.frozen? ⟨g, 2, none⟩ = false ∧ Rd8 w B n s.l ∧ n ≤ c ∧ s.at' ≤ n ∧ n ≤ 140737488355328 := by
  obtain ⟨B, n, c, h1, h2, h3, h4, h5, _⟩ := h
  refine ⟨B, n, c, ?_, ?_, ?_, frozen_of_row w g 0 _ _ h1, frozen_of_row w g 1 _ _ h1, frozen_of_row w g 2 _ _ h1, h2, h3, h4, h5⟩
  · rw [cell_of_row w g 0 _ _ _ h1]; rfl
  · rw [cell_of_row w g 1 _ _ _ h1]; rfl
  · rw [cell_of_row w g 2 _ _ _ h1]; rfl
theorem Cur.keep (h : Cur T w g s) (hg : w'.heap[g]? = w.heap[g]?) (hk : ∀ p : Addr, p.block < w.heap.size → p.block ≠ g → w'.cell? p = w.cell? p) : Cur T w' g s := by
  obtain ⟨B, n, c, h1, h2, h3⟩ := h
  refine ⟨B, n, c, hg.trans h1, ?_, h3⟩
  refine h2.keep fun p hp => ?_
  by_cases hpg : p.block = g
  · simp [World.cell?, hpg, hg]
  · exact hk p hp hpg
theorem Cur.below (h : Cur T w g s) (hb : Below w.heap.size w w') : Cur T w' g s := h.keep (hb.block g h.lt) fun _ hp _ => hb.cell hp
/-- What is written lies behind the cursor. -/
theorem Cur.far (h : Cur T w g s) {row : Option Nat} (hg : w.grownBy w' row) (hr : ∀ k, row = some k → g < k) : Cur T w' g s := by
  obtain ⟨B, n, c, h1, h2, h3⟩ := h
  have hlt : g < w.heap.size := (Array.getElem?_eq_some_iff.1 h1).1
  refine ⟨B, n, c, (hg.block g hlt (fun e => by have := hr g e.symm; omega)).trans h1, ⟨h2.1, fun hn => ?_⟩, h3⟩
  obtain ⟨ad, hA, hc⟩ := h2.2 hn
  refine ⟨ad, hA, fun j u hu => ?_⟩
  have hcj := hc j u hu
  refine hg.cell hcj ?_
  intro e
  have h4 := hr _ e.symm
  have h5 := h3.2.2.2 hn ad hA
  rw [block_add] at h4
  omega
theorem Cur.drew (h : Cur T w g s) : Cur T w.drew g s := h
theorem Cur.alloc (h : Cur T w g s) (o : Obj) : Cur T (w.alloc o) g s := h.below ((Below.refl _ _).alloc (Nat.le_refl _) o)
theorem Cur.grown (h : Cur T w g s) {row : Option Nat} (hg : w.grownBy w' row) (hne : ∀ r, row = some r → r ≠ g ∧ (∀ B n c, w.cell? ⟨g, 0, none⟩ = some (.slice B n c) → ∀ ad, B = some ad → ad.block ≠ r)) : Cur T w' g s := by
  obtain ⟨B, n, c, h1, h2, h3⟩ := h
  have hlt : g < w.heap.size := (Array.getElem?_eq_some_iff.1 h1).1
  have h0 : w.cell? ⟨g, 0, none⟩ = some (.slice B n c) := by rw [cell_of_row w g 0 _ _ _ h1]; rfl
  refine ⟨B, n, c, (hg.block g hlt (fun e => (hne g e.symm).1 rfl)).trans h1, ?_, h3⟩
  refine ⟨h2.1, fun hn => ?_⟩
  obtain ⟨ad, hA, hc⟩ := h2.2 hn
  refine ⟨ad, hA, fun j u hu => ?_⟩
  have hcj := hc j u hu
  refine hg.cell hcj ?_
  intro e
  exact (hne _ e.symm).2 B n c h0 ad hA (by rw [block_add])
/-- The bytes do not lie in the cursor's own block. -/
theorem Cur.apart {B : Option Addr} {n : Nat} {cs : Array Value} (h1 : w.heap[g]? = some (.cells cs T (0, 0))) (hcs : ∀ (j : Nat) (x : Int), cs[j]? ≠ some (.int .u8 x)) {l : List UInt8} (h : Rd8 w B n l) (hn : 0 < n) :
    ∀ ad, B = some ad → ad.block ≠ g := by
  intro ad hB he
  obtain ⟨ad', x, hB', _, hc⟩ := h.at_ hn
  rw [hB] at hB'; injection hB' with hB'; subst hB'
  unfold World.cell? at hc
  rw [block_add, he, h1] at hc
  simp only at hc
  split at hc
  · cases hc
  · exact hcs _ _ hc
theorem Cur.set_ {i : Nat} {v : Value}
    {s' : CS} (hl : s'.l = s.l) (hat : s'.at' ≤ s.l.length) (hc : ∀ B n c, (#[Value.slice B n c, .int .i64 (s.at' : Int), .int .i64 (s.err : Int)] : Array Value).setIfInBounds i v = #[.slice B n c, .int .i64 (s'.at' : Int), .int .i64 (s'.err : Int)])
    (h : Cur T w g s) : Cur T (w.setCell ⟨g, i, none⟩ v) g s' := by
  obtain ⟨B, n, c, hh, h2, h3, h4, h5⟩ := h
  have hb := heap_setCell_same w g i _ T v hh
  rw [hc] at hb
  refine ⟨B, n, c, hb, ?_, h3, by rw [← h2.len]; exact hat, h5⟩
  rw [hl]
  rcases Nat.eq_zero_or_pos n with h0 | h0
  · subst h0
    have : s.l = [] := List.eq_nil_of_length_eq_zero h2.len
    rw [this]
    exact Rd8.nil_
  · have hap := Cur.apart hh (by
      intro j x
      match j with
      | 0 => simp
      | 1 => simp
      | 2 => simp
      | j + 3 => simp) h2 h0
    refine ⟨h2.1, fun hn => ?_⟩
    obtain ⟨ad, hA, hcc⟩ := h2.2 hn
    refine ⟨ad, hA, fun j u hu => ?_⟩
    rw [← hcc j u hu]
    exact World.cell?_of_block (heap_setCell_other w ⟨g, i, none⟩ _ v (by rw [block_add]; exact hap ad hA))
theorem Cur.setAt {x : Nat} (h : Cur T w g s) (hx : x ≤ s.l.length) : Cur T (w.setCell ⟨g, 1, none⟩ (.int .i64 (x : Int))) g { s with at' := x } :=
  Cur.set_ (s := s) (s' := { s with at' := x }) rfl hx (fun _ _ _ => rfl) h
theorem Cur.setErr {x : Nat} (h : Cur T w g s) : Cur T (w.setCell ⟨g, 2, none⟩ (.int .i64 (x : Int))) g { s with err := x } := by
  have hat : s.at' ≤ s.l.length := by obtain ⟨B, n, c, _, h2, _, h4, _⟩ := h; rw [h2.len]; exact h4
  exact Cur.set_ (s := s) (s' := { s with err := x }) rfl hat (fun _ _ _ => rfl) h
theorem grown_cell {i : Nat} (v : Value) : w.grownBy (w.setCell ⟨g, i, none⟩ v) (some g) :=
  ⟨rfl, rfl, rfl, by simp [World.setCell], fun k _ hne => Below.heap_setCell _ _ _ _ (fun e => hne (by rw [e]))⟩
end
set_option maxRecDepth 100000 in
set_option maxHeartbeats 400000 in
theorem new88 (A : Option Addr) (n c : Nat) (l : List UInt8) (w : World) (h : Rd8 w A n l) (hn : n ≤ 140737488355328) :
    Calls Try.prog 88 #[.slice A n c] w (RetCur 200 w l) := by
  have HL := Hd.mk h.len
  go_enter Try.func88, Try.ntmps88
  go_wp2_with (first
    | (at_make; refine wl_make8 rfl (.tmp 5) (.tmp 5) rfl (n := n) (c := n) rfl rfl rfl (by omega) (by omega) (by omega) (base := w.heap.size) (Nat.le_refl _) ?_; intro w1 hown hb)
    | (with_reducible show wpList _ _ _ _ _ _; refine wl_copy8 rfl (.tmp 12) (.tmp 13) rfl rfl rfl (hown.alloc _) ((h.below hb).alloc _) ?_; intro w2 ho2 hg2))
  go_ret
  refine ⟨_, rfl, hb.size, ?_, below_app (hb.alloc hb.size _) (by have := hb.size; simp; omega) (hown.alloc _) hg2⟩
  rw [Nat.min_self, List.take_of_length_le (by rw [HL.out]; omega), List.drop_of_length_le (by rw [zeros_len]; omega), List.append_nil] at ho2
  refine ⟨_, n, n, ?_, ho2.rd, Nat.le_refl _, Nat.zero_le _, hn, fun hn0 ad e => ?_⟩
  rw [hg2.block _ (by simp) ?_]
  · exact heap_alloc_new w1 _
  · intro he
    have := (hown.lt he.symm).2
    omega
  · injection e with e
    subst e
    have h0 : n ≠ 0 := by omega
    exact (hown.lt (g := w.heap.size) (by simp [ownBlk, h0])).2
set_option maxRecDepth 100000 in
set_option maxHeartbeats 400000 in
theorem err152 (g : Nat) (s : CS) (w : World) (h : Cur 200 w g s) :
    Calls Try.prog 152 #[.pointer (some ⟨g, 0, none⟩)] w fun e w' => e = .returned (.int .i64 (s.err : Int)) ∧ w = w' := by
  obtain ⟨B, n, c, h0, h1, h2, f0, f1, f2, hr, hnc, hat, hn⟩ := h.cells
  go_enter Try.func152, Try.ntmps152
  go_wp2
  go_ret
  exact ⟨rfl, rfl⟩
set_option maxRecDepth 100000 in
set_option maxHeartbeats 400000 in
theorem fine140 (g : Nat) (s : CS) (w : World) (h : Cur 200 w g s) :
    Calls Try.prog 140 #[.pointer (some ⟨g, 0, none⟩)] w fun e w' => e = .returned (.bool (decide (s.err = 0))) ∧ w = w' := by
  have he : ((s.err : Int) == 0) = decide (s.err = 0) := by rw [Bool.eq_iff_iff]; simp
  have HE := Hd.mk he
  clear he
  go_enter Try.func140, Try.ntmps140
  go_wp2_with (go_at_call 152; refine (err152 g s w h).mono ?_; rintro e w' ⟨rfl, rfl⟩)
  go_ret
  exact ⟨by rw [← HE.out]; rfl, rfl⟩
set_option maxRecDepth 100000 in
set_option maxHeartbeats 400000 in
theorem left142 (g : Nat) (s : CS) (w : World) (h : Cur 200 w g s) :
    Calls Try.prog 142 #[.pointer (some ⟨g, 0, none⟩)] w fun e w' => e = .returned (.int .i64 ((s.l.length - s.at' : Nat) : Int)) ∧ ∃ k, w' = w.drewN k := by
  obtain ⟨B, n, c, h0, h1, h2, f0, f1, f2, hr, hnc, hat, hn⟩ := h.cells
  have HL := Hd.mk hr.len
  go_enter Try.func142, Try.ntmps142
  go_wp2_with fail
  go_quiet (fail)
  go_wp2
  go_ret
  refine ⟨?_, _, rfl⟩
  have e : ((s.l.length - s.at' : Nat) : Int) = (n : Int) - (s.at' : Int) := by have := HL.out; omega
  rw [e]
  rfl
theorem Own8.setFar {w : World} {base : Nat} {A : Option Addr} {n c g i : Nat} {l : List UInt8} (h : Own8 w base A n c l) (hg : g < base) (v : Value) : Own8 (w.setCell ⟨g, i, none⟩ v) base A n c l :=
  h.grown (grown_cell v) (fun r hr e => by have := (h.lt hr).1; injection e with e; omega)
theorem grown_drewN {w w' : World} {k : Nat} {row : Option Nat} (h : (w.drewN k).grownBy w' row) : w.grownBy w' row := ⟨h.os, h.tape, h.output, h.size, h.block⟩
theorem below_drewN' {B : Nat} {w w' : World} {k : Nat} (h : Below B (w.drewN k) w') : Below B w w' := ⟨h.os, h.tape, h.output, h.size, h.block⟩
/-- A cursor's failure. -/
def CS.fail (s : CS) (e : Nat) : CS := if s.err = 0 then { s with err := e } else s
set_option maxRecDepth 100000 in
set_option maxHeartbeats 400000 in
theorem fail141 (g : Nat) (s : CS) (x : Nat) (w : World) (h : Cur 200 w g s) :
    Calls Try.prog 141 #[.pointer (some ⟨g, 0, none⟩), .int .i64 (x : Int)] w fun e w' => e = .returned (.tuple #[]) ∧ Cur 200 w' g (s.fail x) ∧ w.grownBy w' (some g) := by
  obtain ⟨B, n, c, h0, h1, h2, f0, f1, f2, hr, hnc, hat, hn⟩ := h.cells
  by_cases he : s.err = 0
  · have hb : ((s.err : Int) == 0) = true := by rw [beq_iff_eq]; omega
    have e1 : s.fail x = { s with err := x } := if_pos he
    rw [e1]
    have HC := Hd.mk (h.setErr (x := x))
    clear he e1
    go_enter Try.func141, Try.ntmps141
    go_wp2
    go_end0
    exact ⟨rfl, HC.out, grown_cell _⟩
  · have hb : ((s.err : Int) == 0) = false := by rw [beq_eq_false_iff_ne]; omega
    have e1 : s.fail x = s := if_neg he
    rw [e1]
    clear he e1
    go_enter Try.func141, Try.ntmps141
    go_wp2
    go_end0
    exact ⟨rfl, h, World.grownBy.refl _ _⟩
/-- Bytes taken. -/
def takeC (s : CS) (n : Int) : List UInt8 × CS :=
  if s.err ≠ 0 then ([], s) else if n < 0 then ([], { s with err := 1 }) else if ((s.l.length - s.at' : Nat) : Int) < n then ([], { s with err := 30 })
  else ((s.l.drop s.at').take n.toNat, { s with at' := s.at' + n.toNat })
/-- A call on a cursor that answers bytes. -/
def RetC8 (T : TypeId) (w0 : World) (g : Nat) (r : List UInt8 × CS) (e : Ending) (w' : World) : Prop :=
  ∃ A n c, e = .returned (.slice A n c) ∧ Own8 w' w0.heap.size A n c r.1 ∧ Cur T w' g r.2 ∧ w0.grownBy w' (some g)
set_option maxRecDepth 100000 in
set_option maxHeartbeats 400000 in
theorem take91 (g : Nat) (s : CS) (m : Int) (w : World) (h : Cur 200 w g s) (hm1 : -9223372036854775808 ≤ m) (hm2 : m ≤ 9223372036854775807) :
    Calls Try.prog 91 #[.pointer (some ⟨g, 0, none⟩), .int .i64 m] w (RetC8 200 w g (takeC s m)) := by
  obtain ⟨B, n, c, h0, h1, h2, f0, f1, f2, hr, hnc, hat, hn⟩ := h.cells
  have HL := Hd.mk hr.len
  by_cases he : s.err = 0
  · have hd : decide (s.err = 0) = true := by simpa using he
    by_cases hm0 : m < 0
    · have e1 : takeC s m = ([], { s with err := 1 }) := by unfold takeC; rw [if_neg (by simp [he]), if_pos hm0]
      have e2 : s.fail 1 = { s with err := 1 } := if_pos he
      rw [e1, ← e2]
      clear e1 e2 he
      go_enter Try.func91, Try.ntmps91
      go_wp2_with (first
        | (go_at_call 140; refine (fine140 g s w h).mono ?_; rw [hd]; rintro e w' ⟨rfl, rfl⟩)
        | (go_at_call 141; refine (fail141 g s 1 w h).mono ?_; rintro e w1 ⟨rfl, hc1, hg1⟩))
      go_ret
      exact ⟨_, _, _, rfl, Own8.nil_ _ _ _, hc1, hg1⟩
    · have hm3 : 0 ≤ m := by omega
      by_cases hm4 : ((s.l.length - s.at' : Nat) : Int) < m
      · have e1 : takeC s m = ([], { s with err := 30 }) := by unfold takeC; rw [if_neg (by simp [he]), if_neg hm0, if_pos hm4]
        have e2 : s.fail 30 = { s with err := 30 } := if_pos he
        rw [e1, ← e2]
        clear e1 e2 he hm0
        go_enter Try.func91, Try.ntmps91
        go_wp2_with (first
          | (go_at_call 140; refine (fine140 g s w h).mono ?_; rw [hd]; rintro e w' ⟨rfl, rfl⟩)
          | (go_at_call 142; refine (left142 g s w h).mono ?_; rintro e w' ⟨rfl, kk, rfl⟩)
          | (go_at_call 141; refine (fail141 g s 30 (w.drewN kk) h).mono ?_; rintro e w1 ⟨rfl, hc1, hg1⟩))
        go_ret
        exact ⟨_, _, _, rfl, Own8.nil_ _ _ _, hc1, grown_drewN hg1⟩
      · obtain ⟨q, rfl⟩ := Int.eq_ofNat_of_zero_le hm3
        have e1 : takeC s (q : Int) = ((s.l.drop s.at').take q, { s with at' := s.at' + q }) := by unfold takeC; rw [if_neg (by simp [he]), if_neg hm0, if_neg hm4]; rfl
        rw [e1]
        clear e1 he hm0
        have hq : s.at' + q ≤ n := by have := HL.out; omega
        by_cases hq0 : q = 0
        · subst hq0
          go_enter Try.func91, Try.ntmps91
          go_wp2_with (first
            | (go_at_call 140; refine (fine140 g s w h).mono ?_; rw [hd]; rintro e w' ⟨rfl, rfl⟩)
            | (go_at_call 142; refine (left142 g s w h).mono ?_; rintro e w' ⟨rfl, kk, rfl⟩))
          go_ret
          exact ⟨_, _, _, rfl, Own8.nil_ _ _ _, h, grown_drewN (World.grownBy.refl _ _)⟩
        · have hqb : ((q : Int) == 0) = false := by rw [beq_eq_false_iff_ne]; omega
          have hat' : ((s.at' : Nat) : Int) ≤ (n : Int) := by omega
          go_enter Try.func91, Try.ntmps91
          go_wp2_with (first
            | (go_at_call 140; refine (fine140 g s w h).mono ?_; rw [hd]; rintro e w' ⟨rfl, rfl⟩)
            | (go_at_call 142; refine (left142 g s w h).mono ?_; rintro e w' ⟨rfl, kk, rfl⟩)
            | (at_make; refine wl_make8 rfl (.tmp 25) (.tmp 25) rfl (n := q) (c := q) rfl rfl rfl (by omega) (by omega) (by omega) (base := w.heap.size) (Nat.le_refl _) ?_; intro w1 hown hb))
          have hb := below_drewN' hb
          have hlt := h.lt
          have h0' : w1.cell? ⟨g, 0, none⟩ = some (.slice B n c) := (hb.cell (p := ⟨g, 0, none⟩) hlt).trans h0
          have h1' : w1.cell? ⟨g, 1, none⟩ = some (.int .i64 (s.at' : Int)) := (hb.cell (p := ⟨g, 1, none⟩) hlt).trans h1
          have hr1 := hr.below hb
          have hc1 := h.below hb
          go_region_law ((refine st_copy8 (by rfl) (.tmp 27) (.tmp 36) (by rfl) (by rfl) (by rfl) hown.drew (hr1.drop (m := c) hat hnc).drew ?_; intro w2 ho2 hg2))
          all_goals
            have hb2 : Below w.heap.size w w2 := below_app hb.drew hb.size hown.drew hg2
            have h1'' : w2.cell? ⟨g, 1, none⟩ = some (.int .i64 (s.at' : Int)) := (hb2.cell (p := ⟨g, 1, none⟩) hlt).trans h1
            have f1'' : w2.frozen? ⟨g, 1, none⟩ = false := (hb2.frozen (p := ⟨g, 1, none⟩) hlt).trans f1
            have HC := Hd.mk ((h.below hb2).setAt (x := s.at' + q) (by rw [HL.out]; exact hq))
            have HO := Hd.mk (ho2.setFar (i := 1) hlt (.int .i64 ((s.at' + q : Nat) : Int)))
            clear h0 h1 h2 f0 f1 f2 h0' h1' ho2
            go_wp2
            go_ret
            have e : (q : Int) + (s.at' : Int) = ((s.at' + q : Nat) : Int) := by omega
            have e' : (s.at' : Int) + (q : Int) = ((s.at' + q : Nat) : Int) := by omega
            refine ⟨_, _, _, rfl, ?_, ?_, ?_⟩
            · have := HO.out
              rw [Nat.min_eq_right (by omega), List.drop_of_length_le (l := zeros q) (by rw [zeros_len]; omega), List.append_nil] at this
              rw [e']
              exact this
            · rw [e']; exact HC.out
            · exact grown_trans (grown_of_below hb2 _) (grown_cell _)
  · have hd : decide (s.err = 0) = false := by simpa using he
    have e1 : takeC s m = ([], s) := if_pos he
    rw [e1]
    clear e1 he
    go_enter Try.func91, Try.ntmps91
    go_wp2_with (go_at_call 140; refine (fine140 g s w h).mono ?_; rw [hd]; rintro e w' ⟨rfl, rfl⟩)
    go_ret
    exact ⟨_, _, _, rfl, Own8.nil_ _ _ _, h, World.grownBy.refl _ _⟩
theorem takeC_len (s : CS) (n : Nat) : (takeC s n).1.length ≤ n := by
  unfold takeC
  split
  · simp
  · split
    · simp
    · split
      · simp
      · simp [List.length_take]; omega
theorem leN_snoc (l : List UInt8) (k : Nat) (x : UInt8) (h : l[k]? = some x) : leN (l.take (k + 1)) = leN (l.take k) + 256 ^ k * x.toNat := by
  rw [take_snoc8 h]
  have hl : (l.take k).length = k := by
    obtain ⟨hk, _⟩ := List.getElem?_eq_some_iff.1 h
    rw [List.length_take]; omega
  have : ∀ (a : List UInt8), leN (a ++ [x]) = leN a + 256 ^ a.length * x.toNat := by
    intro a
    induction a with
    | nil => simp [leN]
    | cons b a ih => simp only [List.cons_append, leN, ih, List.length_cons, Nat.pow_succ, Nat.mul_add, Nat.add_assoc, Nat.mul_comm (256 ^ a.length) 256, Nat.mul_assoc]
  rw [this, hl]
theorem or_step (l : List UInt8) (k : Nat) (x : UInt8) (h : l[k]? = some x) (hk : k < 4) :
    bits .or .u32 (leN (l.take k) : Nat) ((x.toNat : Int) * 2 ^ (8 * k) % 4294967296) = (leN (l.take (k + 1)) : Nat) := by
  have hb := byte_lt x
  have hlow := leN_lt (l.take k)
  have hl : (l.take k).length = k := by
    obtain ⟨hk, _⟩ := List.getElem?_eq_some_iff.1 h
    rw [List.length_take]; omega
  rw [hl] at hlow
  have hp : (2 : Nat) ^ (8 * k) = 256 ^ k := by rw [Nat.pow_mul]
  have hp4 : (256 : Nat) ^ k * 256 ≤ 4294967296 := by
    have : (256 : Nat) ^ (k + 1) ≤ 256 ^ 4 := Nat.pow_le_pow_right (by omega) (by omega)
    rw [Nat.pow_succ] at this
    omega
  have hxp : x.toNat * 256 ^ k < 4294967296 := by
    have h1 : x.toNat * 256 ^ k ≤ 255 * 256 ^ k := Nat.mul_le_mul_right _ (by omega)
    have h2 : 0 < 256 ^ k := Nat.pow_pos (by omega)
    omega
  have e : ((x.toNat : Int) * 2 ^ (8 * k) % 4294967296) = ((x.toNat * 256 ^ k : Nat) : Int) := by
    have e2 : (2 : Int) ^ (8 * k) = ((256 ^ k : Nat) : Int) := by rw [← hp]; push_cast; rfl
    rw [e2, ← Int.natCast_mul]
    omega
  rw [e, u32_or_nat _ _ (by omega) hxp, leN_snoc l k x h, Nat.or_comm, nat_join (8 * k) _ _ (by rw [hp]; exact Nat.mul_mod_left _ _) (by rw [hp]; exact hlow)]
  rw [Nat.add_comm, Nat.mul_comm]
set_option maxRecDepth 100000 in
set_option maxHeartbeats 1000000 in
theorem fixed139 (g : Nat) (s : CS) (m : Nat) (w : World) (h : Cur 200 w g s) (hm : m ≤ 4) :
    Calls Try.prog 139 #[.pointer (some ⟨g, 0, none⟩), .int .i64 m] w fun e w' => e = .returned (.int .u32 (leN (takeC s m).1 : Nat)) ∧ Cur 200 w' g (takeC s m).2 ∧ w.grownBy w' (some g) := by
  have hlen := takeC_len s m
  go_enter Try.func139, Try.ntmps139
  go_wp2_with (go_at_call 91; refine (take91 g s m w h (by omega) (by omega)).mono ?_; rintro e w1 ⟨A, n, c, rfl, ho, hc, hg⟩)
  have HL := Hd.mk ho.len
  have hn4 : n ≤ 4 := by have := ho.len; omega
  go_loop [5, 12, 6, 7] (fun r i _ _ => ∃ k : Nat, k ≤ n ∧ i = .int .i64 k ∧ r = .int .u32 (leN ((takeC s m).1.take k) : Nat)) (fun _ i _ _ => n - (intOf i).toNat)
  case atStart => exact ⟨0, Nat.zero_le _, rfl, rfl⟩
  case round =>
    obtain ⟨k, hk, rfl, rfl⟩ := hrel
    by_cases hlt : k < n
    · obtain ⟨ad, x, rfl, hx, hcell⟩ := ho.rd.at_ hlt
      have hb := byte_lt x
      have hb' : (x.toNat : Int) < 256 := by omega
      have HST := Hd.mk (or_step _ k x hx (by omega))
      go_wp2
      go_round
      case rel => exact ⟨k + 1, by omega, by go_num, by rw [HST.out]⟩
      case measure => simp [intOf]; omega
    · go_wp2
      go_ret
      obtain rfl : k = n := by omega
      rw [List.take_of_length_le (by rw [HL.out]; omega)]
      exact ⟨rfl, hc, hg⟩
set_option maxRecDepth 100000 in
set_option maxHeartbeats 400000 in
theorem take32_90 (g : Nat) (s : CS) (w : World) (h : Cur 200 w g s) :
    Calls Try.prog 90 #[.pointer (some ⟨g, 0, none⟩)] w fun e w' => e = .returned (.int .u32 (leN (takeC s 4).1 : Nat)) ∧ Cur 200 w' g (takeC s 4).2 ∧ w.grownBy w' (some g) := by
  go_enter Try.func90, Try.ntmps90
  go_wp2_with (go_at_call 139; refine (fixed139 g s 4 w h (by omega)).mono ?_; rintro e w1 ⟨rfl, hc, hg⟩)
  go_ret
  exact ⟨rfl, hc, hg⟩
set_option maxRecDepth 100000 in
set_option maxHeartbeats 400000 in
theorem byte89 (g : Nat) (s : CS) (w : World) (h : Cur 200 w g s) :
    Calls Try.prog 89 #[.pointer (some ⟨g, 0, none⟩)] w fun e w' => e = .returned (.int .u8 (leN (takeC s 1).1 : Nat)) ∧ Cur 200 w' g (takeC s 1).2 ∧ w.grownBy w' (some g) := by
  have hl := takeC_len s 1
  have hlt : (leN (takeC s 1).1 : Int) < 256 := by
    have := leN_lt (takeC s 1).1
    have h2 : (256 : Nat) ^ (takeC s 1).1.length ≤ 256 ^ 1 := Nat.pow_le_pow_right (by omega) (by exact hl)
    omega
  clear hl
  go_enter Try.func89, Try.ntmps89
  go_wp2_with (go_at_call 139; refine (fixed139 g s 1 w h (by omega)).mono ?_; rintro e w1 ⟨rfl, hc, hg⟩)
  go_ret
  exact ⟨rfl, hc, hg⟩
end Go.Proofs.Ytkgdcglnkodgnaa
