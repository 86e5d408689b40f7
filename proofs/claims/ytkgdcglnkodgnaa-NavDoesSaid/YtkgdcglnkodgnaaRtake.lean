/-
  The document's reader (folioref26): take, twin. No condition but sizes.
-/
import Derived.Test.YtkgdcglnkodgnaaLoad
import Derived.Test.YtkgdcglnkodgnaaBytes
namespace Go.Proofs.Ytkgdcglnkodgnaa
open Go.RowKit
/-- Places taken while there is no error. -/
def takeR : Nat → CS → List Pl × CS
  | 0, s => ([], s)
  | n + 1, s => if (takeR n s).2.err ≠ 0 then takeR n s else ((takeR n s).1 ++ [(takeOne (takeR n s).2).1], (takeOne (takeR n s).2).2)
theorem takeR_many (n : Nat) (s : CS) : (takeR n s).2 = (takeMany n s).2 ∧ ((takeR n s).2.err = 0 → (takeR n s).1 = (takeMany n s).1) := by
  induction n with
  | zero => exact ⟨rfl, fun _ => rfl⟩
  | succ n ih =>
    rw [takeMany_snoc]
    by_cases h : (takeR n s).2.err ≠ 0
    · rw [takeR, if_pos h]
      have h' : (takeMany n s).2.err ≠ 0 := by rw [← ih.1]; exact h
      simp only [takeOne_bad h', ih.1]
      exact ⟨trivial, fun e => absurd e h'⟩
    · rw [takeR, if_neg h]
      have h0 : (takeR n s).2.err = 0 := by omega
      simp only [ih.1, ih.2 h0]
      exact ⟨trivial, fun _ => trivial⟩
theorem takeR_len (n : Nat) (s : CS) : (takeR n s).1.length ≤ n := by
  induction n with
  | zero => simp [takeR]
  | succ n ih =>
    rw [takeR]
    split
    · omega
    · simp; omega
theorem takeR_stop (n : Nat) (s : CS) (h : (takeR n s).2.err ≠ 0) (k : Nat) : takeR (n + k) s = takeR n s := by
  induction k with
  | zero => rfl
  | succ k ih => rw [← Nat.add_assoc, takeR, ih, if_pos h]
theorem tch_drewN {F : Nat → Prop} {w w' : World} (h : Tch F w w') (k : Nat) : Tch F w (w'.drewN k) := ⟨h.os, h.tape, h.output, h.size, h.block⟩
/-- What take of the document answers: a list, whether it is to be taken, the cursor. -/
def RetTake (w : World) (g : Nat) (l : List Pl) (s : CS) (e : Ending) (w' : World) : Prop :=
  ∃ A n c l', e = .returned (.tuple #[.slice A n c, .bool (decide (s.err = 0))]) ∧ OwnP w' w.heap.size A n c l' ∧ n ≤ 100 ∧ (s.err = 0 → l' = l) ∧ Cur 170 w' g s ∧ Tch (fun k => k = g) w w'
set_option maxRecDepth 100000 in
set_option maxHeartbeats 1000000 in
theorem rtwin119 (A : Option Addr) (n c : Nat) (l : List Pl) (w : World) (h : RdP w A n l) (hn : n ≤ 1000000) :
    Calls Try.prog 119 #[.slice A n c] w fun e w' => ∃ A' c', e = .returned (.slice A' n c') ∧ OwnP w' w.heap.size A' n c' l ∧ Below w.heap.size w w' := by
  have hA4 := Hd.mk (below_alloc w (.cells #[] 58))
  go_enter Try.func119, Try.ntmps119
  go_wp2_with (at_builtin; refine wl_appP rfl (.tmp 3) (.tmp 4) rfl (m := n) rfl rfl (OwnP.nil_ _ (w.alloc (.cells #[] 58)).heap.size _) (Rd.alloc h _) (by omega) (Nat.le_refl _) ?_; rintro v w4 ⟨A', c', rfl, hown, hg, _⟩)
  go_ret
  simp only [Nat.zero_add, List.nil_append] at hown ⊢
  have hb4 : Below (w.alloc (.cells #[] 58)).heap.size (w.alloc (.cells #[] 58)) w4 := below_appP (Below.refl _ _) (Nat.le_refl _) (OwnP.nil_ _ _ _) hg
  exact ⟨_, _, rfl, Own.mono hown hA4.out.size, hA4.out.trans (hb4.mono hA4.out.size)⟩
set_option maxRecDepth 100000 in
set_option maxHeartbeats 1000000 in
theorem take117 (g : Nat) (s : CS) (most : Nat) (w : World) (h : Cur 170 w g s) (hm : most ≤ 99) :
    Calls Try.prog 117 #[.pointer (some ⟨g, 0, none⟩), .int .i64 (most : Int)] w (RetTake w g (takenC s most).1 (takenC s most).2) := by
  have hg := h.lt
  have HC := Hd.mk (rindex158 g s (most + 1) w h (by omega) (by omega))
  obtain ⟨t, s1, hix⟩ : ∃ t s1, Hd (indexC s (most + 1) = (t, s1)) := ⟨_, _, ⟨rfl⟩⟩
  have htk : Hd (takenC s most = takeMany t s1) := ⟨by unfold takenC; rw [hix.out]⟩
  have ht : t ≤ 99 := by have := indexC_lt s (lim := most + 1) (by omega); rw [hix.out] at this; omega
  have hall := Hd.mk (takeR_many t s1)
  rw [hix.out] at HC
  clear h hix
  have hm1 : IntKind.i64.wrap ((most : Int) + 1) = ((most + 1 : Nat) : Int) := by rw [IntWalk.i64_in _ (by omega)]; omega
  go_enter Try.func117, Try.ntmps117
  go_wp2_with fail
  refine HC.out.mono ?_
  rintro e w1 ⟨rfl, h1, hg1⟩
  have T1 := Hd.mk (Tch.of_grown (F := fun k => k = g) hg1 (fun k e => by injection e with e; exact .inl e.symm))
  have H1 := Hd.mk h1
  clear h1 hg1 HC
  go_wp2
  go_loopw [7, 8] (fun v i wr => ∃ (j : Nat) (A : Option Addr) (n c : Nat), v = .slice A n c ∧ i = .int .i64 (j : Int) ∧ j ≤ t ∧ OwnP wr w.heap.size A n c (takeR j s1).1 ∧ Hd (n ≤ j) ∧ Hd (Cur 170 wr g (takeR j s1).2) ∧ Hd (Tch (fun k => k = g) w wr))
    (fun _ i _ => t - (intOf i).toNat)
  case atStart => exact ⟨0, none, 0, 0, rfl, rfl, by omega, OwnP.nil_ _ _ _, ⟨Nat.le_refl _⟩, H1, T1⟩
  case round =>
    obtain ⟨j, A, n, c, rfl, rfl, hj, ho, hn, hc, hT⟩ := hrel
    have hlen := Hd.mk (OwnP.len ho)
    obtain ⟨B, bn, bc', a0, a1, a2, f0, f1, f2, hr, hnc, hat, hnn⟩ := hc.out.cells
    by_cases hlt : j < t
    · have hki : (j : Int) < (t : Int) := by omega
      by_cases he : (takeR j s1).2.err = 0
      · have hsn : Hd (takeR (j + 1) s1 = ((takeR j s1).1 ++ [(takeOne (takeR j s1).2).1], (takeOne (takeR j s1).2).2)) := ⟨by rw [takeR, if_neg (by simpa using he)]⟩
        generalize takeR j s1 = acc at *
        obtain ⟨acc, s2⟩ := acc
        simp only at ho hsn he a0 a1 a2 hr hat hc hlen
        obtain ⟨x, s3, hx⟩ : ∃ x s3, Hd (indexC s2 1000 = (x, s3)) := ⟨_, _, ⟨rfl⟩⟩
        obtain ⟨y, s4, hy⟩ : ∃ y s4, Hd (indexC s3 2000 = (y, s4)) := ⟨_, _, ⟨rfl⟩⟩
        have hone : Hd (takeOne s2 = (((x : Int), (y : Int)), s4)) := ⟨by unfold takeOne; rw [hx.out]; simp only [hy.out]⟩
        rw [hone.out] at hsn
        have hm1 : w.heap.size ≤ wr.heap.size := hT.out.size
        have he' : ((s2.err : Int) == 0) = true := by rw [beq_iff_eq]; omega
        clear he hat hr hnc hnn
        go_wp2_with fail
        clear a0 a1 a2 f0 f1 f2 he'
        refine (rindex158 g s2 1000 wr hc.out (by omega) (by omega)).mono ?_
        rw [hx.out]
        rintro e w2 ⟨rfl, h2, hg2⟩
        have ho2 := Own.grown ho hg2 (fun q e1 e2 => by injection e2 with e2; have := (Own.lt ho e1).1; omega)
        have T2 := Hd.mk (hT.out.trans (Tch.of_grown (F := up (fun k => k = g) w wr) hg2 (fun k e => by injection e with e; exact .inl (.inl e.symm))))
        have H2 := Hd.mk h2
        clear h2 hg2 hT hc ho hx
        go_wp2_with fail
        refine (rindex158 g s3 2000 w2 H2.out (by omega) (by omega)).mono ?_
        rw [hy.out]
        rintro e w3 ⟨rfl, h3, hg3⟩
        have ho3 := Own.grown ho2 hg3 (fun q e1 e2 => by injection e2 with e2; have := (Own.lt ho2 e1).1; omega)
        have T3 := Hd.mk (T2.out.trans (Tch.of_grown (F := up (fun k => k = g) w w2) hg3 (fun k e => by injection e with e; exact .inl (.inl e.symm))))
        have H3 := Hd.mk h3
        clear h3 hg3 T2 H2 ho2 hy hm1
        have hA := Hd.mk (below_alloc w3 (.cells #[.int .i64 (x : Int), .int .i64 (y : Int)] 58))
        have hA2 := Hd.mk (below_alloc (w3.alloc (.cells #[.int .i64 (x : Int), .int .i64 (y : Int)] 58)) (.cells #[.int .i64 (x : Int), .int .i64 (y : Int)] 58))
        obtain ⟨bx0, bx1⟩ := box_load (heap_alloc_new w3 (.cells #[.int .i64 (x : Int), .int .i64 (y : Int)] 58))
        have hsz3 : w.heap.size ≤ w3.heap.size := T3.out.size
        have hn100 : n ≤ 100 := by have := hn.out; omega
        go_wp2_with (at_builtin; refine wl_appP rfl (.tmp 31) (.tmp 33) rfl (m := 1) rfl rfl (Own.alloc (Own.alloc ho3 _) _) (RdP.newAt _ [((x : Int), (y : Int))] rfl rfl (by simp)) (by omega) (by simp; omega) ?_; rintro v w4 ⟨A', c', rfl, ho4, hg4, _⟩)
        go_roundw
        case rel =>
          have hob : ∀ q, ownBlk A c = some q → w.heap.size ≤ q := fun q e => (Own.lt ho3 e).1
          refine ⟨j + 1, A', n + 1, c', rfl, by go_num, by omega, ?_, ⟨by have := hn.out; omega⟩, ?_, ?_⟩
          · rw [hsn.out]; exact ho4
          · rw [hsn.out]
            exact ⟨((H3.out.below hA.out).below hA2.out).far hg4 (fun q e => by have := hob q e; omega)⟩
          · have hA3 := hA.out.trans (hA2.out.mono (by simp))
            exact ⟨(T3.out.trans (Tch.of_below hA3)).trans (Tch.of_grown hg4 (fun q e => by have h1 := hob q e; have h2 := Own.lt ho3 e; exact Or.inl (Or.inr ⟨h1, Nat.lt_of_lt_of_le h2.2 hA3.size⟩)))⟩
        case measure => simp [intOf]; omega
      · have he' : ((takeR j s1).2.err : Int) ≠ 0 := by omega
        have he2 : (((takeR j s1).2.err : Int) == 0) = false := by rw [beq_eq_false_iff_ne]; exact he'
        have hst := Hd.mk (takeR_stop j s1 he (t - j))
        rw [show j + (t - j) = t by omega] at hst
        have hEr : Hd ((takenC s most).2.err ≠ 0) := ⟨by rw [htk.out, ← hall.out.1, hst.out]; exact he⟩
        have hCur : Hd (Cur 170 wr g (takenC s most).2) := ⟨by rw [htk.out, ← hall.out.1, hst.out]; exact hc.out⟩
        have hdec : Hd (decide ((takenC s most).2.err = 0) = false) := ⟨decide_eq_false hEr.out⟩
        clear he
        go_wp2_with fail
        go_quiet (fail)
        go_wp2_with fail
        go_ret2
        refine ⟨_, _, _, _, by rw [hdec.out]; rfl, ho, by have := hn.out; omega, fun e => absurd e hEr.out, hCur.out, tch_drewN hT.out _⟩
    · obtain rfl : j = t := by omega
      have hki : ¬ ((j : Int) < (j : Int)) := by omega
      have hCur : Hd (Cur 170 wr g (takenC s most).2) := ⟨by rw [htk.out, ← hall.out.1]; exact hc.out⟩
      have he2 : (((takeR j s1).2.err : Int) == 0) = decide ((takenC s most).2.err = 0) := by rw [htk.out, ← hall.out.1, Bool.eq_iff_iff]; simp
      have hl' : Hd ((takenC s most).2.err = 0 → (takeR j s1).1 = (takenC s most).1) := ⟨by rw [htk.out, ← hall.out.1]; exact hall.out.2⟩
      have HE := Hd.mk he2
      clear he2
      go_wp2_with fail
      go_quiet (fail)
      go_wp2_with fail
      go_ret2
      exact ⟨_, _, _, _, by rw [← HE.out]; rfl, ho, by have := hn.out; omega, hl'.out, hCur.out, tch_drewN hT.out _⟩
end Go.Proofs.Ytkgdcglnkodgnaa

