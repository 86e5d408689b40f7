/-
  taken: places taken off a cursor (nav). No condition but sizes.
-/
import Derived.Test.YtkgdcglnkodgnaaNav14
import Derived.Test.YtkgdcglnkodgnaaUint
namespace Go.Proofs.Ytkgdcglnkodgnaa
open Go.RowKit
theorem takeMany_snoc (n : Nat) (s : CS) : takeMany (n + 1) s = ((takeMany n s).1 ++ [(takeOne (takeMany n s).2).1], (takeOne (takeMany n s).2).2) := by
  induction n generalizing s with
  | zero => rfl
  | succ n ih => rw [takeMany, ih]; rfl
theorem indexC_lt (s : CS) {lim : Nat} (h : 1 ≤ lim) : (indexC s lim).1 < lim := by
  unfold indexC
  split
  · exact h
  · split
    · exact h
    · omega
set_option maxRecDepth 100000 in
set_option maxHeartbeats 1000000 in
theorem taken114 (g : Nat) (s : CS) (most : Nat) (w : World) (h : Cur 200 w g s) (hm : most ≤ 100) :
    Calls Try.prog 114 #[.pointer (some ⟨g, 0, none⟩), .int .i64 (most : Int)] w fun e w' => ∃ A n c, e = .returned (.slice A n c) ∧ OwnP w' w.heap.size A n c (takenC s most).1 ∧ Cur 200 w' g (takenC s most).2 ∧ Tch (fun k => k = g) w w' := by
  have hg := h.lt
  have HC := Hd.mk (index155 g s (most + 1) w h (by omega) (by omega))
  obtain ⟨t, s1, hix⟩ : ∃ t s1, Hd (indexC s (most + 1) = (t, s1)) := ⟨_, _, ⟨rfl⟩⟩
  have htk : Hd (takenC s most = takeMany t s1) := ⟨by unfold takenC; rw [hix.out]⟩
  have ht : t ≤ 100 := by have := indexC_lt s (lim := most + 1) (by omega); rw [hix.out] at this; omega
  rw [hix.out] at HC
  rw [htk.out]
  clear h htk hix
  go_enter Try.func114, Try.ntmps114
  go_wp2_with fail
  refine HC.out.mono ?_
  rintro e w1 ⟨rfl, h1, hg1⟩
  have T1 := Hd.mk (Tch.of_grown (F := fun k => k = g) hg1 (fun k e => by injection e with e; exact .inl e.symm))
  have H1 := Hd.mk h1
  clear h1 hg1 HC
  go_wp2
  go_loopw [6, 13] (fun v i wr => ∃ (j : Nat) (A : Option Addr) (n c : Nat), v = .slice A n c ∧ i = .int .i64 (j : Int) ∧ j ≤ t ∧ OwnP wr w.heap.size A n c (takeMany j s1).1 ∧ Hd (n = j) ∧ Hd (Cur 200 wr g (takeMany j s1).2) ∧ Hd (Tch (fun k => k = g) w wr))
    (fun _ i _ => t - (intOf i).toNat)
  case atStart => exact ⟨0, none, 0, 0, rfl, rfl, by omega, OwnP.nil_ _ _ _, ⟨rfl⟩, H1, T1⟩
  case round =>
    obtain ⟨j, A, n, c, rfl, rfl, hj, ho, hn, hc, hT⟩ := hrel
    by_cases hlt : j < t
    · have hki : (j : Int) < (t : Int) := by omega
      have hsn := Hd.mk (takeMany_snoc j s1)
      generalize takeMany j s1 = acc at *
      obtain ⟨acc, s2⟩ := acc
      simp only at ho hsn
      obtain ⟨x, s3, hx⟩ : ∃ x s3, Hd (indexC s2 1000 = (x, s3)) := ⟨_, _, ⟨rfl⟩⟩
      obtain ⟨y, s4, hy⟩ : ∃ y s4, Hd (indexC s3 2000 = (y, s4)) := ⟨_, _, ⟨rfl⟩⟩
      have hone : Hd (takeOne s2 = (((x : Int), (y : Int)), s4)) := ⟨by unfold takeOne; rw [hx.out]; simp only [hy.out]⟩
      rw [hone.out] at hsn
      have hm1 : w.heap.size ≤ wr.heap.size := hT.out.size
      go_wp2_with fail
      refine (index155 g s2 1000 wr hc.out (by omega) (by omega)).mono ?_
      rw [hx.out]
      rintro e w2 ⟨rfl, h2, hg2⟩
      have ho2 := Own.grown ho hg2 (fun q e1 e2 => by injection e2 with e2; have := (Own.lt ho e1).1; omega)
      have T2 := Hd.mk (hT.out.trans (Tch.of_grown (F := up (fun k => k = g) w wr) hg2 (fun k e => by injection e with e; exact .inl (.inl e.symm))))
      have H2 := Hd.mk h2
      clear h2 hg2 hT hc ho hx
      go_wp2_with fail
      refine (index155 g s3 2000 w2 H2.out (by omega) (by omega)).mono ?_
      rw [hy.out]
      rintro e w3 ⟨rfl, h3, hg3⟩
      have ho3 := Own.grown ho2 hg3 (fun q e1 e2 => by injection e2 with e2; have := (Own.lt ho2 e1).1; omega)
      have T3 := Hd.mk (T2.out.trans (Tch.of_grown (F := up (fun k => k = g) w w2) hg3 (fun k e => by injection e with e; exact .inl (.inl e.symm))))
      have H3 := Hd.mk h3
      clear h3 hg3 T2 H2 ho2 hy hm1
      have hA := Hd.mk (below_alloc w3 (.cells #[.int .i64 (x : Int), .int .i64 (y : Int)] 58))
      have hA2 := Hd.mk (below_alloc (w3.alloc (.cells #[.int .i64 (x : Int), .int .i64 (y : Int)] 58)) (.cells #[.int .i64 (x : Int), .int .i64 (y : Int)] 58))
      obtain ⟨bx0, bx1⟩ := box_load (heap_alloc_new w3 (.cells #[.int .i64 (x : Int), .int .i64 (y : Int)] 58))
      have hsz3 : w.heap.size ≤ w3.heap.size := T3.out.size
      have hn100 : n ≤ 100 := by have := hn.out; omega
      go_wp2_with (at_builtin; refine wl_appP rfl (.tmp 20) (.tmp 22) rfl (m := 1) rfl rfl (Own.alloc (Own.alloc ho3 _) _) (RdP.newAt _ [((x : Int), (y : Int))] rfl rfl (by simp)) (by omega) (by simp; omega) ?_; rintro v w4 ⟨A', c', rfl, ho4, hg4, _⟩)
      go_roundw
      case rel =>
        have hob : ∀ q, ownBlk A c = some q → w.heap.size ≤ q := fun q e => (Own.lt ho3 e).1
        have hb4 : Below w.heap.size w3 w4 := below_appP ((hA.out.trans (hA2.out.mono (by simp))).mono hsz3) (by simp; omega) (Own.alloc (Own.alloc ho3 _) _) hg4
        refine ⟨j + 1, A', n + 1, c', rfl, by go_num, by omega, ?_, ⟨by rw [hn.out]⟩, ?_, ?_⟩
        · rw [hsn.out]; exact ho4
        · rw [hsn.out]
          exact ⟨((H3.out.below hA.out).below hA2.out).far hg4 (fun q e => by have := hob q e; omega)⟩
        · have hA3 := hA.out.trans (hA2.out.mono (by simp))
          exact ⟨(T3.out.trans (Tch.of_below hA3)).trans (Tch.of_grown hg4 (fun q e => by have h1 := hob q e; have h2 := Own.lt ho3 e; exact Or.inl (Or.inr ⟨h1, Nat.lt_of_lt_of_le h2.2 hA3.size⟩)))⟩
      case measure => simp [intOf]; omega
    · obtain rfl : j = t := by omega
      have hki : ¬ ((j : Int) < (j : Int)) := by omega
      go_wp2
      go_ret
      exact ⟨_, _, _, rfl, ho, hc.out, hT.out⟩
end Go.Proofs.Ytkgdcglnkodgnaa

