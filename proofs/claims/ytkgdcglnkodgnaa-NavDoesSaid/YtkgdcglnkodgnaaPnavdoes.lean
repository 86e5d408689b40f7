/-
  The statement NavDoes: whatever the input, the law returns true and leaves its arguments as they were. No condition beyond the row's own.
-/
import Derived.Test.YtkgdcglnkodgnaaRdoc
import Derived.Test.YtkgdcglnkodgnaaNav14
import Derived.Test.YtkgdcglnkodgnaaOpenP
import Derived.Test.YtkgdcglnkodgnaaRows
import Derived.Test.YtkgdcglnkodgnaaOpen
namespace Go.Proofs.Ytkgdcglnkodgnaa
open Go.RowKit
/-- A reader and the document's, apart. -/
structure Par (W : World) (B gx : Nat) (FX : Nat → Prop) (s : NS) (go : Nat) (FO : Nat → Prop) (r : RN) : Prop where
  n1 : NavAt W gx FX s
  n2 : RefAt W go FO r
  ap : ∀ k, FX k → ¬ FO k
  l1 : ∀ k, FX k → B ≤ k
  l2 : ∀ k, FO k → B ≤ k
section
variable {W W' : World} {B gx go : Nat} {FX FO : Nat → Prop} {s s' : NS} {r r' : RN}
theorem Par.later (h : Par W B gx FX s go FO r) (hb : Below W.heap.size W W') : Par W' B gx FX s go FO r := ⟨h.n1.below hb, h.n2.below hb, h.ap, h.l1, h.l2⟩
theorem Par.fst (h : Par W B gx FX s go FO r) (hT : NavTo W W' gx FX s') (hB : B ≤ W.heap.size) : Par W' B gx (up FX W W') s' go FO r :=
  ⟨hT.1, h.n2.keep hT.2 (fun k e e' => h.ap k e' e), fun k e e' => e.elim (fun e => h.ap k e e') (fun e => by have := h.n2.lt k e'; omega), up_ge h.l1 hB, h.l2⟩
theorem Par.snd (h : Par W B gx FX s go FO r) (hT : RefTo W W' go FO r') (hB : B ≤ W.heap.size) : Par W' B gx FX s go (up FO W W') r' :=
  ⟨h.n1.keep hT.2 h.ap, hT.1, fun k e e' => e'.elim (h.ap k e) (fun e' => by have := h.n1.lt k e; omega), h.l1, up_ge h.l2 hB⟩
end
/-- What one act leaves of both. -/
def RetDo (w : World) (B gx go : Nat) (s : NS) (e : Ending) (w' : World) : Prop :=
  e = .returned (.bool true) ∧ (∃ FX FO, Par w' B gx FX s go FO s.rn) ∧ Below B w w'
theorem act_cells {w : World} {g : Nat} {a b c d : Value} (h : w.heap[g]? = some (.cells #[a, b, c, d] 71 (0, 0))) :
    w.cell? ⟨g, 0, none⟩ = some a ∧ w.cell? ⟨g, 1, none⟩ = some b ∧ w.cell? ⟨g, 2, none⟩ = some c ∧ w.cell? ⟨g, 3, none⟩ = some d :=
  ⟨(cell_of_row _ _ 0 _ _ _ h).trans rfl, (cell_of_row _ _ 1 _ _ _ h).trans rfl, (cell_of_row _ _ 2 _ _ _ h).trans rfl, (cell_of_row _ _ 3 _ _ _ h).trans rfl⟩
set_option maxRecDepth 100000 in
set_option maxHeartbeats 4000000 in
theorem do83 (B gx go : Nat) (FX FO : Nat → Prop) (s : NS) (a : ActN) (w : World) (h : Par w B gx FX s go FO s.rn) (hi : NInv s) (hB : B ≤ w.heap.size) :
    Calls Try.prog 83 #[.pointer (some ⟨gx, 0, none⟩), .pointer (some ⟨go, 0, none⟩), actV a] w (RetDo w B gx go (s.step a).2) := by
  obtain ⟨kd, ⟨px, py⟩, x⟩ := a
  unfold actV
  have hmix := try_mixed
  have HI := Hd.mk hi.small
  have HII := Hd.mk hi
  have RI0 := Hd.mk (RI.of hi)
  have HB := Hd.mk (below_alloc w (.cells #[.int .i64 kd, .int .i64 px, .int .i64 py, .int .i64 x] 71))
  have HX := Hd.mk (heap_alloc_new w (.cells #[.int .i64 kd, .int .i64 px, .int .i64 py, .int .i64 x] 71))
  have P0 := Hd.mk (h.later HB.out)
  have hBs := Hd.mk hB
  have hwx : Hd (¬ FX w.heap.size ∧ ¬ FO w.heap.size) := ⟨⟨fun e => by have := h.n1.lt _ e; omega, fun e => by have := h.n2.lt _ e; omega⟩⟩
  have hB1 : Hd (B ≤ (w.alloc (.cells #[.int .i64 kd, .int .i64 px, .int .i64 py, .int .i64 x] 71)).heap.size) := ⟨Nat.le_trans hB HB.out.size⟩
  clear hi h hB
  by_cases h1 : kd = 1
  · subst h1
    have hs : Hd (s.step ⟨1, (px, py), x⟩ = (s.back).2) := ⟨rfl⟩
    skip
    obtain ⟨e1, e2, e3⟩ := rn_back HII.out
    obtain ⟨⟨qx, qy⟩, hq⟩ : ∃ q, Hd ((s.back).1 = q) := ⟨_, ⟨rfl⟩⟩
    obtain ⟨er, her⟩ : ∃ er, Hd ((s.back).2.1 = er) := ⟨_, ⟨rfl⟩⟩
    obtain ⟨s', hs'⟩ : ∃ s', Hd ((s.back).2.2 = s') := ⟨_, ⟨rfl⟩⟩
    rw [hq.out] at e1
    rw [her.out] at e2
    rw [hs'.out] at e3
    have E1 := Hd.mk e1
    have E2 := Hd.mk e2
    have E3 := Hd.mk e3
    clear e1 e2 e3
    go_enter Try.func83, Try.ntmps83
    go_wp2_with fail
    refine (back45 gx FX s _ P0.out.n1 HI.out.1 HI.out.2.1).mono ?_
    rw [hq.out, her.out, hs'.out]
    rintro e w1 ⟨rfl, hN⟩
    unfold plV
    have P1 := Hd.mk (P0.out.fst hN hB1.out)
    have HX1 := Hd.mk ((hN.2.block w.heap.size (by simp) hwx.out.1).trans HX.out)
    have HB1 := Hd.mk ((HB.out.mono hBs.out).trans (hN.2.below P0.out.l1 hB1.out))
    have hlt1 : w.heap.size < w1.heap.size := by have := hN.2.size; simp at this; omega
    have hsz1 := Hd.mk (Nat.le_trans hBs.out HB1.out.size)
    have hA1 := Hd.mk (below_alloc w1 (.cells #[.int .i64 qx, .int .i64 qy] 58))
    have hx1 := Hd.mk (heap_alloc_new w1 (.cells #[.int .i64 qx, .int .i64 qy] 58))
    have P2 := Hd.mk (P1.out.later hA1.out)
    have hnf : Hd (¬ FO w1.heap.size) := ⟨fun e => by have := P1.out.n2.lt _ e; omega⟩
    obtain ⟨a0, a1, a2, a3⟩ := act_cells HX1.out
    clear hN P1
    simp only
    go_wp2_with fail
    clear a0 a1 a2 a3
    refine (rback129 go FO s.rn _ P2.out.n2 RI0.out).mono ?_
    rw [E1.out, E2.out, E3.out]
    rintro e w2 ⟨rfl, hR⟩
    unfold plV
    have P3 := Hd.mk (P2.out.snd hR (Nat.le_trans hsz1.out hA1.out.size))
    have HB2 := Hd.mk (HB1.out.trans ((hA1.out.mono hsz1.out).trans (hR.2.below P2.out.l2 (Nat.le_trans hsz1.out hA1.out.size))))
    have hx2 := Hd.mk ((hR.2.block w1.heap.size (by simp) hnf.out).trans hx1.out)
    have hlt2 : w1.heap.size < w2.heap.size := by have := hR.2.size; simp at this; omega
    have hsz2 := Hd.mk (Nat.le_trans hBs.out HB2.out.size)
    have hA2 := Hd.mk (below_alloc w2 (.cells #[.int .i64 qx, .int .i64 qy] 58))
    have P4 := Hd.mk (P3.out.later hA2.out)
    have HB3 := Hd.mk (HB2.out.trans (hA2.out.mono hsz2.out))
    obtain ⟨b0, b1⟩ := box_load hx2.out
    clear hR P3
    simp only
    go_wp2_with fail
    clear b0 b1
    refine (place130 (qx, qy) (er : Int) _).mono ?_
    rintro e w3 ⟨rfl, b3⟩
    have P5 := Hd.mk (P4.out.later b3)
    have HB4 := Hd.mk (HB3.out.trans (b3.mono (Nat.le_trans hsz2.out hA2.out.size)))
    clear b3
    go_wp2
    go_ret
    rw [hs.out, hs'.out]
    exact ⟨rfl, ⟨_, _, P5.out⟩, HB4.out⟩
  by_cases h2 : kd = 2
  · subst h2
    have hs : Hd (s.step ⟨2, (px, py), x⟩ = (s.forward).2) := ⟨rfl⟩
    clear h1
    obtain ⟨e1, e2, e3⟩ := rn_forward HII.out
    obtain ⟨⟨qx, qy⟩, hq⟩ : ∃ q, Hd ((s.forward).1 = q) := ⟨_, ⟨rfl⟩⟩
    obtain ⟨er, her⟩ : ∃ er, Hd ((s.forward).2.1 = er) := ⟨_, ⟨rfl⟩⟩
    obtain ⟨s', hs'⟩ : ∃ s', Hd ((s.forward).2.2 = s') := ⟨_, ⟨rfl⟩⟩
    rw [hq.out] at e1
    rw [her.out] at e2
    rw [hs'.out] at e3
    have E1 := Hd.mk e1
    have E2 := Hd.mk e2
    have E3 := Hd.mk e3
    clear e1 e2 e3
    go_enter Try.func83, Try.ntmps83
    go_wp2_with fail
    refine (forward46 gx FX s _ P0.out.n1 HI.out.1 HI.out.2.1).mono ?_
    rw [hq.out, her.out, hs'.out]
    rintro e w1 ⟨rfl, hN⟩
    unfold plV
    have P1 := Hd.mk (P0.out.fst hN hB1.out)
    have HX1 := Hd.mk ((hN.2.block w.heap.size (by simp) hwx.out.1).trans HX.out)
    have HB1 := Hd.mk ((HB.out.mono hBs.out).trans (hN.2.below P0.out.l1 hB1.out))
    have hlt1 : w.heap.size < w1.heap.size := by have := hN.2.size; simp at this; omega
    have hsz1 := Hd.mk (Nat.le_trans hBs.out HB1.out.size)
    have hA1 := Hd.mk (below_alloc w1 (.cells #[.int .i64 qx, .int .i64 qy] 58))
    have hx1 := Hd.mk (heap_alloc_new w1 (.cells #[.int .i64 qx, .int .i64 qy] 58))
    have P2 := Hd.mk (P1.out.later hA1.out)
    have hnf : Hd (¬ FO w1.heap.size) := ⟨fun e => by have := P1.out.n2.lt _ e; omega⟩
    obtain ⟨a0, a1, a2, a3⟩ := act_cells HX1.out
    clear hN P1
    simp only
    go_wp2_with fail
    clear a0 a1 a2 a3
    refine (rforward131 go FO s.rn _ P2.out.n2 RI0.out).mono ?_
    rw [E1.out, E2.out, E3.out]
    rintro e w2 ⟨rfl, hR⟩
    unfold plV
    have P3 := Hd.mk (P2.out.snd hR (Nat.le_trans hsz1.out hA1.out.size))
    have HB2 := Hd.mk (HB1.out.trans ((hA1.out.mono hsz1.out).trans (hR.2.below P2.out.l2 (Nat.le_trans hsz1.out hA1.out.size))))
    have hx2 := Hd.mk ((hR.2.block w1.heap.size (by simp) hnf.out).trans hx1.out)
    have hlt2 : w1.heap.size < w2.heap.size := by have := hR.2.size; simp at this; omega
    have hsz2 := Hd.mk (Nat.le_trans hBs.out HB2.out.size)
    have hA2 := Hd.mk (below_alloc w2 (.cells #[.int .i64 qx, .int .i64 qy] 58))
    have P4 := Hd.mk (P3.out.later hA2.out)
    have HB3 := Hd.mk (HB2.out.trans (hA2.out.mono hsz2.out))
    obtain ⟨b0, b1⟩ := box_load hx2.out
    clear hR P3
    simp only
    go_wp2_with fail
    clear b0 b1
    refine (place130 (qx, qy) (er : Int) _).mono ?_
    rintro e w3 ⟨rfl, b3⟩
    have P5 := Hd.mk (P4.out.later b3)
    have HB4 := Hd.mk (HB3.out.trans (b3.mono (Nat.le_trans hsz2.out hA2.out.size)))
    clear b3
    go_wp2
    go_ret
    rw [hs.out, hs'.out]
    exact ⟨rfl, ⟨_, _, P5.out⟩, HB4.out⟩
  by_cases h3 : kd = 3
  · subst h3
    have hs : Hd (s.step ⟨3, (px, py), x⟩ = s.mark.2) := ⟨rfl⟩
    clear h1 h2
    obtain ⟨e1, e2, e3⟩ := rn_mark HII.out
    obtain ⟨q, hq⟩ : ∃ q, Hd (s.mark.1 = q) := ⟨_, ⟨rfl⟩⟩
    obtain ⟨er, her⟩ : ∃ er, Hd (s.mark.2.1 = er) := ⟨_, ⟨rfl⟩⟩
    obtain ⟨s', hs'⟩ : ∃ s', Hd (s.mark.2.2 = s') := ⟨_, ⟨rfl⟩⟩
    rw [hq.out] at e1
    rw [her.out] at e2
    rw [hs'.out] at e3
    have E1 := Hd.mk e1
    have E2 := Hd.mk e2
    have E3 := Hd.mk e3
    clear e1 e2 e3
    go_enter Try.func83, Try.ntmps83
    go_wp2_with fail
    refine (mark56 gx FX s _ P0.out.n1 HI.out.2.2).mono ?_
    rw [hq.out, her.out, hs'.out]
    rintro e w1 ⟨rfl, hN⟩
    have P1 := Hd.mk (P0.out.fst hN hB1.out)
    have HB1 := Hd.mk ((HB.out.mono hBs.out).trans (hN.2.below P0.out.l1 hB1.out))
    have hsz1 := Hd.mk (Nat.le_trans hBs.out HB1.out.size)
    clear hN
    go_wp2_with fail
    refine (rmark132 go FO s.rn w1 P1.out.n2 RI0.out).mono ?_
    rw [E1.out, E2.out, E3.out]
    rintro e w2 ⟨rfl, hR⟩
    have P3 := Hd.mk (P1.out.snd hR hsz1.out)
    have HB2 := Hd.mk (HB1.out.trans (hR.2.below P1.out.l2 hsz1.out))
    have hqq : (q == q) = true := by simp
    clear hR P1
    go_wp2
    go_ret
    rw [hs.out, hs'.out]
    exact ⟨rfl, ⟨_, _, P3.out⟩, HB2.out⟩
  by_cases h4 : kd = 4
  · subst h4
    have hs : Hd (s.step ⟨4, (px, py), x⟩ = s.unmark x) := ⟨rfl⟩
    clear h1 h2 h3
    obtain ⟨e1, e2⟩ := rn_unmark HII.out x
    obtain ⟨er, s', hst⟩ : ∃ er s', Hd (s.unmark x = (er, s')) := ⟨_, _, ⟨rfl⟩⟩
    rw [hst.out] at e1 e2
    have E1 := Hd.mk e1
    have E2 := Hd.mk e2
    clear e1 e2
    go_enter Try.func83, Try.ntmps83
    go_wp2_with fail
    obtain ⟨V, hV⟩ : ∃ V, Hd (w.alloc (.cells #[.int .i64 4, .int .i64 px, .int .i64 py, .int .i64 x] 71) = V) := ⟨_, ⟨rfl⟩⟩
    rw [hV.out] at HB HX P0 hB1 ⊢
    clear hV
    refine region_zone 10 [false, false, false, false, false, false, false, false, false, false] (by kernel_rfl) (by kernel_rfl) hmix (fun w' => w'.heap[w.heap.size]? = some (.cells #[.int .i64 4, .int .i64 px, .int .i64 py, .int .i64 x] 71 (0, 0))) [] ?_ (fun hS => ?_)
    · exact HX.out
    refine wpAnyZ_take0 (i := 0) (oi := ⟨_, _, _, _, _, _⟩) (v := ?_) rfl (by decide +kernel) (fun _ _ _ h => h) (Or.inl ⟨by rfl, ?_⟩) (fun _ => hS) ?_
    rotate_left
    focus (intro w _; go_simp; (try with_reducible rfl); done)
    simp only [Act.put, List.setIfInBounds_toArray, List.set_cons_zero, List.set_cons_succ]
    refine wpAnyZ_take0 (i := 1) (oi := ⟨_, _, _, _, _, _⟩) (v := ?_) rfl (by decide +kernel) (fun _ _ _ h => h) (Or.inl ⟨by rfl, ?_⟩) (fun _ => hS) ?_
    rotate_left
    focus (intro w _; go_simp; (try with_reducible rfl); done)
    simp only [Act.put, List.setIfInBounds_toArray, List.set_cons_zero, List.set_cons_succ]
    refine wpAnyZ_take (i := 2) (oi := ⟨_, _, _, _, _, _⟩) (v := ?_) rfl (by decide +kernel) (fun _ _ _ h => h) (Or.inl ⟨by rfl, ?_⟩) hS ?_
    rotate_left
    focus (intro w hSw; (try dsimp only at hSw); (obtain ⟨z0, z1, z2, z3⟩ := act_cells hSw; clear hSw); go_simp; (try with_reducible rfl); done)
    simp only [Act.put, List.setIfInBounds_toArray, List.set_cons_zero, List.set_cons_succ]
    refine wpAnyZ_take0 (i := 4) (oi := ⟨_, _, _, _, _, _⟩) (v := ?_) rfl (by decide +kernel) (fun _ _ _ h => h) (Or.inl ⟨by rfl, ?_⟩) (fun _ => hS) ?_
    rotate_left
    focus (intro w _; go_simp; (try with_reducible rfl); done)
    simp only [Act.put, List.setIfInBounds_toArray, List.set_cons_zero, List.set_cons_succ]
    refine wpAnyZ_take0 (i := 5) (oi := ⟨_, _, _, _, _, _⟩) (v := ?_) rfl (by decide +kernel) (fun _ _ _ h => h) (Or.inl ⟨by rfl, ?_⟩) (fun _ => hS) ?_
    rotate_left
    focus (intro w _; go_simp; (try with_reducible rfl); done)
    simp only [Act.put, List.setIfInBounds_toArray, List.set_cons_zero, List.set_cons_succ]
    refine wpAnyZ_take (i := 6) (oi := ⟨_, _, _, _, _, _⟩) (v := ?_) rfl (by decide +kernel) (fun _ _ _ h => h) (Or.inl ⟨by rfl, ?_⟩) hS ?_
    rotate_left
    focus (intro w hSw; (try dsimp only at hSw); (obtain ⟨z0, z1, z2, z3⟩ := act_cells hSw; clear hSw); go_simp; (try with_reducible rfl); done)
    simp only [Act.put, List.setIfInBounds_toArray, List.set_cons_zero, List.set_cons_succ]
    refine wpAnyZ_one (i := 3) rfl (by decide +kernel) (fun K hKK => ?_)
    go_simp
    refine (unmark59 gx FX s x V.drew (P0.out.n1.below (below_drew V)) HI.out.2.2).mono ?_
    rw [hst.out]
    rintro e w1 ⟨rfl, hN⟩
    have P1 := Hd.mk ((P0.out.later (below_drew V)).fst hN hB1.out)
    have HX1 := Hd.mk ((hN.2.block w.heap.size (Array.getElem?_eq_some_iff.1 HX.out).1 hwx.out.1).trans HX.out)
    have HB1 := Hd.mk ((HB.out.mono hBs.out).trans (((below_drew V).mono hB1.out).trans (hN.2.below P0.out.l1 hB1.out)))
    have hsz1 := Hd.mk (Nat.le_trans hBs.out HB1.out.size)
    clear hN
    clear hS
    have hS := HX1.out
    refine hKK.out _ _ (fun _ => hS) ?_
    clear hKK
    refine wpAnyZ_one (i := 7) rfl (by decide +kernel) (fun K hKK => ?_)
    go_simp
    refine (runmark133 go FO s.rn x w1 P1.out.n2 RI0.out).mono ?_
    rw [E1.out, E2.out]
    rintro e w2 ⟨rfl, hR⟩
    have P3 := Hd.mk (P1.out.snd hR hsz1.out)
    have HB2 := Hd.mk (HB1.out.trans (hR.2.below P1.out.l2 hsz1.out))
    have HX2 := Hd.mk ((hR.2.block w.heap.size (Array.getElem?_eq_some_iff.1 HX1.out).1 hwx.out.2).trans HX1.out)
    clear hR P1
    clear hS
    have hS := HX2.out
    refine hKK.out _ _ (fun _ => hS) ?_
    clear hKK
    refine wpAnyZ_take0 (i := 8) (oi := ⟨_, _, _, _, _, _⟩) (v := ?_) rfl (by decide +kernel) (fun _ _ _ h => h) (Or.inl ⟨by rfl, ?_⟩) (fun _ => hS) ?_
    rotate_left
    focus (intro w _; go_simp; (try with_reducible rfl); done)
    simp only [Act.put, List.setIfInBounds_toArray, List.set_cons_zero, List.set_cons_succ]
    refine wpAnyZ_take0 (i := 9) (oi := ⟨_, _, _, _, _, _⟩) (v := ?_) rfl (by decide +kernel) (fun _ _ _ h => h) (Or.inl ⟨by rfl, ?_⟩) (fun _ => hS) ?_
    rotate_left
    focus (intro w _; go_simp; (try with_reducible rfl); done)
    simp only [Act.put, List.setIfInBounds_toArray, List.set_cons_zero, List.set_cons_succ]
    refine wpAnyZ_done (by decide +kernel) ?_
    clear hS
    go_wp2
    go_ret
    rw [hs.out, hst.out]
    exact ⟨by simp, ⟨_, _, P3.out⟩, HB2.out⟩
  by_cases h5 : kd = 5
  · subst h5
    have hs : Hd (s.step ⟨5, (px, py), x⟩ = (s.jump x).2) := ⟨rfl⟩
    clear h1 h2 h3 h4
    obtain ⟨e1, e2, e3⟩ := rn_jump HII.out x
    obtain ⟨⟨qx, qy⟩, hq⟩ : ∃ q, Hd ((s.jump x).1 = q) := ⟨_, ⟨rfl⟩⟩
    obtain ⟨er, her⟩ : ∃ er, Hd ((s.jump x).2.1 = er) := ⟨_, ⟨rfl⟩⟩
    obtain ⟨s', hs'⟩ : ∃ s', Hd ((s.jump x).2.2 = s') := ⟨_, ⟨rfl⟩⟩
    rw [hq.out] at e1
    rw [her.out] at e2
    rw [hs'.out] at e3
    have E1 := Hd.mk e1
    have E2 := Hd.mk e2
    have E3 := Hd.mk e3
    clear e1 e2 e3
    go_enter Try.func83, Try.ntmps83
    go_wp2_with fail
    refine (jump57 gx FX s x _ P0.out.n1 HI.out.1).mono ?_
    rw [hq.out, her.out, hs'.out]
    rintro e w1 ⟨rfl, hN⟩
    unfold plV
    have P1 := Hd.mk (P0.out.fst hN hB1.out)
    have HX1 := Hd.mk ((hN.2.block w.heap.size (by simp) hwx.out.1).trans HX.out)
    have HB1 := Hd.mk ((HB.out.mono hBs.out).trans (hN.2.below P0.out.l1 hB1.out))
    have hlt1 : w.heap.size < w1.heap.size := by have := hN.2.size; simp at this; omega
    have hsz1 := Hd.mk (Nat.le_trans hBs.out HB1.out.size)
    have hA1 := Hd.mk (below_alloc w1 (.cells #[.int .i64 qx, .int .i64 qy] 58))
    have hx1 := Hd.mk (heap_alloc_new w1 (.cells #[.int .i64 qx, .int .i64 qy] 58))
    have P2 := Hd.mk (P1.out.later hA1.out)
    have hnf : Hd (¬ FO w1.heap.size) := ⟨fun e => by have := P1.out.n2.lt _ e; omega⟩
    obtain ⟨a0, a1, a2, a3⟩ := act_cells HX1.out
    clear hN P1
    simp only
    go_wp2_with fail
    clear a0 a1 a2 a3
    refine (rjump134 go FO s.rn x _ P2.out.n2 RI0.out).mono ?_
    rw [E1.out, E2.out, E3.out]
    rintro e w2 ⟨rfl, hR⟩
    unfold plV
    have P3 := Hd.mk (P2.out.snd hR (Nat.le_trans hsz1.out hA1.out.size))
    have HB2 := Hd.mk (HB1.out.trans ((hA1.out.mono hsz1.out).trans (hR.2.below P2.out.l2 (Nat.le_trans hsz1.out hA1.out.size))))
    have hx2 := Hd.mk ((hR.2.block w1.heap.size (by simp) hnf.out).trans hx1.out)
    have hlt2 : w1.heap.size < w2.heap.size := by have := hR.2.size; simp at this; omega
    have hsz2 := Hd.mk (Nat.le_trans hBs.out HB2.out.size)
    have hA2 := Hd.mk (below_alloc w2 (.cells #[.int .i64 qx, .int .i64 qy] 58))
    have P4 := Hd.mk (P3.out.later hA2.out)
    have HB3 := Hd.mk (HB2.out.trans (hA2.out.mono hsz2.out))
    obtain ⟨b0, b1⟩ := box_load hx2.out
    clear hR P3
    simp only
    go_wp2_with fail
    clear b0 b1
    refine (place130 (qx, qy) (er : Int) _).mono ?_
    rintro e w3 ⟨rfl, b3⟩
    have P5 := Hd.mk (P4.out.later b3)
    have HB4 := Hd.mk (HB3.out.trans (b3.mono (Nat.le_trans hsz2.out hA2.out.size)))
    clear b3
    go_wp2
    go_ret
    rw [hs.out, hs'.out]
    exact ⟨rfl, ⟨_, _, P5.out⟩, HB4.out⟩
  by_cases h6 : kd = 6
  · subst h6
    have hs : Hd (s.step ⟨6, (px, py), x⟩ = s.move x) := ⟨rfl⟩
    clear h1 h2 h3 h4 h5
    obtain ⟨e1, e2⟩ := rn_move HII.out x
    obtain ⟨er, s', hst⟩ : ∃ er s', Hd (s.move x = (er, s')) := ⟨_, _, ⟨rfl⟩⟩
    rw [hst.out] at e1 e2
    have E1 := Hd.mk e1
    have E2 := Hd.mk e2
    clear e1 e2
    go_enter Try.func83, Try.ntmps83
    go_wp2_with fail
    obtain ⟨V, hV⟩ : ∃ V, Hd (w.alloc (.cells #[.int .i64 6, .int .i64 px, .int .i64 py, .int .i64 x] 71) = V) := ⟨_, ⟨rfl⟩⟩
    rw [hV.out] at HB HX P0 hB1 ⊢
    clear hV
    refine region_zone 10 [false, false, false, false, false, false, false, false, false, false] (by kernel_rfl) (by kernel_rfl) hmix (fun w' => w'.heap[w.heap.size]? = some (.cells #[.int .i64 6, .int .i64 px, .int .i64 py, .int .i64 x] 71 (0, 0))) [] ?_ (fun hS => ?_)
    · exact HX.out
    refine wpAnyZ_take0 (i := 0) (oi := ⟨_, _, _, _, _, _⟩) (v := ?_) rfl (by decide +kernel) (fun _ _ _ h => h) (Or.inl ⟨by rfl, ?_⟩) (fun _ => hS) ?_
    rotate_left
    focus (intro w _; go_simp; (try with_reducible rfl); done)
    simp only [Act.put, List.setIfInBounds_toArray, List.set_cons_zero, List.set_cons_succ]
    refine wpAnyZ_take0 (i := 1) (oi := ⟨_, _, _, _, _, _⟩) (v := ?_) rfl (by decide +kernel) (fun _ _ _ h => h) (Or.inl ⟨by rfl, ?_⟩) (fun _ => hS) ?_
    rotate_left
    focus (intro w _; go_simp; (try with_reducible rfl); done)
    simp only [Act.put, List.setIfInBounds_toArray, List.set_cons_zero, List.set_cons_succ]
    refine wpAnyZ_take (i := 2) (oi := ⟨_, _, _, _, _, _⟩) (v := ?_) rfl (by decide +kernel) (fun _ _ _ h => h) (Or.inl ⟨by rfl, ?_⟩) hS ?_
    rotate_left
    focus (intro w hSw; (try dsimp only at hSw); (obtain ⟨z0, z1, z2, z3⟩ := act_cells hSw; clear hSw); go_simp; (try with_reducible rfl); done)
    simp only [Act.put, List.setIfInBounds_toArray, List.set_cons_zero, List.set_cons_succ]
    refine wpAnyZ_take0 (i := 4) (oi := ⟨_, _, _, _, _, _⟩) (v := ?_) rfl (by decide +kernel) (fun _ _ _ h => h) (Or.inl ⟨by rfl, ?_⟩) (fun _ => hS) ?_
    rotate_left
    focus (intro w _; go_simp; (try with_reducible rfl); done)
    simp only [Act.put, List.setIfInBounds_toArray, List.set_cons_zero, List.set_cons_succ]
    refine wpAnyZ_take0 (i := 5) (oi := ⟨_, _, _, _, _, _⟩) (v := ?_) rfl (by decide +kernel) (fun _ _ _ h => h) (Or.inl ⟨by rfl, ?_⟩) (fun _ => hS) ?_
    rotate_left
    focus (intro w _; go_simp; (try with_reducible rfl); done)
    simp only [Act.put, List.setIfInBounds_toArray, List.set_cons_zero, List.set_cons_succ]
    refine wpAnyZ_take (i := 6) (oi := ⟨_, _, _, _, _, _⟩) (v := ?_) rfl (by decide +kernel) (fun _ _ _ h => h) (Or.inl ⟨by rfl, ?_⟩) hS ?_
    rotate_left
    focus (intro w hSw; (try dsimp only at hSw); (obtain ⟨z0, z1, z2, z3⟩ := act_cells hSw; clear hSw); go_simp; (try with_reducible rfl); done)
    simp only [Act.put, List.setIfInBounds_toArray, List.set_cons_zero, List.set_cons_succ]
    refine wpAnyZ_one (i := 3) rfl (by decide +kernel) (fun K hKK => ?_)
    go_simp
    refine (move58 gx FX s x V.drew (P0.out.n1.below (below_drew V))).mono ?_
    rw [hst.out]
    rintro e w1 ⟨rfl, hN⟩
    have P1 := Hd.mk ((P0.out.later (below_drew V)).fst hN hB1.out)
    have HX1 := Hd.mk ((hN.2.block w.heap.size (Array.getElem?_eq_some_iff.1 HX.out).1 hwx.out.1).trans HX.out)
    have HB1 := Hd.mk ((HB.out.mono hBs.out).trans (((below_drew V).mono hB1.out).trans (hN.2.below P0.out.l1 hB1.out)))
    have hsz1 := Hd.mk (Nat.le_trans hBs.out HB1.out.size)
    clear hN
    clear hS
    have hS := HX1.out
    refine hKK.out _ _ (fun _ => hS) ?_
    clear hKK
    refine wpAnyZ_one (i := 7) rfl (by decide +kernel) (fun K hKK => ?_)
    go_simp
    refine (rmove135 go FO s.rn x w1 P1.out.n2 RI0.out).mono ?_
    rw [E1.out, E2.out]
    rintro e w2 ⟨rfl, hR⟩
    have P3 := Hd.mk (P1.out.snd hR hsz1.out)
    have HB2 := Hd.mk (HB1.out.trans (hR.2.below P1.out.l2 hsz1.out))
    have HX2 := Hd.mk ((hR.2.block w.heap.size (Array.getElem?_eq_some_iff.1 HX1.out).1 hwx.out.2).trans HX1.out)
    clear hR P1
    clear hS
    have hS := HX2.out
    refine hKK.out _ _ (fun _ => hS) ?_
    clear hKK
    refine wpAnyZ_take0 (i := 8) (oi := ⟨_, _, _, _, _, _⟩) (v := ?_) rfl (by decide +kernel) (fun _ _ _ h => h) (Or.inl ⟨by rfl, ?_⟩) (fun _ => hS) ?_
    rotate_left
    focus (intro w _; go_simp; (try with_reducible rfl); done)
    simp only [Act.put, List.setIfInBounds_toArray, List.set_cons_zero, List.set_cons_succ]
    refine wpAnyZ_take0 (i := 9) (oi := ⟨_, _, _, _, _, _⟩) (v := ?_) rfl (by decide +kernel) (fun _ _ _ h => h) (Or.inl ⟨by rfl, ?_⟩) (fun _ => hS) ?_
    rotate_left
    focus (intro w _; go_simp; (try with_reducible rfl); done)
    simp only [Act.put, List.setIfInBounds_toArray, List.set_cons_zero, List.set_cons_succ]
    refine wpAnyZ_done (by decide +kernel) ?_
    clear hS
    go_wp2
    go_ret
    rw [hs.out, hst.out]
    exact ⟨by simp, ⟨_, _, P3.out⟩, HB2.out⟩
  by_cases h7 : kd = 7
  · subst h7
    have hs : Hd (s.step ⟨7, (px, py), x⟩ = (0, s.drop x)) := ⟨rfl⟩
    clear h1 h2 h3 h4 h5 h6
    obtain ⟨e1, e2⟩ := (And.intro rfl (rn_drop HII.out x) : (0 : Nat) = 0 ∧ s.rn.drop x = (s.drop x).rn)
    obtain ⟨s', hst⟩ : ∃ s', Hd (s.drop x = s') := ⟨_, ⟨rfl⟩⟩
    rw [hst.out] at e2
    have E2 := Hd.mk e2
    have HMN := Hd.mk (rn_many HII.out)
    have HIs' := HII.out.drop x
    rw [hst.out] at HIs'
    have HMS := Hd.mk (rn_many HIs')
    obtain ⟨m1, hm1⟩ : ∃ m, Hd (s.many = m) := ⟨_, ⟨rfl⟩⟩
    obtain ⟨m2, hm2⟩ : ∃ m, Hd (s'.many = m) := ⟨_, ⟨rfl⟩⟩
    have hval : Hd ((s.rn.row.length : Int) + s.rn.m.length - s'.rn.row.length - s'.rn.m.length = (m1 : Int) - (m2 : Int)) := ⟨by have h1 := HMN.out; have h2 := HMS.out; rw [hm1.out] at h1; rw [hm2.out] at h2; omega⟩
    clear e1 e2 HIs'
    go_enter Try.func83, Try.ntmps83
    go_wp2_with fail
    obtain ⟨V, hV⟩ : ∃ V, Hd (w.alloc (.cells #[.int .i64 7, .int .i64 px, .int .i64 py, .int .i64 x] 71) = V) := ⟨_, ⟨rfl⟩⟩
    rw [hV.out] at HB HX P0 hB1 ⊢
    clear hV
    refine region_zone 10 [false, false, false, false, false, false, false, false, false, false] (by kernel_rfl) (by kernel_rfl) hmix (fun w' => w'.heap[w.heap.size]? = some (.cells #[.int .i64 7, .int .i64 px, .int .i64 py, .int .i64 x] 71 (0, 0))) [] ?_ (fun hS => ?_)
    · exact HX.out
    refine wpAnyZ_take0 (i := 0) (oi := ⟨_, _, _, _, _, _⟩) (v := ?_) rfl (by decide +kernel) (fun _ _ _ h => h) (Or.inl ⟨by rfl, ?_⟩) (fun _ => hS) ?_
    rotate_left
    focus (intro w _; go_simp; (try with_reducible rfl); done)
    simp only [Act.put, List.setIfInBounds_toArray, List.set_cons_zero, List.set_cons_succ]
    refine wpAnyZ_take0 (i := 1) (oi := ⟨_, _, _, _, _, _⟩) (v := ?_) rfl (by decide +kernel) (fun _ _ _ h => h) (Or.inl ⟨by rfl, ?_⟩) (fun _ => hS) ?_
    rotate_left
    focus (intro w _; go_simp; (try with_reducible rfl); done)
    simp only [Act.put, List.setIfInBounds_toArray, List.set_cons_zero, List.set_cons_succ]
    refine wpAnyZ_take (i := 2) (oi := ⟨_, _, _, _, _, _⟩) (v := ?_) rfl (by decide +kernel) (fun _ _ _ h => h) (Or.inl ⟨by rfl, ?_⟩) hS ?_
    rotate_left
    focus (intro w hSw; (try dsimp only at hSw); (obtain ⟨z0, z1, z2, z3⟩ := act_cells hSw; clear hSw); go_simp; (try with_reducible rfl); done)
    simp only [Act.put, List.setIfInBounds_toArray, List.set_cons_zero, List.set_cons_succ]
    refine wpAnyZ_take0 (i := 4) (oi := ⟨_, _, _, _, _, _⟩) (v := ?_) rfl (by decide +kernel) (fun _ _ _ h => h) (Or.inl ⟨by rfl, ?_⟩) (fun _ => hS) ?_
    rotate_left
    focus (intro w _; go_simp; (try with_reducible rfl); done)
    simp only [Act.put, List.setIfInBounds_toArray, List.set_cons_zero, List.set_cons_succ]
    refine wpAnyZ_take0 (i := 5) (oi := ⟨_, _, _, _, _, _⟩) (v := ?_) rfl (by decide +kernel) (fun _ _ _ h => h) (Or.inl ⟨by rfl, ?_⟩) (fun _ => hS) ?_
    rotate_left
    focus (intro w _; go_simp; (try with_reducible rfl); done)
    simp only [Act.put, List.setIfInBounds_toArray, List.set_cons_zero, List.set_cons_succ]
    refine wpAnyZ_take (i := 6) (oi := ⟨_, _, _, _, _, _⟩) (v := ?_) rfl (by decide +kernel) (fun _ _ _ h => h) (Or.inl ⟨by rfl, ?_⟩) hS ?_
    rotate_left
    focus (intro w hSw; (try dsimp only at hSw); (obtain ⟨z0, z1, z2, z3⟩ := act_cells hSw; clear hSw); go_simp; (try with_reducible rfl); done)
    simp only [Act.put, List.setIfInBounds_toArray, List.set_cons_zero, List.set_cons_succ]
    refine wpAnyZ_one (i := 3) rfl (by decide +kernel) (fun K hKK => ?_)
    go_simp
    refine (drop50 gx FX s x V.drew (P0.out.n1.below (below_drew V)) HII.out).mono ?_
    rw [hst.out, hm1.out, hm2.out]
    rintro e w1 ⟨rfl, hN⟩
    have P1 := Hd.mk ((P0.out.later (below_drew V)).fst hN hB1.out)
    have HX1 := Hd.mk ((hN.2.block w.heap.size (Array.getElem?_eq_some_iff.1 HX.out).1 hwx.out.1).trans HX.out)
    have HB1 := Hd.mk ((HB.out.mono hBs.out).trans (((below_drew V).mono hB1.out).trans (hN.2.below P0.out.l1 hB1.out)))
    have hsz1 := Hd.mk (Nat.le_trans hBs.out HB1.out.size)
    clear hN
    clear hS
    have hS := HX1.out
    refine hKK.out _ _ (fun _ => hS) ?_
    clear hKK
    refine wpAnyZ_one (i := 7) rfl (by decide +kernel) (fun K hKK => ?_)
    go_simp
    refine (rdrop136 go FO s.rn x w1 P1.out.n2 RI0.out).mono ?_
    rw [E2.out, hval.out]
    rintro e w2 ⟨rfl, hR⟩
    have P3 := Hd.mk (P1.out.snd hR hsz1.out)
    have HB2 := Hd.mk (HB1.out.trans (hR.2.below P1.out.l2 hsz1.out))
    have HX2 := Hd.mk ((hR.2.block w.heap.size (Array.getElem?_eq_some_iff.1 HX1.out).1 hwx.out.2).trans HX1.out)
    clear hR P1
    clear hS
    have hS := HX2.out
    refine hKK.out _ _ (fun _ => hS) ?_
    clear hKK
    refine wpAnyZ_take0 (i := 8) (oi := ⟨_, _, _, _, _, _⟩) (v := ?_) rfl (by decide +kernel) (fun _ _ _ h => h) (Or.inl ⟨by rfl, ?_⟩) (fun _ => hS) ?_
    rotate_left
    focus (intro w _; go_simp; (try with_reducible rfl); done)
    simp only [Act.put, List.setIfInBounds_toArray, List.set_cons_zero, List.set_cons_succ]
    refine wpAnyZ_take0 (i := 9) (oi := ⟨_, _, _, _, _, _⟩) (v := ?_) rfl (by decide +kernel) (fun _ _ _ h => h) (Or.inl ⟨by rfl, ?_⟩) (fun _ => hS) ?_
    rotate_left
    focus (intro w _; go_simp; (try with_reducible rfl); done)
    simp only [Act.put, List.setIfInBounds_toArray, List.set_cons_zero, List.set_cons_succ]
    refine wpAnyZ_done (by decide +kernel) ?_
    clear hS
    go_wp2
    go_ret
    rw [hs.out]
    simp only [hst.out]
    exact ⟨by simp, ⟨_, _, P3.out⟩, HB2.out⟩
  · have hs : Hd (s.step ⟨kd, (px, py), x⟩ = s.visit (px, py)) := ⟨by simp [NS.step, h1, h2, h3, h4, h5, h6, h7]⟩
    skip
    obtain ⟨e1, e2⟩ := rn_visit HII.out (px, py)
    obtain ⟨er, s', hst⟩ : ∃ er s', Hd (s.visit (px, py) = (er, s')) := ⟨_, _, ⟨rfl⟩⟩
    rw [hst.out] at e1 e2
    have E1 := Hd.mk e1
    have E2 := Hd.mk e2
    clear e1 e2
    go_enter Try.func83, Try.ntmps83
    go_wp2_with fail
    obtain ⟨V, hV⟩ : ∃ V, Hd (w.alloc (.cells #[.int .i64 kd, .int .i64 px, .int .i64 py, .int .i64 x] 71) = V) := ⟨_, ⟨rfl⟩⟩
    rw [hV.out] at HB HX P0 hB1 ⊢
    clear hV
    refine region_zone 10 [false, false, false, false, false, false, false, false, false, false] (by kernel_rfl) (by kernel_rfl) hmix (fun w' => w'.heap[w.heap.size]? = some (.cells #[.int .i64 kd, .int .i64 px, .int .i64 py, .int .i64 x] 71 (0, 0))) [] ?_ (fun hS => ?_)
    · exact HX.out
    refine wpAnyZ_take0 (i := 0) (oi := ⟨_, _, _, _, _, _⟩) (v := ?_) rfl (by decide +kernel) (fun _ _ _ h => h) (Or.inl ⟨by rfl, ?_⟩) (fun _ => hS) ?_
    rotate_left
    focus (intro w _; go_simp; (try with_reducible rfl); done)
    simp only [Act.put, List.setIfInBounds_toArray, List.set_cons_zero, List.set_cons_succ]
    refine wpAnyZ_take0 (i := 1) (oi := ⟨_, _, _, _, _, _⟩) (v := ?_) rfl (by decide +kernel) (fun _ _ _ h => h) (Or.inl ⟨by rfl, ?_⟩) (fun _ => hS) ?_
    rotate_left
    focus (intro w _; go_simp; (try with_reducible rfl); done)
    simp only [Act.put, List.setIfInBounds_toArray, List.set_cons_zero, List.set_cons_succ]
    refine wpAnyZ_take (i := 2) (oi := ⟨_, _, _, _, _, _⟩) (v := ?_) rfl (by decide +kernel) (fun _ _ _ h => h) (Or.inl ⟨by rfl, ?_⟩) hS ?_
    rotate_left
    focus (intro w hSw; (try dsimp only at hSw); (obtain ⟨z0, z1, z2, z3⟩ := act_cells hSw; clear hSw); go_simp; (try with_reducible rfl); done)
    simp only [Act.put, List.setIfInBounds_toArray, List.set_cons_zero, List.set_cons_succ]
    refine wpAnyZ_take0 (i := 4) (oi := ⟨_, _, _, _, _, _⟩) (v := ?_) rfl (by decide +kernel) (fun _ _ _ h => h) (Or.inl ⟨by rfl, ?_⟩) (fun _ => hS) ?_
    rotate_left
    focus (intro w _; go_simp; (try with_reducible rfl); done)
    simp only [Act.put, List.setIfInBounds_toArray, List.set_cons_zero, List.set_cons_succ]
    refine wpAnyZ_take0 (i := 5) (oi := ⟨_, _, _, _, _, _⟩) (v := ?_) rfl (by decide +kernel) (fun _ _ _ h => h) (Or.inl ⟨by rfl, ?_⟩) (fun _ => hS) ?_
    rotate_left
    focus (intro w _; go_simp; (try with_reducible rfl); done)
    simp only [Act.put, List.setIfInBounds_toArray, List.set_cons_zero, List.set_cons_succ]
    refine wpAnyZ_take (i := 6) (oi := ⟨_, _, _, _, _, _⟩) (v := ?_) rfl (by decide +kernel) (fun _ _ _ h => h) (Or.inl ⟨by rfl, ?_⟩) hS ?_
    rotate_left
    focus (intro w hSw; (try dsimp only at hSw); (obtain ⟨z0, z1, z2, z3⟩ := act_cells hSw; clear hSw); go_simp; (try with_reducible rfl); done)
    simp only [Act.put, List.setIfInBounds_toArray, List.set_cons_zero, List.set_cons_succ]
    refine wpAnyZ_one (i := 3) rfl (by decide +kernel) (fun K hKK => ?_)
    go_simp
    refine (visit48 gx FX s (px, py) V.drew (P0.out.n1.below (below_drew V)) HI.out.1).mono ?_
    rw [hst.out]
    rintro e w1 ⟨rfl, hN⟩
    have P1 := Hd.mk ((P0.out.later (below_drew V)).fst hN hB1.out)
    have HX1 := Hd.mk ((hN.2.block w.heap.size (Array.getElem?_eq_some_iff.1 HX.out).1 hwx.out.1).trans HX.out)
    have HB1 := Hd.mk ((HB.out.mono hBs.out).trans (((below_drew V).mono hB1.out).trans (hN.2.below P0.out.l1 hB1.out)))
    have hsz1 := Hd.mk (Nat.le_trans hBs.out HB1.out.size)
    clear hN
    clear hS
    have hS := HX1.out
    refine hKK.out _ _ (fun _ => hS) ?_
    clear hKK
    refine wpAnyZ_one (i := 7) rfl (by decide +kernel) (fun K hKK => ?_)
    go_simp
    refine (rvisit137 go FO s.rn (px, py) w1 P1.out.n2 RI0.out).mono ?_
    rw [E1.out, E2.out]
    rintro e w2 ⟨rfl, hR⟩
    have P3 := Hd.mk (P1.out.snd hR hsz1.out)
    have HB2 := Hd.mk (HB1.out.trans (hR.2.below P1.out.l2 hsz1.out))
    have HX2 := Hd.mk ((hR.2.block w.heap.size (Array.getElem?_eq_some_iff.1 HX1.out).1 hwx.out.2).trans HX1.out)
    clear hR P1
    clear hS
    have hS := HX2.out
    refine hKK.out _ _ (fun _ => hS) ?_
    clear hKK
    refine wpAnyZ_take0 (i := 8) (oi := ⟨_, _, _, _, _, _⟩) (v := ?_) rfl (by decide +kernel) (fun _ _ _ h => h) (Or.inl ⟨by rfl, ?_⟩) (fun _ => hS) ?_
    rotate_left
    focus (intro w _; go_simp; (try with_reducible rfl); done)
    simp only [Act.put, List.setIfInBounds_toArray, List.set_cons_zero, List.set_cons_succ]
    refine wpAnyZ_take0 (i := 9) (oi := ⟨_, _, _, _, _, _⟩) (v := ?_) rfl (by decide +kernel) (fun _ _ _ h => h) (Or.inl ⟨by rfl, ?_⟩) (fun _ => hS) ?_
    rotate_left
    focus (intro w _; go_simp; (try with_reducible rfl); done)
    simp only [Act.put, List.setIfInBounds_toArray, List.set_cons_zero, List.set_cons_succ]
    refine wpAnyZ_done (by decide +kernel) ?_
    clear hS
    go_wp2
    go_ret
    rw [hs.out, hst.out]
    exact ⟨by simp, ⟨_, _, P3.out⟩, HB2.out⟩
end Go.Proofs.Ytkgdcglnkodgnaa
namespace Go.Proofs.Ytkgdcglnkodgnaa
open Go.RowKit
theorem retLoad_elimD {w w' : World} {e : Ending} {r : Option NS} {s : NS} (hr : r = some s) (h : RetLoad w r e w') :
    Below w.heap.size w w' ∧ ∃ g F, e = .returned (.tuple #[.pointer (some ⟨g, 0, none⟩), .int .i64 0]) ∧ NavAt w' g F s ∧ ∀ k, F k → w.heap.size ≤ k := by subst hr; exact h
theorem saveD_len {s : NS} (h : NInv s) : s.save.length ≤ 10000 := by
  have hn1 : ∀ p ∈ s.now1, mayQ p = true := by
    intro p hp
    unfold NS.now1 at hp
    split at hp
    · rename_i hh; simp at hp; subst hp; exact h.now hh
    · simp at hp
  have hl1 : s.now1.length ≤ 1 := by unfold NS.now1; split <;> simp
  have hlong := h.long
  have hm := h.marks
  have a := putL_len h.bh (by omega)
  have b := putL_len hn1 (by omega)
  have c := putL_len h.ah (by omega)
  have d := putL_len h.mks (by omega)
  simp only [NS.save, List.length_append, magicN, List.length_cons, List.length_nil]
  omega
/-- The three rows that were told, and the row of them. -/
structure W3 (W0 : World) (B2 B3 : Nat) (R1 : Option Addr) (n1 c1 : Nat) (R2 : Option Addr) (n2 c2 : Nat) (R3 : Option Addr) (n3 c3 b : Nat) (u : World) : Prop where
  o1 : ∃ l, OwnP u W0.heap.size R1 n1 c1 l
  o2 : ∃ l, OwnP u B2 R2 n2 c2 l
  o3 : ∃ l, OwnP u B3 R3 n3 c3 l
  bx : u.heap[b]? = some (.cells #[.slice R1 n1 c1, .slice R2 n2 c2, .slice R3 n3 c3] 67 (0, 0))
  tb : Below W0.heap.size W0 u
/-- A row that may be written over. -/
def Wq (Q : World → Prop) (R : Option Addr) (n : Nat) : Prop :=
  ∀ u, Q u → ∀ i, i < n → ∃ G off, R = some ⟨G, off, none⟩ ∧ (∃ v, u.cell? ⟨G, off + i * 2, none⟩ = some v) ∧ (∃ v, u.cell? ⟨G, off + i * 2 + 1, none⟩ = some v) ∧ (∀ j, u.frozen? ⟨G, j, none⟩ = false) ∧
    Q ((u.setCell ⟨G, off + i * 2, none⟩ (.int .i64 77)).setCell ⟨G, off + i * 2 + 1, none⟩ (.int .i64 77))
theorem own_put {u : World} {B n c : Nat} {R : Option Addr} {l : List Pl} (h : OwnP u B R n c l) {i : Nat} (hi : i < n) :
    ∃ G off, R = some ⟨G, off, none⟩ ∧ (∃ v, u.cell? ⟨G, off + i * 2, none⟩ = some v) ∧ (∃ v, u.cell? ⟨G, off + i * 2 + 1, none⟩ = some v) ∧ (∀ j, u.frozen? ⟨G, j, none⟩ = false) ∧ ownBlk R c = some G ∧
      OwnP ((u.setCell ⟨G, off + i * 2, none⟩ (.int .i64 77)).setCell ⟨G, off + i * 2 + 1, none⟩ (.int .i64 77)) B R n c (l.set i (77, 77)) := by
  have hl := OwnP.len h
  obtain ⟨G, off, rfl, h1, h2⟩ := OwnP.get h (List.getElem?_eq_getElem (show i < l.length by omega))
  have hc : c ≠ 0 := by have := (Own.le h).1; omega
  exact ⟨G, off, rfl, ⟨_, h1⟩, ⟨_, h2⟩, OwnP.unfrozen h (by omega), by simp [ownBlk, hc], OwnP.set2 h hi 77 77⟩
theorem own_miss {u : World} {B n c G j j' : Nat} {R : Option Addr} {l : List Pl} (h : OwnP u B R n c l) (hG : ∀ k, ownBlk R c = some k → k ≠ G) :
    OwnP ((u.setCell ⟨G, j, none⟩ (.int .i64 77)).setCell ⟨G, j', none⟩ (.int .i64 77)) B R n c l := own_cell' (own_cell' h hG) hG
theorem heap_miss {u : World} {G j j' b : Nat} (h : b ≠ G) : ((u.setCell ⟨G, j, none⟩ (.int .i64 77)).setCell ⟨G, j', none⟩ (.int .i64 77)).heap[b]? = u.heap[b]? :=
  (heap_setCell_other _ ⟨G, j', none⟩ b _ h).trans (heap_setCell_other u ⟨G, j, none⟩ b _ h)
theorem below_put {W0 u : World} {G j j' : Nat} (hb : Below W0.heap.size W0 u) (hG : W0.heap.size ≤ G) : Below W0.heap.size W0 ((u.setCell ⟨G, j, none⟩ (.int .i64 77)).setCell ⟨G, j', none⟩ (.int .i64 77)) :=
  hb.trans (((Tch.setCell (fun q => q = G) u G j (.int .i64 77) (.inl rfl)).trans (Tch.setCell _ _ G j' (.int .i64 77) (.inl (.inl rfl)))).below (fun k e => by omega) hb.size)
section
variable {W0 : World} {B2 B3 n1 c1 n2 c2 n3 c3 b : Nat} {R1 R2 R3 : Option Addr}
theorem W3.q1 (_h2 : W0.heap.size ≤ B2) (h3 : B2 ≤ B3) (hb : B3 ≤ b) (d1 : ∀ k, ownBlk R1 c1 = some k → k < B2) (_d2 : ∀ k, ownBlk R2 c2 = some k → k < B3) (_d3 : ∀ k, ownBlk R3 c3 = some k → k < b) : Wq (W3 W0 B2 B3 R1 n1 c1 R2 n2 c2 R3 n3 c3 b) R1 n1 := by
  intro u hu i hi
  obtain ⟨⟨l1, o1⟩, ⟨l2, o2⟩, ⟨l3, o3⟩, bx, tb⟩ := hu
  obtain ⟨G, off, e, v1, v2, fz, hblk, ho⟩ := own_put o1 hi
  have hG := (Own.lt o1 hblk).1
  have hG2 := d1 G hblk
  exact ⟨G, off, e, v1, v2, fz, ⟨_, ho⟩, ⟨_, own_miss o2 (fun k e => by have := (Own.lt o2 e).1; omega)⟩, ⟨_, own_miss o3 (fun k e => by have := (Own.lt o3 e).1; omega)⟩, (heap_miss (by omega)).trans bx, below_put tb hG⟩
theorem W3.q2 (h2 : W0.heap.size ≤ B2) (_h3 : B2 ≤ B3) (hb : B3 ≤ b) (d1 : ∀ k, ownBlk R1 c1 = some k → k < B2) (d2 : ∀ k, ownBlk R2 c2 = some k → k < B3) (_d3 : ∀ k, ownBlk R3 c3 = some k → k < b) : Wq (W3 W0 B2 B3 R1 n1 c1 R2 n2 c2 R3 n3 c3 b) R2 n2 := by
  intro u hu i hi
  obtain ⟨⟨l1, o1⟩, ⟨l2, o2⟩, ⟨l3, o3⟩, bx, tb⟩ := hu
  obtain ⟨G, off, e, v1, v2, fz, hblk, ho⟩ := own_put o2 hi
  have hG := (Own.lt o2 hblk).1
  have hG2 := d2 G hblk
  exact ⟨G, off, e, v1, v2, fz, ⟨_, own_miss o1 (fun k e => by have := d1 k e; omega)⟩, ⟨_, ho⟩, ⟨_, own_miss o3 (fun k e => by have := (Own.lt o3 e).1; omega)⟩, (heap_miss (by omega)).trans bx, below_put tb (by omega)⟩
theorem W3.q3 (h2 : W0.heap.size ≤ B2) (h3 : B2 ≤ B3) (_hb : B3 ≤ b) (d1 : ∀ k, ownBlk R1 c1 = some k → k < B2) (d2 : ∀ k, ownBlk R2 c2 = some k → k < B3) (d3 : ∀ k, ownBlk R3 c3 = some k → k < b) : Wq (W3 W0 B2 B3 R1 n1 c1 R2 n2 c2 R3 n3 c3 b) R3 n3 := by
  intro u hu i hi
  obtain ⟨⟨l1, o1⟩, ⟨l2, o2⟩, ⟨l3, o3⟩, bx, tb⟩ := hu
  obtain ⟨G, off, e, v1, v2, fz, hblk, ho⟩ := own_put o3 hi
  have hG := (Own.lt o3 hblk).1
  have hG2 := d3 G hblk
  exact ⟨G, off, e, v1, v2, fz, ⟨_, own_miss o1 (fun k e => by have := d1 k e; omega)⟩, ⟨_, own_miss o2 (fun k e => by have := d2 k e; omega)⟩, ⟨_, ho⟩, (heap_miss (by omega)).trans bx, below_put tb (by omega)⟩
end
set_option maxRecDepth 100000 in
set_option maxHeartbeats 4000000 in
theorem navDoes22 (A : Option Addr) (n c : Nat) (l : List ActN) (w : World) (h : RdA w A n l) (hn : n ≤ 4398046511104) :
    Calls Try.prog 22 #[.slice A n c] w fun e w' => e = .returned (.bool true) ∧ Below w.heap.size w w' := by
  have HL := Hd.mk h.len
  have hmix := try_mixed
  go_enter Try.func22, Try.ntmps22
  go_wp2_with fail
  refine (newN _).mono ?_
  rintro e w1 ⟨gx0, FX0, rfl, N0, hF0, b1⟩
  have X1 := Hd.mk N0
  have HF1 := Hd.mk hF0
  have HB1 := Hd.mk b1
  clear N0 hF0 b1
  go_wp2_with fail
  refine (rnew82 w1).mono ?_
  rintro e w2 ⟨go, FO0, rfl, R0, hG0, b2⟩
  have P2 : Hd (Par w2 w.heap.size gx0 FX0 NS.new go FO0 NS.new.rn) := ⟨⟨X1.out.below b2, R0, fun k e e' => by have := X1.out.lt k e; have := hG0 k e'; omega, HF1.out, fun k e => Nat.le_trans HB1.out.size (hG0 k e)⟩⟩
  have HB2 := Hd.mk (HB1.out.trans (b2.mono HB1.out.size))
  clear R0 hG0 b2 X1 HF1 HB1
  go_wp2_with fail
  refine (awake42 _).mono ?_
  rintro e w3 ⟨rfl, b3⟩
  have P3 := Hd.mk (P2.out.later b3)
  have HB3 := Hd.mk (HB2.out.trans (b3.mono HB2.out.size))
  clear b3 P2 HB2
  go_wp2_with fail
  refine (alike73 gx0 go FX0 FO0 NS.new w3 P3.out.n1 P3.out.n2 NInv.new).mono ?_
  rintro e w4 ⟨rfl, b4⟩
  have P4 := Hd.mk (P3.out.later b4)
  have HB4 := Hd.mk (HB3.out.trans (b4.mono HB3.out.size))
  clear b4 P3 HB3
  go_wp2_with fail
  go_loopw [3, 5] (fun xv i wr => ∃ (k gx : Nat), xv = .pointer (some ⟨gx, 0, none⟩) ∧ i = .int .i64 (k : Int) ∧ k ≤ n ∧ k ≤ 400 ∧ Hd (∃ FX FO s, Par wr w.heap.size gx FX s go FO s.rn ∧ NInv s) ∧ Hd (Below w.heap.size w wr))
    (fun _ i _ => 400 - (intOf i).toNat)
  case atStart => exact ⟨0, gx0, rfl, rfl, by omega, by omega, ⟨_, _, NS.new, P4.out, NInv.new⟩, HB4⟩
  case round =>
    obtain ⟨k, gx, rfl, rfl, hk, hk4, hN, hb⟩ := hrel
    obtain ⟨FX, FO, s, hP, hI⟩ := hN.out
    have P0 := Hd.mk hP
    have I0 := Hd.mk hI
    have hsz := Hd.mk hb.out.size
    clear hP hI hN
    by_cases hlt : k < n ∧ k < 400
    · obtain ⟨a, ha⟩ : ∃ a, l[k]? = some a := ⟨l[k]'(by have := HL.out; omega), List.getElem?_eq_getElem _⟩
      obtain ⟨ad, rfl, q0', q1', q2', q3'⟩ := RdA.get' h ha
      have q0 := below_cell hb.out q0'
      have q1 := below_cell hb.out q1'
      have q2 := below_cell hb.out q2'
      have q3 := below_cell hb.out q3'
      have hki : (k : Int) < (n : Int) := by omega
      have hki4 : (k : Int) < 400 := by omega
      have hki0 : (0 : Int) ≤ (k : Int) := by omega
      clear q0' q1' q2' q3' ha hlt
      by_cases h8 : a.kind = 8
      · rw [h8] at q0
        go_wp2_with fail
        clear q0 q1 q2 q3
        refine (save44 gx FX s wr P0.out.n1 I0.out).mono ?_
        rintro e w5 ⟨SB, sn, sc, rfl, os, b5⟩
        have P5 := Hd.mk (P0.out.later b5)
        have HB5 := Hd.mk (hb.out.trans (b5.mono hsz.out))
        have OS := Hd.mk (Own.rd os)
        have hsn : sn ≤ 10000 := by have := saveD_len I0.out; have := Own8.len os; omega
        clear os b5 P0 hb
        go_wp2_with fail
        refine (load71 SB sn sc s.save w5 OS.out (by omega)).mono ?_
        rintro e w6 hre
        obtain ⟨b6, gy, FY, rfl, NY, hFY⟩ := retLoad_elimD (load_save I0.out) hre
        have P6 : Hd (Par w6 w.heap.size gy FY s go FO s.rn) := ⟨⟨NY, P5.out.n2.below b6, fun q e e' => by have := hFY q e; have := P5.out.n2.lt q e'; omega, fun q e => Nat.le_trans HB5.out.size (hFY q e), P5.out.l2⟩⟩
        have HB6 := Hd.mk (HB5.out.trans (b6.mono HB5.out.size))
        clear hre b6 NY hFY P5 HB5 OS
        go_wp2_with fail
        refine (alike73 gy go FY FO s w6 P6.out.n1 P6.out.n2 I0.out).mono ?_
        rintro e t0 ⟨rfl, b0⟩
        have T0 := Hd.mk (P6.out.later b0)
        have HT0 := Hd.mk (HB6.out.trans (b0.mono HB6.out.size))
        clear b0 P6 HB6
        go_wp2_with fail
        refine (behind51 gy FY s t0 T0.out.n1 (by have := I0.out.small; omega)).mono ?_
        rintro e t1 ⟨R1, m1, d1, rfl, o1, b1⟩
        have hl1 := OwnP.len o1
        have hm1 : m1 ≤ 100 := by have := I0.out.small; omega
        have O1 := Hd.mk o1
        have S1 := Hd.mk b1
        have z01 := Hd.mk b1.size
        clear o1 b1 hl1
        go_wp2_with fail
        refine (ahead49 gy FY s t1 (T0.out.n1.below S1.out) (by have := I0.out.small; omega)).mono ?_
        rintro e t2 ⟨R2, m2, d2, rfl, o2, b2⟩
        have hl2 := OwnP.len o2
        have hm2 : m2 ≤ 100 := by have := I0.out.small; omega
        have O1' := Hd.mk (Own.below O1.out b2)
        have K1 := Hd.mk (sl_lt O1.out)
        have O2 := Hd.mk o2
        have S2 := Hd.mk (S1.out.trans (b2.mono S1.out.size))
        have z12 := Hd.mk b2.size
        clear o2 b2 hl2 O1
        go_wp2_with fail
        refine (marks53 gy FY s t2 (T0.out.n1.below S2.out) (by have := I0.out.small; omega)).mono ?_
        rintro e t3 ⟨R3, m3, d3, rfl, o3, b3⟩
        have hl3 := OwnP.len o3
        have hm3 : m3 ≤ 100 := by have := I0.out.small; omega
        have O1 := Hd.mk (Own.below O1'.out b3)
        have O2' := Hd.mk (Own.below O2.out b3)
        have K2 := Hd.mk (sl_lt O2.out)
        have O3 := Hd.mk o3
        have K3 := Hd.mk (sl_lt o3)
        have S3 := Hd.mk (S2.out.trans (b3.mono S2.out.size))
        have z23 := Hd.mk b3.size
        clear o3 b3 hl3 O1' O2
        have hAb := below_alloc t3 (.cells #[.slice R1 m1 d1, .slice R2 m2 d2, .slice R3 m3 d3] 67)
        have WW : Hd (W3 t0 t1.heap.size t2.heap.size R1 m1 d1 R2 m2 d2 R3 m3 d3 t3.heap.size (t3.alloc (.cells #[.slice R1 m1 d1, .slice R2 m2 d2, .slice R3 m3 d3] 67))) :=
          ⟨⟨⟨_, Own.alloc O1.out _⟩, ⟨_, Own.alloc O2'.out _⟩, ⟨_, Own.alloc O3.out _⟩, heap_alloc_new t3 _, S3.out.trans (hAb.mono S3.out.size)⟩⟩
        have Q1 := Hd.mk (W3.q1 (W0 := t0) (b := t3.heap.size) (c1 := d1) (c2 := d2) (c3 := d3) (n1 := m1) (n2 := m2) (n3 := m3) (R1 := R1) (R2 := R2) (R3 := R3) z01.out z12.out z23.out K1.out K2.out K3.out)
        have Q2 := Hd.mk (W3.q2 (W0 := t0) (b := t3.heap.size) (c1 := d1) (c2 := d2) (c3 := d3) (n1 := m1) (n2 := m2) (n3 := m3) (R1 := R1) (R2 := R2) (R3 := R3) z01.out z12.out z23.out K1.out K2.out K3.out)
        have Q3 := Hd.mk (W3.q3 (W0 := t0) (b := t3.heap.size) (c1 := d1) (c2 := d2) (c3 := d3) (n1 := m1) (n2 := m2) (n3 := m3) (R1 := R1) (R2 := R2) (R3 := R3) z01.out z12.out z23.out K1.out K2.out K3.out)
        clear hAb O1 O2' O3 S1 S2 S3 K1 K2 K3
        go_wp2_with fail
        obtain ⟨b, hbb⟩ : ∃ b, Hd (t3.heap.size = b) := ⟨_, ⟨rfl⟩⟩
        rw [hbb.out] at WW Q1 Q2 Q3 ⊢
        obtain ⟨t4, ht4⟩ : ∃ u, Hd (t3.alloc (.cells #[.slice R1 m1 d1, .slice R2 m2 d2, .slice R3 m3 d3] 67) = u) := ⟨_, ⟨rfl⟩⟩
        rw [ht4.out] at WW ⊢
        clear hbb ht4 z01 z12 z23
        go_loopw [85] (fun i wr => ∃ q : Nat, i = .int .i64 (q : Int) ∧ q ≤ 3 ∧ Hd (W3 t0 t1.heap.size t2.heap.size R1 m1 d1 R2 m2 d2 R3 m3 d3 b wr))
          (fun i _ => 3 - (intOf i).toNat)
        case atStart => exact ⟨0, rfl, by omega, WW⟩
        case round =>
          obtain ⟨q, rfl, hq, hW⟩ := hrel
          obtain ⟨V1, hV1⟩ : ∃ u, u = wr := ⟨_, rfl⟩
          subst hV1
          by_cases hq3 : q < 3
          · have hrow : ∃ R m d, V1.cell? ⟨b, q, none⟩ = some (.slice R m d) ∧ Hd (Wq (W3 t0 t1.heap.size t2.heap.size R1 m1 d1 R2 m2 d2 R3 m3 d3 b) R m) ∧ m ≤ 100 := by
              rcases (show q = 0 ∨ q = 1 ∨ q = 2 by omega) with rfl | rfl | rfl
              · exact ⟨R1, m1, d1, (cell_of_row _ _ 0 _ _ _ hW.out.bx).trans rfl, Q1, hm1⟩
              · exact ⟨R2, m2, d2, (cell_of_row _ _ 1 _ _ _ hW.out.bx).trans rfl, Q2, hm2⟩
              · exact ⟨R3, m3, d3, (cell_of_row _ _ 2 _ _ _ hW.out.bx).trans rfl, Q3, hm3⟩
            obtain ⟨R, m, d, hcell, hWq, hm⟩ := hrow
            have hqi : (q : Int) < 3 := by omega
            have hq0 : (0 : Int) ≤ (q : Int) := by omega
            go_wp2_with fail
            clear hcell
            go_loopw [11] (fun i wr => ∃ j : Nat, i = .int .i64 (j : Int) ∧ j ≤ m ∧ Hd (W3 t0 t1.heap.size t2.heap.size R1 m1 d1 R2 m2 d2 R3 m3 d3 b wr))
              (fun i _ => m - (intOf i).toNat)
            case atStart => exact ⟨0, rfl, by omega, hW⟩
            case round =>
              obtain ⟨j, rfl, hj, hWj⟩ := hrel
              by_cases hjm : j < m
              · obtain ⟨G, off, e, ⟨v1, hv1⟩, ⟨v2, hv2⟩, fz, hW'⟩ := hWq.out wr hWj.out j hjm
                subst e
                have fz0 := fz (off + j * 2)
                have fz1 := fz (off + j * 2 + 1)
                have hji : (j : Int) < (m : Int) := by omega
                have hj0 : (0 : Int) ≤ (j : Int) := by omega
                have HW' := Hd.mk hW'
                clear fz hW'
                go_wp2_with fail
                clear hv1 hv2 fz0 fz1
                go_roundw
                case rel => exact ⟨j + 1, by go_num, by omega, HW'⟩
                case measure => simp [intOf]; omega
              · obtain rfl : j = m := by omega
                have hji : ¬ ((j : Int) < (j : Int)) := by omega
                go_wp2_with fail
                go_roundw
                case rel => exact ⟨q + 1, by go_num, by omega, hWj⟩
                case measure => simp [intOf]; omega
          · obtain rfl : q = 3 := by omega
            have hqi : ¬ (((3 : Nat) : Int) < 3) := by omega
            go_wp2_with fail
            have PE := Hd.mk (T0.out.later hW.out.tb)
            have HBE := Hd.mk (HT0.out.trans (hW.out.tb.mono HT0.out.size))
            go_roundw
            case rel => exact ⟨k + 1, gy, rfl, by go_num, by omega, by omega, ⟨_, _, s, PE.out, I0.out⟩, HBE⟩
            case measure => simp [intOf]; omega
      · by_cases h9 : a.kind = 9
        · rw [h9] at q0
          go_wp2_with fail
          clear q0 q1 q2 q3
          refine (clone60 gx FX s wr P0.out.n1 I0.out).mono ?_
          rintro e w5 ⟨gy, FY, rfl, NY, hFY, b5⟩
          have P5 := Hd.mk (P0.out.later b5)
          have HB5 := Hd.mk (hb.out.trans (b5.mono hsz.out))
          have Y5 := Hd.mk NY
          have AY : Hd (∀ q, FY q → ¬ FX q ∧ ¬ FO q) := ⟨fun q e => ⟨fun e' => by have := hFY q e; have := P0.out.n1.lt q e'; omega, fun e' => by have := hFY q e; have := P0.out.n2.lt q e'; omega⟩⟩
          have LY := Hd.mk (fun q e => Nat.le_trans hsz.out (hFY q e))
          clear NY hFY b5 P0 hb
          go_wp2_with fail
          refine (visit48 gx FX s (900, (k : Int)) w5 P5.out.n1 (by have := I0.out.small; omega)).mono ?_
          rintro e w6 ⟨rfl, hN⟩
          have X6 := Hd.mk hN.1
          have Y6 := Hd.mk (Y5.out.keep hN.2 (fun q e => (AY.out q e).1))
          have R6 := Hd.mk (P5.out.n2.keep hN.2 (fun q e e' => P5.out.ap q e' e))
          have HB6 := Hd.mk (HB5.out.trans (hN.2.below P5.out.l1 HB5.out.size))
          have hup6 : Hd (∀ q, up FX w5 w6 q → w.heap.size ≤ q ∧ (FX q ∨ w5.heap.size ≤ q)) := ⟨fun q e => ⟨up_ge P5.out.l1 HB5.out.size q e, e.imp id (fun e => e.1)⟩⟩
          have I1 := Hd.mk (I0.out.visit (900, (k : Int)))
          clear hN
          go_wp2_with fail
          refine (mark56 gx (up FX w5 w6) (s.visit (900, (k : Int))).2 w6 X6.out (by have := I1.out.small; omega)).mono ?_
          rintro e w7 ⟨rfl, hN⟩
          have hyl := Hd.mk Y5.out.lt
          have hrl := Hd.mk P5.out.n2.lt
          have P7 : Hd (Par w7 w.heap.size gy FY s go FO s.rn) := ⟨⟨Y6.out.keep hN.2 (fun q e e' => by
              rcases (hup6.out q e').2 with e2 | e2
              · exact (AY.out q e).1 e2
              · have := hyl.out q e; omega), R6.out.keep hN.2 (fun q e e' => by
              rcases (hup6.out q e').2 with e2 | e2
              · exact P5.out.ap q e2 e
              · have := hrl.out q e; omega), fun q e => (AY.out q e).2, LY.out, P5.out.l2⟩⟩
          have HB7 := Hd.mk (HB6.out.trans (hN.2.below (fun q e => (hup6.out q e).1) HB6.out.size))
          clear hN X6 Y6 R6 HB6 hup6 I1 P5 HB5 Y5 AY LY hyl hrl
          go_wp2_with fail
          refine (alike73 gy go FY FO s w7 P7.out.n1 P7.out.n2 I0.out).mono ?_
          rintro e t0 ⟨rfl, b0⟩
          have T0 := Hd.mk (P7.out.later b0)
          have HT0 := Hd.mk (HB7.out.trans (b0.mono HB7.out.size))
          clear b0 P7 HB7
          go_wp2_with fail
          refine (behind51 gy FY s t0 T0.out.n1 (by have := I0.out.small; omega)).mono ?_
          rintro e t1 ⟨R1, m1, d1, rfl, o1, b1⟩
          have hl1 := OwnP.len o1
          have hm1 : m1 ≤ 100 := by have := I0.out.small; omega
          have O1 := Hd.mk o1
          have S1 := Hd.mk b1
          have z01 := Hd.mk b1.size
          clear o1 b1 hl1
          go_wp2_with fail
          refine (ahead49 gy FY s t1 (T0.out.n1.below S1.out) (by have := I0.out.small; omega)).mono ?_
          rintro e t2 ⟨R2, m2, d2, rfl, o2, b2⟩
          have hl2 := OwnP.len o2
          have hm2 : m2 ≤ 100 := by have := I0.out.small; omega
          have O1' := Hd.mk (Own.below O1.out b2)
          have K1 := Hd.mk (sl_lt O1.out)
          have O2 := Hd.mk o2
          have S2 := Hd.mk (S1.out.trans (b2.mono S1.out.size))
          have z12 := Hd.mk b2.size
          clear o2 b2 hl2 O1
          go_wp2_with fail
          refine (marks53 gy FY s t2 (T0.out.n1.below S2.out) (by have := I0.out.small; omega)).mono ?_
          rintro e t3 ⟨R3, m3, d3, rfl, o3, b3⟩
          have hl3 := OwnP.len o3
          have hm3 : m3 ≤ 100 := by have := I0.out.small; omega
          have O1 := Hd.mk (Own.below O1'.out b3)
          have O2' := Hd.mk (Own.below O2.out b3)
          have K2 := Hd.mk (sl_lt O2.out)
          have O3 := Hd.mk o3
          have K3 := Hd.mk (sl_lt o3)
          have S3 := Hd.mk (S2.out.trans (b3.mono S2.out.size))
          have z23 := Hd.mk b3.size
          clear o3 b3 hl3 O1' O2
          have hAb := below_alloc t3 (.cells #[.slice R1 m1 d1, .slice R2 m2 d2, .slice R3 m3 d3] 67)
          have WW : Hd (W3 t0 t1.heap.size t2.heap.size R1 m1 d1 R2 m2 d2 R3 m3 d3 t3.heap.size (t3.alloc (.cells #[.slice R1 m1 d1, .slice R2 m2 d2, .slice R3 m3 d3] 67))) :=
            ⟨⟨⟨_, Own.alloc O1.out _⟩, ⟨_, Own.alloc O2'.out _⟩, ⟨_, Own.alloc O3.out _⟩, heap_alloc_new t3 _, S3.out.trans (hAb.mono S3.out.size)⟩⟩
          have Q1 := Hd.mk (W3.q1 (W0 := t0) (b := t3.heap.size) (c1 := d1) (c2 := d2) (c3 := d3) (n1 := m1) (n2 := m2) (n3 := m3) (R1 := R1) (R2 := R2) (R3 := R3) z01.out z12.out z23.out K1.out K2.out K3.out)
          have Q2 := Hd.mk (W3.q2 (W0 := t0) (b := t3.heap.size) (c1 := d1) (c2 := d2) (c3 := d3) (n1 := m1) (n2 := m2) (n3 := m3) (R1 := R1) (R2 := R2) (R3 := R3) z01.out z12.out z23.out K1.out K2.out K3.out)
          have Q3 := Hd.mk (W3.q3 (W0 := t0) (b := t3.heap.size) (c1 := d1) (c2 := d2) (c3 := d3) (n1 := m1) (n2 := m2) (n3 := m3) (R1 := R1) (R2 := R2) (R3 := R3) z01.out z12.out z23.out K1.out K2.out K3.out)
          clear hAb O1 O2' O3 S1 S2 S3 K1 K2 K3
          go_wp2_with fail
          obtain ⟨b, hbb⟩ : ∃ b, Hd (t3.heap.size = b) := ⟨_, ⟨rfl⟩⟩
          rw [hbb.out] at WW Q1 Q2 Q3 ⊢
          obtain ⟨t4, ht4⟩ : ∃ u, Hd (t3.alloc (.cells #[.slice R1 m1 d1, .slice R2 m2 d2, .slice R3 m3 d3] 67) = u) := ⟨_, ⟨rfl⟩⟩
          rw [ht4.out] at WW ⊢
          clear hbb ht4 z01 z12 z23
          go_loopw [85] (fun i wr => ∃ q : Nat, i = .int .i64 (q : Int) ∧ q ≤ 3 ∧ Hd (W3 t0 t1.heap.size t2.heap.size R1 m1 d1 R2 m2 d2 R3 m3 d3 b wr))
            (fun i _ => 3 - (intOf i).toNat)
          case atStart => exact ⟨0, rfl, by omega, WW⟩
          case round =>
            obtain ⟨q, rfl, hq, hW⟩ := hrel
            obtain ⟨V1, hV1⟩ : ∃ u, u = wr := ⟨_, rfl⟩
            subst hV1
            by_cases hq3 : q < 3
            · have hrow : ∃ R m d, V1.cell? ⟨b, q, none⟩ = some (.slice R m d) ∧ Hd (Wq (W3 t0 t1.heap.size t2.heap.size R1 m1 d1 R2 m2 d2 R3 m3 d3 b) R m) ∧ m ≤ 100 := by
                rcases (show q = 0 ∨ q = 1 ∨ q = 2 by omega) with rfl | rfl | rfl
                · exact ⟨R1, m1, d1, (cell_of_row _ _ 0 _ _ _ hW.out.bx).trans rfl, Q1, hm1⟩
                · exact ⟨R2, m2, d2, (cell_of_row _ _ 1 _ _ _ hW.out.bx).trans rfl, Q2, hm2⟩
                · exact ⟨R3, m3, d3, (cell_of_row _ _ 2 _ _ _ hW.out.bx).trans rfl, Q3, hm3⟩
              obtain ⟨R, m, d, hcell, hWq, hm⟩ := hrow
              have hqi : (q : Int) < 3 := by omega
              have hq0 : (0 : Int) ≤ (q : Int) := by omega
              go_wp2_with fail
              clear hcell
              go_loopw [11] (fun i wr => ∃ j : Nat, i = .int .i64 (j : Int) ∧ j ≤ m ∧ Hd (W3 t0 t1.heap.size t2.heap.size R1 m1 d1 R2 m2 d2 R3 m3 d3 b wr))
                (fun i _ => m - (intOf i).toNat)
              case atStart => exact ⟨0, rfl, by omega, hW⟩
              case round =>
                obtain ⟨j, rfl, hj, hWj⟩ := hrel
                by_cases hjm : j < m
                · obtain ⟨G, off, e, ⟨v1, hv1⟩, ⟨v2, hv2⟩, fz, hW'⟩ := hWq.out wr hWj.out j hjm
                  subst e
                  have fz0 := fz (off + j * 2)
                  have fz1 := fz (off + j * 2 + 1)
                  have hji : (j : Int) < (m : Int) := by omega
                  have hj0 : (0 : Int) ≤ (j : Int) := by omega
                  have HW' := Hd.mk hW'
                  clear fz hW'
                  go_wp2_with fail
                  clear hv1 hv2 fz0 fz1
                  go_roundw
                  case rel => exact ⟨j + 1, by go_num, by omega, HW'⟩
                  case measure => simp [intOf]; omega
                · obtain rfl : j = m := by omega
                  have hji : ¬ ((j : Int) < (j : Int)) := by omega
                  go_wp2_with fail
                  go_roundw
                  case rel => exact ⟨q + 1, by go_num, by omega, hWj⟩
                  case measure => simp [intOf]; omega
            · obtain rfl : q = 3 := by omega
              have hqi : ¬ (((3 : Nat) : Int) < 3) := by omega
              go_wp2_with fail
              have PE := Hd.mk (T0.out.later hW.out.tb)
              have HBE := Hd.mk (HT0.out.trans (hW.out.tb.mono HT0.out.size))
              go_roundw
              case rel => exact ⟨k + 1, gy, rfl, by go_num, by omega, by omega, ⟨_, _, s, PE.out, I0.out⟩, HBE⟩
              case measure => simp [intOf]; omega
        · have I1 := Hd.mk (I0.out.step a)
          obtain ⟨s', hs'⟩ : ∃ s', Hd ((s.step a).2 = s') := ⟨_, ⟨rfl⟩⟩
          rw [hs'.out] at I1
          go_wp2_with fail
          clear q0 q1 q2 q3
          refine (do83 w.heap.size gx go FX FO s a wr P0.out I0.out hsz.out).mono ?_
          rw [hs'.out]
          rintro e w5 ⟨rfl, ⟨FX', FO', hP5⟩, b5⟩
          have P5 := Hd.mk hP5
          have HB5 := Hd.mk (hb.out.trans b5)
          clear hP5 b5 P0 hb
          go_wp2_with fail
          refine (alike73 gx go FX' FO' s' w5 P5.out.n1 P5.out.n2 I1.out).mono ?_
          rintro e t0 ⟨rfl, b0⟩
          have T0 := Hd.mk (P5.out.later b0)
          have HT0 := Hd.mk (HB5.out.trans (b0.mono HB5.out.size))
          clear b0 P5 HB5
          go_wp2_with fail
          refine (behind51 gx FX' s' t0 T0.out.n1 (by have := I1.out.small; omega)).mono ?_
          rintro e t1 ⟨R1, m1, d1, rfl, o1, b1⟩
          have hl1 := OwnP.len o1
          have hm1 : m1 ≤ 100 := by have := I1.out.small; omega
          have O1 := Hd.mk o1
          have S1 := Hd.mk b1
          have z01 := Hd.mk b1.size
          clear o1 b1 hl1
          go_wp2_with fail
          refine (ahead49 gx FX' s' t1 (T0.out.n1.below S1.out) (by have := I1.out.small; omega)).mono ?_
          rintro e t2 ⟨R2, m2, d2, rfl, o2, b2⟩
          have hl2 := OwnP.len o2
          have hm2 : m2 ≤ 100 := by have := I1.out.small; omega
          have O1' := Hd.mk (Own.below O1.out b2)
          have K1 := Hd.mk (sl_lt O1.out)
          have O2 := Hd.mk o2
          have S2 := Hd.mk (S1.out.trans (b2.mono S1.out.size))
          have z12 := Hd.mk b2.size
          clear o2 b2 hl2 O1
          go_wp2_with fail
          refine (marks53 gx FX' s' t2 (T0.out.n1.below S2.out) (by have := I1.out.small; omega)).mono ?_
          rintro e t3 ⟨R3, m3, d3, rfl, o3, b3⟩
          have hl3 := OwnP.len o3
          have hm3 : m3 ≤ 100 := by have := I1.out.small; omega
          have O1 := Hd.mk (Own.below O1'.out b3)
          have O2' := Hd.mk (Own.below O2.out b3)
          have K2 := Hd.mk (sl_lt O2.out)
          have O3 := Hd.mk o3
          have K3 := Hd.mk (sl_lt o3)
          have S3 := Hd.mk (S2.out.trans (b3.mono S2.out.size))
          have z23 := Hd.mk b3.size
          clear o3 b3 hl3 O1' O2
          have hAb := below_alloc t3 (.cells #[.slice R1 m1 d1, .slice R2 m2 d2, .slice R3 m3 d3] 67)
          have WW : Hd (W3 t0 t1.heap.size t2.heap.size R1 m1 d1 R2 m2 d2 R3 m3 d3 t3.heap.size (t3.alloc (.cells #[.slice R1 m1 d1, .slice R2 m2 d2, .slice R3 m3 d3] 67))) :=
            ⟨⟨⟨_, Own.alloc O1.out _⟩, ⟨_, Own.alloc O2'.out _⟩, ⟨_, Own.alloc O3.out _⟩, heap_alloc_new t3 _, S3.out.trans (hAb.mono S3.out.size)⟩⟩
          have Q1 := Hd.mk (W3.q1 (W0 := t0) (b := t3.heap.size) (c1 := d1) (c2 := d2) (c3 := d3) (n1 := m1) (n2 := m2) (n3 := m3) (R1 := R1) (R2 := R2) (R3 := R3) z01.out z12.out z23.out K1.out K2.out K3.out)
          have Q2 := Hd.mk (W3.q2 (W0 := t0) (b := t3.heap.size) (c1 := d1) (c2 := d2) (c3 := d3) (n1 := m1) (n2 := m2) (n3 := m3) (R1 := R1) (R2 := R2) (R3 := R3) z01.out z12.out z23.out K1.out K2.out K3.out)
          have Q3 := Hd.mk (W3.q3 (W0 := t0) (b := t3.heap.size) (c1 := d1) (c2 := d2) (c3 := d3) (n1 := m1) (n2 := m2) (n3 := m3) (R1 := R1) (R2 := R2) (R3 := R3) z01.out z12.out z23.out K1.out K2.out K3.out)
          clear hAb O1 O2' O3 S1 S2 S3 K1 K2 K3
          go_wp2_with fail
          obtain ⟨b, hbb⟩ : ∃ b, Hd (t3.heap.size = b) := ⟨_, ⟨rfl⟩⟩
          rw [hbb.out] at WW Q1 Q2 Q3 ⊢
          obtain ⟨t4, ht4⟩ : ∃ u, Hd (t3.alloc (.cells #[.slice R1 m1 d1, .slice R2 m2 d2, .slice R3 m3 d3] 67) = u) := ⟨_, ⟨rfl⟩⟩
          rw [ht4.out] at WW ⊢
          clear hbb ht4 z01 z12 z23
          go_loopw [85] (fun i wr => ∃ q : Nat, i = .int .i64 (q : Int) ∧ q ≤ 3 ∧ Hd (W3 t0 t1.heap.size t2.heap.size R1 m1 d1 R2 m2 d2 R3 m3 d3 b wr))
            (fun i _ => 3 - (intOf i).toNat)
          case atStart => exact ⟨0, rfl, by omega, WW⟩
          case round =>
            obtain ⟨q, rfl, hq, hW⟩ := hrel
            obtain ⟨V1, hV1⟩ : ∃ u, u = wr := ⟨_, rfl⟩
            subst hV1
            by_cases hq3 : q < 3
            · have hrow : ∃ R m d, V1.cell? ⟨b, q, none⟩ = some (.slice R m d) ∧ Hd (Wq (W3 t0 t1.heap.size t2.heap.size R1 m1 d1 R2 m2 d2 R3 m3 d3 b) R m) ∧ m ≤ 100 := by
                rcases (show q = 0 ∨ q = 1 ∨ q = 2 by omega) with rfl | rfl | rfl
                · exact ⟨R1, m1, d1, (cell_of_row _ _ 0 _ _ _ hW.out.bx).trans rfl, Q1, hm1⟩
                · exact ⟨R2, m2, d2, (cell_of_row _ _ 1 _ _ _ hW.out.bx).trans rfl, Q2, hm2⟩
                · exact ⟨R3, m3, d3, (cell_of_row _ _ 2 _ _ _ hW.out.bx).trans rfl, Q3, hm3⟩
              obtain ⟨R, m, d, hcell, hWq, hm⟩ := hrow
              have hqi : (q : Int) < 3 := by omega
              have hq0 : (0 : Int) ≤ (q : Int) := by omega
              go_wp2_with fail
              clear hcell
              go_loopw [11] (fun i wr => ∃ j : Nat, i = .int .i64 (j : Int) ∧ j ≤ m ∧ Hd (W3 t0 t1.heap.size t2.heap.size R1 m1 d1 R2 m2 d2 R3 m3 d3 b wr))
                (fun i _ => m - (intOf i).toNat)
              case atStart => exact ⟨0, rfl, by omega, hW⟩
              case round =>
                obtain ⟨j, rfl, hj, hWj⟩ := hrel
                by_cases hjm : j < m
                · obtain ⟨G, off, e, ⟨v1, hv1⟩, ⟨v2, hv2⟩, fz, hW'⟩ := hWq.out wr hWj.out j hjm
                  subst e
                  have fz0 := fz (off + j * 2)
                  have fz1 := fz (off + j * 2 + 1)
                  have hji : (j : Int) < (m : Int) := by omega
                  have hj0 : (0 : Int) ≤ (j : Int) := by omega
                  have HW' := Hd.mk hW'
                  clear fz hW'
                  go_wp2_with fail
                  clear hv1 hv2 fz0 fz1
                  go_roundw
                  case rel => exact ⟨j + 1, by go_num, by omega, HW'⟩
                  case measure => simp [intOf]; omega
                · obtain rfl : j = m := by omega
                  have hji : ¬ ((j : Int) < (j : Int)) := by omega
                  go_wp2_with fail
                  go_roundw
                  case rel => exact ⟨q + 1, by go_num, by omega, hWj⟩
                  case measure => simp [intOf]; omega
            · obtain rfl : q = 3 := by omega
              have hqi : ¬ (((3 : Nat) : Int) < 3) := by omega
              go_wp2_with fail
              have PE := Hd.mk (T0.out.later hW.out.tb)
              have HBE := Hd.mk (HT0.out.trans (hW.out.tb.mono HT0.out.size))
              go_roundw
              case rel => exact ⟨k + 1, gx, rfl, by go_num, by omega, by omega, ⟨_, _, s', PE.out, I1.out⟩, HBE⟩
              case measure => simp [intOf]; omega
    · have hcase : (¬ (k : Int) < (n : Int)) ∨ ((k : Int) < (n : Int) ∧ ¬ (k : Int) < 400) := by omega
      rcases hcase with hx | ⟨hx, hx1⟩
      all_goals
        go_wp2_with fail
        refine (alike73 gx go FX FO s wr P0.out.n1 P0.out.n2 I0.out).mono ?_
        rintro e w5 ⟨rfl, b5⟩
        have HB5 := Hd.mk (hb.out.trans (b5.mono hb.out.size))
        go_wp2
        go_ret
        exact ⟨rfl, HB5.out⟩
end Go.Proofs.Ytkgdcglnkodgnaa
namespace Go.Proofs.Ytkgdcglnkodgnaa.navDoes
open Go.ChangeShapes Go.WideShapes Go.ChangeAt Go.RowKit
open Go.ChangeMaps (open_string shut_string)
set_option maxRecDepth 100000 in
theorem lifted (os : Os) (started : os.Started) (H : Type) (enc : TypeId × Value → H) :
    ReturnsInHanded {} Try.checked os 22 .any (Rows.navDoesSpec.pre6 enc Try.prog Try.f22 Rows.navDoesRow.domain false) (Rows.navDoesSpec.post enc Try.prog Try.f22 false true false false) := by
  refine returnsInHanded_of_change_sized (C := Try.checked) try_own started (by kernel_rfl) Try.func22
    (ChangeSpec.witness6 (enc := enc) (C := Try.checked) false ⟨#[], #[.slice none 0 0], []⟩ 8 (by kernel_rfl) (by kernel_rfl) (by kernel_rfl) (by kernel_rfl)) ?_
  intro W base args ds gs before hval0 hW _ hsz0 _
  have hval : ∀ (j : Nat) t v, Try.f22.params[j]? = some t → args[j]? = some v → Value.okWide Try.prog W .any base t v := hval0
  have hsz : (DataW.weightsEach Try.prog (Try.f22.params.toList ++ Rows.navDoesSpec.plain.varTypes Try.prog) (ds ++ gs)).all (· ≤ reachBytes) = true := hsz0
  have hW' := hW
  obtain ⟨p, q, hA0, hV, rfl, hfz, hnd⟩ := hW
  have hA : DataW.TrodAll enc Try.prog W 0 (fun _ => true) true Try.f22.params.toList args.toList ds p := hA0
  rw [Try.params22] at hA hval hsz
  obtain ⟨v0, vs0, d0, ds0, p0, q0, hargs, rfl, rfl, h0, r0⟩ := trodAll_cons hA
  obtain ⟨rfl, rfl, rfl⟩ := trodAll_nil r0
  obtain rfl : args = #[v0] := by cases args; simp_all
  obtain ⟨rfl, rfl⟩ := trodVars_none hV
  have k0 := h0
  have lt0 : ∀ x ∈ p0, x.block < W.heap.size := by obtain ⟨m, hm⟩ := k0; exact DataW.trod_lt m _ _ _ hm
  obtain ⟨A0, n0, c0, l0, hv0, r80, nc0, bnd0, hd0⟩ := openA h0 (hval 0 56 v0 rfl rfl)
  subst hv0
  have b0 : n0 ≤ 4398046511104 := by
    rcases hd0 with h0 | ⟨es, sp, hd, hl⟩
    · omega
    · have := sized_slice hsz (j := 0) (t := 56) (e := 71) rfl (by rw [← hd]; rfl) Try.underlying56
      rw [try_bytes71, hl] at this
      simp only [reachBytes] at this
      omega
  clear hA0 hval0 hsz0
  refine (navDoes22 A0 n0 c0 l0 W r80 b0).mono fun e W' ⟨he, bel⟩ => ?_
  subst he
  exact ⟨_, rfl, _, _, _, [], _, [], hW', trodAll_mk1 (shut_bool Try.underlying4 _), (trodAll_cons_mk (Below.trod try_laidOut (by kernel_rfl) (of_decide_eq_true (by kernel_rfl)) k0 bel lt0) trodAll_mk0), rfl, bel.frame _, fun h => by cases h⟩

theorem over : Rows.navDoesRow.holds Try.pinned (OpenSpec.ofChange Rows.navDoesSpec) :=
  OpenClaim.holds_of_wide 22 Try.f22 rfl rfl rfl rfl rfl rfl rfl ⟨rfl, rfl, rfl, rfl, rfl⟩ rfl rfl rfl rfl rfl (by kernel_rfl) Try.func22 (by kernel_rfl)
    (of_decide_eq_true (by kernel_rfl)) (by unfold Func.isWrapper; first | (rw [if_pos (by decide +kernel)]; kernel_rfl) | (rw [if_neg (by decide +kernel)]; exact ⟨rfl, rfl⟩))
    (fun os started H enc _ => lifted os started H enc)
end Go.Proofs.Ytkgdcglnkodgnaa.navDoes
namespace Go.Proofs.Ytkgdcglnkodgnaa
theorem navDoes_holds : Rows.NavDoesSaid := navDoes.over
#print axioms navDoes_holds
end Go.Proofs.Ytkgdcglnkodgnaa
