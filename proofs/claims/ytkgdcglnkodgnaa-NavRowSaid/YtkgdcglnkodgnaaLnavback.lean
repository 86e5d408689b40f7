/-
  Law NavBack walked: after a run of acts, Back and Forward, in either order, lead back to where the reader was; a fresh Visit, gone Back from, comes again at the head of Ahead.
-/
import Derived.Test.YtkgdcglnkodgnaaNav14
import Derived.Test.YtkgdcglnkodgnaaOpenP
import Derived.BigQuiet
namespace Go.Proofs.Ytkgdcglnkodgnaa
open Go.RowKit
theorem back_cases (s : NS) : s.back.2.1 = 0 ∨ s.back = ((0, 0), 3, s) := by
  unfold NS.back
  cases s.bh.getLast? with
  | none => exact .inr rfl
  | some p => exact .inl rfl
theorem forward_cases (s : NS) : s.forward.2.1 = 0 ∨ s.forward = ((0, 0), 3, s) := by
  unfold NS.forward
  cases s.ah with
  | nil => exact .inr rfl
  | cons p r => exact .inl rfl
/-- A law's reader, a box of the law's own beside it. -/
structure LS (w X : World) (g : Nat) (s : NS) (a b : Int) : Prop where
  nav : ∃ F, NavAt X g F s ∧ ∀ k, F k → w.heap.size + 1 ≤ k
  below : Below w.heap.size w X
  size : w.heap.size + 1 ≤ X.heap.size
  box : X.heap[w.heap.size]? = some (.cells #[.int .i64 a, .int .i64 b] 58 (0, 0))
theorem LS.go {w X X' : World} {g : Nat} {F : Nat → Prop} {s s' : NS} {a b : Int} (h : LS w X g s a b) (hF : ∀ k, F k → w.heap.size + 1 ≤ k) (hN : NavTo X X' g F s') : LS w X' g s' a b :=
  ⟨⟨_, hN.1, up_ge hF h.size⟩, h.below.trans (hN.below (B := w.heap.size) (fun k e => by have := hF k e; omega) (by have := h.size; omega)), Nat.le_trans h.size hN.2.size,
    (hN.2.block _ (by have := h.size; omega) (fun e => by have := hF _ e; omega)).trans h.box⟩
theorem LS.later {w X X' : World} {g : Nat} {s : NS} {a b : Int} (h : LS w X g s a b) (hb : Below X.heap.size X X') : LS w X' g s a b := by
  obtain ⟨F, hn, hF⟩ := h.nav
  exact h.go hF (NavTo.of_below hn hb)
theorem LS.alloc {w X : World} {g : Nat} {s : NS} {a b : Int} (h : LS w X g s a b) (o : Obj) : LS w (X.alloc o) g s a b := h.later (below_alloc _ _)
set_option maxRecDepth 100000 in
set_option maxHeartbeats 2000000 in
theorem navBack9 (A : Option Addr) (n c : Nat) (l : List ActN) (a b : Int) (w : World) (h : RdA w A n l) (hn : n ≤ 4398046511104) :
    Calls Try.prog 9 #[.slice A n c, .agg #[.int .i64 a, .int .i64 b]] w fun e w' => e = .returned (.bool true) ∧ Below w.heap.size w w' := by
  have HBX := Hd.mk (below_alloc w (.cells #[.int .i64 a, .int .i64 b] 58))
  have hbx := Hd.mk (heap_alloc_new w (.cells #[.int .i64 a, .int .i64 b] 58))
  obtain ⟨s, hs⟩ : ∃ s, Hd (runN NS.new (l.take 400) = s) := ⟨_, ⟨rfl⟩⟩
  have hI : Hd (NInv s) := ⟨by rw [← hs.out]; exact NInv.new.run _⟩
  go_enter Try.func9, Try.ntmps9
  go_wp2_with fail
  refine (awake42 _).mono ?_
  rintro e w1 ⟨rfl, b1⟩
  have HB1 := Hd.mk (HBX.out.trans (b1.mono (by simp)))
  have hx1 := Hd.mk ((b1.block w.heap.size (by simp)).trans hbx.out)
  have hz1 : Hd (w.heap.size + 1 ≤ w1.heap.size) := ⟨by have := b1.size; simp at this; omega⟩
  have hr1 := Hd.mk (Rd.below h HB1.out)
  clear b1
  go_wp2_with fail
  refine (run43 A n c l w1 hr1.out hn).mono ?_
  rw [hs.out]
  rintro e w2 ⟨g, F, rfl, N2, hF2, b2⟩
  have L2 : Hd (LS w w2 g s a b) := ⟨⟨F, N2, fun k e => Nat.le_trans hz1.out (hF2 k e)⟩, HB1.out.trans (b2.mono (by have := hz1.out; omega)), Nat.le_trans hz1.out b2.size, (b2.block _ (by have := hz1.out; omega)).trans hx1.out⟩
  clear N2 hF2 b2 hr1 hx1 HB1 hz1 hbx HBX
  go_wp2_with fail
  obtain ⟨F2, N2, hF2⟩ := L2.out.nav
  refine (save44 g F2 s w2 N2 hI.out).mono ?_
  rintro e w3 ⟨S, ns, cs, rfl, os, b3⟩
  have hstr := run_str8 (c := cs) os.rd
  have L3 := Hd.mk (L2.out.later b3)
  clear L2 os b3 N2 hF2
  obtain ⟨str, hstr'⟩ : ∃ str, Hd ((⟨s.save.toArray⟩ : ByteArray) = str) := ⟨_, ⟨rfl⟩⟩
  rw [hstr'.out] at hstr
  go_wp2_with fail
  clear hstr
  obtain ⟨F3, N3, hF3⟩ := L3.out.nav
  refine (back45 g F3 s w3 N3 hI.out.small.1 hI.out.small.2.1).mono ?_
  obtain ⟨bp, be, bs, hbk⟩ : ∃ bp be bs, Hd (s.back = (bp, be, bs)) := ⟨_, _, _, ⟨rfl⟩⟩
  rw [hbk.out]
  rintro e w4 ⟨rfl, T4⟩
  have L4 := Hd.mk (L3.out.go hF3 T4)
  have hIb := Hd.mk hI.out.back
  rw [hbk.out] at hIb
  clear T4 N3 hF3 L3
  unfold plV
  have hcase : be = 0 ∨ (be = 3 ∧ s = bs) := by
    rcases back_cases s with h1 | h1
    · rw [hbk.out] at h1; exact .inl h1
    · rw [hbk.out] at h1; injection h1 with _ h1; injection h1 with h1 h2; exact .inr ⟨h1, h2.symm⟩
  rcases hcase with rfl | ⟨rfl, rfl⟩
  · have hbf := Hd.mk (back_forward hI.out (by rw [hbk.out]))
    rw [hbk.out] at hbf
    go_wp2_with fail
    obtain ⟨F5, N5, hF5⟩ := (L4.out.alloc (.cells #[.int .i64 bp.1, .int .i64 bp.2] 58)).nav
    refine (forward46 g F5 bs _ N5 hIb.out.small.1 hIb.out.small.2.1).mono ?_
    obtain ⟨fp, hfp⟩ : ∃ fp, Hd (bs.forward = (fp, 0, s)) := ⟨bs.forward.1, ⟨by have := hbf.out; exact Prod.ext rfl this⟩⟩
    rw [hfp.out]
    rintro e w5 ⟨rfl, T5⟩
    have L5 := Hd.mk ((L4.out.alloc _).go hF5 T5)
    clear T5 N5 hF5 L4
    unfold plV
    go_wp2_with fail
    obtain ⟨F6, N6, hF6⟩ := (L5.out.alloc (.cells #[.int .i64 fp.1, .int .i64 fp.2] 58)).nav
    refine (save44 g F6 s _ N6 hI.out).mono ?_
    rintro e w6 ⟨S', ns', cs', rfl, os, b6⟩
    have hstr := run_str8 (c := cs') os.rd
    rw [hstr'.out] at hstr
    have L6 := Hd.mk ((L5.out.alloc (.cells #[.int .i64 fp.1, .int .i64 fp.2] 58)).later b6)
    clear L5 os b6 N6 hF6
    go_wp2_with fail
    clear hstr
    obtain ⟨F7, N7, hF7⟩ := L6.out.nav
    refine (forward46 g F7 s _ N7 hI.out.small.1 hI.out.small.2.1).mono ?_
    obtain ⟨gp, ge, gs, hgk⟩ : ∃ gp ge gs, Hd (s.forward = (gp, ge, gs)) := ⟨_, _, _, ⟨rfl⟩⟩
    rw [hgk.out]
    rintro e w7 ⟨rfl, T7⟩
    have L7 := Hd.mk (L6.out.go hF7 T7)
    have hIf := Hd.mk hI.out.forward
    rw [hgk.out] at hIf
    clear T7 N7 hF7 L6
    unfold plV
    have hcase : ge = 0 ∨ (ge = 3 ∧ s = gs) := by
      rcases forward_cases s with h1 | h1
      · rw [hgk.out] at h1; exact .inl h1
      · rw [hgk.out] at h1; injection h1 with _ h1; injection h1 with h1 h2; exact .inr ⟨h1, h2.symm⟩
    rcases hcase with rfl | ⟨rfl, rfl⟩
    · have hfb := Hd.mk (forward_back hI.out (by rw [hgk.out]))
      rw [hgk.out] at hfb
      go_wp2_with fail
      obtain ⟨F8, N8, hF8⟩ := (L7.out.alloc (.cells #[.int .i64 gp.1, .int .i64 gp.2] 58)).nav
      refine (back45 g F8 gs _ N8 hIf.out.small.1 hIf.out.small.2.1).mono ?_
      obtain ⟨hp, hhp⟩ : ∃ hp, Hd (gs.back = (hp, 0, s)) := ⟨gs.back.1, ⟨by have := hfb.out; exact Prod.ext rfl this⟩⟩
      rw [hhp.out]
      rintro e w8 ⟨rfl, T8⟩
      have L8 := Hd.mk ((L7.out.alloc _).go hF8 T8)
      clear T8 N8 hF8 L7
      unfold plV
      go_wp2_with fail
      obtain ⟨F9, N9, hF9⟩ := (L8.out.alloc (.cells #[.int .i64 hp.1, .int .i64 hp.2] 58)).nav
      refine (save44 g F9 s _ N9 hI.out).mono ?_
      rintro e w9 ⟨S2, ns2, cs2, rfl, os, b9⟩
      have hstr := run_str8 (c := cs2) os.rd
      rw [hstr'.out] at hstr
      have L9 := Hd.mk ((L8.out.alloc (.cells #[.int .i64 hp.1, .int .i64 hp.2] 58)).later b9)
      clear L8 os b9 N9 hF9
      go_wp2_with fail
      clear hstr
      obtain ⟨F10, N10, hF10⟩ := L9.out.nav
      refine (now47 g F10 s w9 N10).mono ?_
      rintro e w10 ⟨rfl, b10⟩
      have N10' := N10.below b10
      have L10 := Hd.mk (L9.out.later b10)
      obtain ⟨⟨t1, t2⟩, htd⟩ : ∃ t, Hd (s.told = t) := ⟨_, ⟨rfl⟩⟩
      obtain ⟨hs', hhas⟩ : ∃ hs', Hd (s.has = hs') := ⟨_, ⟨rfl⟩⟩
      rw [htd.out, hhas.out]
      clear b10 N10 L9
      unfold plV
      have hF10' := Hd.mk hF10
      have M11 := Hd.mk (N10'.below (below_alloc w10 (.cells #[.int .i64 t1, .int .i64 t2] 58)))
      have L11 := Hd.mk (L10.out.alloc (.cells #[.int .i64 t1, .int .i64 t2] 58))
      have hb15 := Hd.mk (heap_alloc_new w10 (.cells #[.int .i64 t1, .int .i64 t2] 58))
      have hF10b : Hd (∀ k, F10 k → k < w10.heap.size) := ⟨N10'.lt⟩
      clear hF10 L10 N10'
      have bx := box_load L11.out.box
      obtain ⟨bx0, bx1⟩ := bx
      go_wp2_with fail
      clear bx0 bx1
      refine (visit48 g F10 s (a, b) _ M11.out hI.out.small.1).mono ?_
      obtain ⟨vn, vs, hv⟩ : ∃ vn vs, Hd (s.visit (a, b) = (vn, vs)) := ⟨_, _, ⟨rfl⟩⟩
      rw [hv.out]
      rintro e w12 ⟨rfl, T12⟩
      have L12 := Hd.mk (L11.out.go hF10'.out T12)
      have hIv := Hd.mk (hI.out.visit (a, b))
      rw [hv.out] at hIv
      have hc15 := Hd.mk ((T12.2.block w10.heap.size (by simp) (fun e => by have := hF10b.out _ e; omega)).trans hb15.out)
      have N12 := Hd.mk T12.1
      have hF12 := Hd.mk (up_ge (w1 := w12) hF10'.out L11.out.size)
      have hx12 : Hd (¬ up F10 (w10.alloc (.cells #[.int .i64 t1, .int .i64 t2] 58)) w12 w10.heap.size) := ⟨fun e => by rcases e with e | e; exact absurd (hF10b.out _ e) (by omega); simp at e; omega⟩
      clear T12 M11 L11
      obtain ⟨bx0, bx1⟩ := box_load L12.out.box
      obtain ⟨by0, by1⟩ := box_load hc15.out
      have hvc : (vn ≠ 0 ∧ vs = s) ∨ vn = 0 := by
        by_cases h0 : vn = 0
        · exact .inr h0
        · exact .inl ⟨h0, by have := visit_err (s := s) (p := (a, b)) (by rw [hv.out]; exact h0); rw [hv.out] at this; exact this⟩
      rcases hvc with ⟨hv0, rfl⟩ | rfl
      · have hvn : ((vn : Int) != 0) = true := by simp; omega
        go_wp2
        go_ret
        exact ⟨rfl, L12.out.below⟩
      · cases hs' with
        | false =>
          go_wp2_with fail
          obtain ⟨F13, N13, _⟩ := L12.out.nav
          refine (save44 g F13 vs w12 N13 hIv.out).mono ?_
          rintro e w13 ⟨S5, ns5, cs5, rfl, os, b13⟩
          have hstr := run_str8 (c := cs5) os.rd
          have hB := Hd.mk (L12.out.later b13).below
          clear os b13 N13 L12
          go_wp2
          all_goals
            go_ret
            exact ⟨rfl, hB.out⟩
        | true =>
          have htn : s.now = (t1, t2) := by have := htd.out; unfold NS.told at this; rw [hhas.out] at this; exact this
          have hcase2 : (t1 = a ∧ t2 = b) ∨ ¬ t1 = a ∨ (a = t1 ∧ ¬ t2 = b) := by
            by_cases h1 : t1 = a
            · by_cases h2 : t2 = b
              · exact .inl ⟨h1, h2⟩
              · exact .inr (.inr ⟨h1.symm, h2⟩)
            · exact .inr (.inl h1)
          rcases hcase2 with ⟨rfl, rfl⟩ | hne
          · have hvs : vs = s := by have := visit_same (s := s) (p := (t1, t2)) hhas.out htn; rw [hv.out] at this; exact this
            subst hvs
            clear htn
            go_wp2_with fail
            obtain ⟨F13, N13, _⟩ := L12.out.nav
            refine (save44 g F13 vs w12 N13 hIv.out).mono ?_
            rintro e w13 ⟨S5, ns5, cs5, rfl, os, b13⟩
            have hstr := run_str8 (c := cs5) os.rd
            rw [hstr'.out] at hstr
            have hB := Hd.mk (L12.out.later b13).below
            clear os b13 N13 L12
            go_wp2
            go_ret
            exact ⟨rfl, hB.out⟩
          · have hvb := Hd.mk (visit_back (s := s) (p := (a, b)) hhas.out (by rw [htn]; intro e; injection e with e1 e2; rcases hne with h1 | ⟨_, h2⟩; exact h1 e1; exact h2 e2) (by rw [hv.out]))
            rw [hv.out, htn] at hvb
            clear htn
            rcases hne with h1 | ⟨rfl, h2⟩
            all_goals
              go_wp2_with fail
              obtain ⟨kp, ke, ks, hkk⟩ : ∃ kp ke ks, Hd (vs.back = (kp, ke, ks)) := ⟨_, _, _, ⟨rfl⟩⟩
              have hv3 := hvb.out
              rw [hkk.out] at hv3
              change kp = _ ∧ ke = 0 ∧ ks.ah = _ at hv3
              obtain ⟨rfl, rfl, hka⟩ := hv3
              refine (back45 g _ vs w12 N12.out hIv.out.small.1 hIv.out.small.2.1).mono ?_
              rw [hkk.out]
              rintro e w13 ⟨rfl, T13⟩
              unfold plV
              have hka := Hd.mk hka
              have hlt15 : Hd (w10.heap.size < w12.heap.size) := ⟨cell_lt by0⟩
              have L13 := Hd.mk (L12.out.go hF12.out T13)
              have hd15 := Hd.mk ((T13.2.block w10.heap.size hlt15.out hx12.out).trans hc15.out)
              have N13 := Hd.mk T13.1
              clear T13 bx0 bx1 by0 by1 hvb hkk
              go_wp2_with fail
              refine (ahead49 g _ ks _ (N13.out.below (below_alloc _ _)) (by rw [hka.out]; show 1 ≤ 100; omega)).mono ?_
              rw [hka.out]
              rintro e w15 ⟨A5, n5, c5, rfl, ho, b15⟩
              have hn5 := ho.len
              change 1 = n5 at hn5
              subst hn5
              obtain ⟨G5, o5, rfl, k0, k1⟩ := OwnP.get ho (k := 0) (p := (a, b)) rfl
              simp only [Nat.zero_mul, Nat.add_zero] at k0 k1
              have hz13 : Hd (w10.heap.size < w13.heap.size) := ⟨cell_lt (box_load hd15.out).1⟩
              have L15 := Hd.mk ((L13.out.alloc _).later b15)
              obtain ⟨bx0, bx1⟩ := box_load L15.out.box
              obtain ⟨by0, by1⟩ := box_load ((b15.block w10.heap.size (by have := hz13.out; simp; omega)).trans (((below_alloc w13 _).block _ hz13.out).trans hd15.out))
              obtain ⟨bz0, bz1⟩ := box_load ((b15.block w13.heap.size (by simp)).trans (heap_alloc_new w13 _))
              clear ho b15 N13 L13
              go_wp2_with fail
              go_quiet (fail)
              go_wp2_with fail
              go_ret
              exact ⟨rfl, below_drewN L15.out.below _⟩

    · go_wp2_with fail
      have L9 := Hd.mk (L7.out.alloc (.cells #[.int .i64 gp.1, .int .i64 gp.2] 58))
      clear L7
      generalize w7.alloc (.cells #[.int .i64 gp.1, .int .i64 gp.2] 58) = w9 at *
      obtain ⟨F10, N10, hF10⟩ := L9.out.nav
      refine (now47 g F10 s w9 N10).mono ?_
      rintro e w10 ⟨rfl, b10⟩
      have N10' := N10.below b10
      have L10 := Hd.mk (L9.out.later b10)
      obtain ⟨⟨t1, t2⟩, htd⟩ : ∃ t, Hd (s.told = t) := ⟨_, ⟨rfl⟩⟩
      obtain ⟨hs', hhas⟩ : ∃ hs', Hd (s.has = hs') := ⟨_, ⟨rfl⟩⟩
      rw [htd.out, hhas.out]
      clear b10 N10 L9
      unfold plV
      have hF10' := Hd.mk hF10
      have M11 := Hd.mk (N10'.below (below_alloc w10 (.cells #[.int .i64 t1, .int .i64 t2] 58)))
      have L11 := Hd.mk (L10.out.alloc (.cells #[.int .i64 t1, .int .i64 t2] 58))
      have hb15 := Hd.mk (heap_alloc_new w10 (.cells #[.int .i64 t1, .int .i64 t2] 58))
      have hF10b : Hd (∀ k, F10 k → k < w10.heap.size) := ⟨N10'.lt⟩
      clear hF10 L10 N10'
      have bx := box_load L11.out.box
      obtain ⟨bx0, bx1⟩ := bx
      go_wp2_with fail
      clear bx0 bx1
      refine (visit48 g F10 s (a, b) _ M11.out hI.out.small.1).mono ?_
      obtain ⟨vn, vs, hv⟩ : ∃ vn vs, Hd (s.visit (a, b) = (vn, vs)) := ⟨_, _, ⟨rfl⟩⟩
      rw [hv.out]
      rintro e w12 ⟨rfl, T12⟩
      have L12 := Hd.mk (L11.out.go hF10'.out T12)
      have hIv := Hd.mk (hI.out.visit (a, b))
      rw [hv.out] at hIv
      have hc15 := Hd.mk ((T12.2.block w10.heap.size (by simp) (fun e => by have := hF10b.out _ e; omega)).trans hb15.out)
      have N12 := Hd.mk T12.1
      have hF12 := Hd.mk (up_ge (w1 := w12) hF10'.out L11.out.size)
      have hx12 : Hd (¬ up F10 (w10.alloc (.cells #[.int .i64 t1, .int .i64 t2] 58)) w12 w10.heap.size) := ⟨fun e => by rcases e with e | e; exact absurd (hF10b.out _ e) (by omega); simp at e; omega⟩
      clear T12 M11 L11
      obtain ⟨bx0, bx1⟩ := box_load L12.out.box
      obtain ⟨by0, by1⟩ := box_load hc15.out
      have hvc : (vn ≠ 0 ∧ vs = s) ∨ vn = 0 := by
        by_cases h0 : vn = 0
        · exact .inr h0
        · exact .inl ⟨h0, by have := visit_err (s := s) (p := (a, b)) (by rw [hv.out]; exact h0); rw [hv.out] at this; exact this⟩
      rcases hvc with ⟨hv0, rfl⟩ | rfl
      · have hvn : ((vn : Int) != 0) = true := by simp; omega
        go_wp2
        go_ret
        exact ⟨rfl, L12.out.below⟩
      · cases hs' with
        | false =>
          go_wp2_with fail
          obtain ⟨F13, N13, _⟩ := L12.out.nav
          refine (save44 g F13 vs w12 N13 hIv.out).mono ?_
          rintro e w13 ⟨S5, ns5, cs5, rfl, os, b13⟩
          have hstr := run_str8 (c := cs5) os.rd
          have hB := Hd.mk (L12.out.later b13).below
          clear os b13 N13 L12
          go_wp2
          all_goals
            go_ret
            exact ⟨rfl, hB.out⟩
        | true =>
          have htn : s.now = (t1, t2) := by have := htd.out; unfold NS.told at this; rw [hhas.out] at this; exact this
          have hcase2 : (t1 = a ∧ t2 = b) ∨ ¬ t1 = a ∨ (a = t1 ∧ ¬ t2 = b) := by
            by_cases h1 : t1 = a
            · by_cases h2 : t2 = b
              · exact .inl ⟨h1, h2⟩
              · exact .inr (.inr ⟨h1.symm, h2⟩)
            · exact .inr (.inl h1)
          rcases hcase2 with ⟨rfl, rfl⟩ | hne
          · have hvs : vs = s := by have := visit_same (s := s) (p := (t1, t2)) hhas.out htn; rw [hv.out] at this; exact this
            subst hvs
            clear htn
            go_wp2_with fail
            obtain ⟨F13, N13, _⟩ := L12.out.nav
            refine (save44 g F13 vs w12 N13 hIv.out).mono ?_
            rintro e w13 ⟨S5, ns5, cs5, rfl, os, b13⟩
            have hstr := run_str8 (c := cs5) os.rd
            rw [hstr'.out] at hstr
            have hB := Hd.mk (L12.out.later b13).below
            clear os b13 N13 L12
            go_wp2
            go_ret
            exact ⟨rfl, hB.out⟩
          · have hvb := Hd.mk (visit_back (s := s) (p := (a, b)) hhas.out (by rw [htn]; intro e; injection e with e1 e2; rcases hne with h1 | ⟨_, h2⟩; exact h1 e1; exact h2 e2) (by rw [hv.out]))
            rw [hv.out, htn] at hvb
            clear htn
            rcases hne with h1 | ⟨rfl, h2⟩
            all_goals
              go_wp2_with fail
              obtain ⟨kp, ke, ks, hkk⟩ : ∃ kp ke ks, Hd (vs.back = (kp, ke, ks)) := ⟨_, _, _, ⟨rfl⟩⟩
              have hv3 := hvb.out
              rw [hkk.out] at hv3
              change kp = _ ∧ ke = 0 ∧ ks.ah = _ at hv3
              obtain ⟨rfl, rfl, hka⟩ := hv3
              refine (back45 g _ vs w12 N12.out hIv.out.small.1 hIv.out.small.2.1).mono ?_
              rw [hkk.out]
              rintro e w13 ⟨rfl, T13⟩
              unfold plV
              have hka := Hd.mk hka
              have hlt15 : Hd (w10.heap.size < w12.heap.size) := ⟨cell_lt by0⟩
              have L13 := Hd.mk (L12.out.go hF12.out T13)
              have hd15 := Hd.mk ((T13.2.block w10.heap.size hlt15.out hx12.out).trans hc15.out)
              have N13 := Hd.mk T13.1
              clear T13 bx0 bx1 by0 by1 hvb hkk
              go_wp2_with fail
              refine (ahead49 g _ ks _ (N13.out.below (below_alloc _ _)) (by rw [hka.out]; show 1 ≤ 100; omega)).mono ?_
              rw [hka.out]
              rintro e w15 ⟨A5, n5, c5, rfl, ho, b15⟩
              have hn5 := ho.len
              change 1 = n5 at hn5
              subst hn5
              obtain ⟨G5, o5, rfl, k0, k1⟩ := OwnP.get ho (k := 0) (p := (a, b)) rfl
              simp only [Nat.zero_mul, Nat.add_zero] at k0 k1
              have hz13 : Hd (w10.heap.size < w13.heap.size) := ⟨cell_lt (box_load hd15.out).1⟩
              have L15 := Hd.mk ((L13.out.alloc _).later b15)
              obtain ⟨bx0, bx1⟩ := box_load L15.out.box
              obtain ⟨by0, by1⟩ := box_load ((b15.block w10.heap.size (by have := hz13.out; simp; omega)).trans (((below_alloc w13 _).block _ hz13.out).trans hd15.out))
              obtain ⟨bz0, bz1⟩ := box_load ((b15.block w13.heap.size (by simp)).trans (heap_alloc_new w13 _))
              clear ho b15 N13 L13
              go_wp2_with fail
              go_quiet (fail)
              go_wp2_with fail
              go_ret
              exact ⟨rfl, below_drewN L15.out.below _⟩

  · go_wp2_with fail
    have L6 := Hd.mk (L4.out.alloc (.cells #[.int .i64 bp.1, .int .i64 bp.2] 58))
    clear L4
    generalize w4.alloc (.cells #[.int .i64 bp.1, .int .i64 bp.2] 58) = w6 at *
    obtain ⟨F7, N7, hF7⟩ := L6.out.nav
    refine (forward46 g F7 s _ N7 hI.out.small.1 hI.out.small.2.1).mono ?_
    obtain ⟨gp, ge, gs, hgk⟩ : ∃ gp ge gs, Hd (s.forward = (gp, ge, gs)) := ⟨_, _, _, ⟨rfl⟩⟩
    rw [hgk.out]
    rintro e w7 ⟨rfl, T7⟩
    have L7 := Hd.mk (L6.out.go hF7 T7)
    have hIf := Hd.mk hI.out.forward
    rw [hgk.out] at hIf
    clear T7 N7 hF7 L6
    unfold plV
    have hcase : ge = 0 ∨ (ge = 3 ∧ s = gs) := by
      rcases forward_cases s with h1 | h1
      · rw [hgk.out] at h1; exact .inl h1
      · rw [hgk.out] at h1; injection h1 with _ h1; injection h1 with h1 h2; exact .inr ⟨h1, h2.symm⟩
    rcases hcase with rfl | ⟨rfl, rfl⟩
    · have hfb := Hd.mk (forward_back hI.out (by rw [hgk.out]))
      rw [hgk.out] at hfb
      go_wp2_with fail
      obtain ⟨F8, N8, hF8⟩ := (L7.out.alloc (.cells #[.int .i64 gp.1, .int .i64 gp.2] 58)).nav
      refine (back45 g F8 gs _ N8 hIf.out.small.1 hIf.out.small.2.1).mono ?_
      obtain ⟨hp, hhp⟩ : ∃ hp, Hd (gs.back = (hp, 0, s)) := ⟨gs.back.1, ⟨by have := hfb.out; exact Prod.ext rfl this⟩⟩
      rw [hhp.out]
      rintro e w8 ⟨rfl, T8⟩
      have L8 := Hd.mk ((L7.out.alloc _).go hF8 T8)
      clear T8 N8 hF8 L7
      unfold plV
      go_wp2_with fail
      obtain ⟨F9, N9, hF9⟩ := (L8.out.alloc (.cells #[.int .i64 hp.1, .int .i64 hp.2] 58)).nav
      refine (save44 g F9 s _ N9 hI.out).mono ?_
      rintro e w9 ⟨S2, ns2, cs2, rfl, os, b9⟩
      have hstr := run_str8 (c := cs2) os.rd
      rw [hstr'.out] at hstr
      have L9 := Hd.mk ((L8.out.alloc (.cells #[.int .i64 hp.1, .int .i64 hp.2] 58)).later b9)
      clear L8 os b9 N9 hF9
      go_wp2_with fail
      clear hstr
      obtain ⟨F10, N10, hF10⟩ := L9.out.nav
      refine (now47 g F10 s w9 N10).mono ?_
      rintro e w10 ⟨rfl, b10⟩
      have N10' := N10.below b10
      have L10 := Hd.mk (L9.out.later b10)
      obtain ⟨⟨t1, t2⟩, htd⟩ : ∃ t, Hd (s.told = t) := ⟨_, ⟨rfl⟩⟩
      obtain ⟨hs', hhas⟩ : ∃ hs', Hd (s.has = hs') := ⟨_, ⟨rfl⟩⟩
      rw [htd.out, hhas.out]
      clear b10 N10 L9
      unfold plV
      have hF10' := Hd.mk hF10
      have M11 := Hd.mk (N10'.below (below_alloc w10 (.cells #[.int .i64 t1, .int .i64 t2] 58)))
      have L11 := Hd.mk (L10.out.alloc (.cells #[.int .i64 t1, .int .i64 t2] 58))
      have hb15 := Hd.mk (heap_alloc_new w10 (.cells #[.int .i64 t1, .int .i64 t2] 58))
      have hF10b : Hd (∀ k, F10 k → k < w10.heap.size) := ⟨N10'.lt⟩
      clear hF10 L10 N10'
      have bx := box_load L11.out.box
      obtain ⟨bx0, bx1⟩ := bx
      go_wp2_with fail
      clear bx0 bx1
      refine (visit48 g F10 s (a, b) _ M11.out hI.out.small.1).mono ?_
      obtain ⟨vn, vs, hv⟩ : ∃ vn vs, Hd (s.visit (a, b) = (vn, vs)) := ⟨_, _, ⟨rfl⟩⟩
      rw [hv.out]
      rintro e w12 ⟨rfl, T12⟩
      have L12 := Hd.mk (L11.out.go hF10'.out T12)
      have hIv := Hd.mk (hI.out.visit (a, b))
      rw [hv.out] at hIv
      have hc15 := Hd.mk ((T12.2.block w10.heap.size (by simp) (fun e => by have := hF10b.out _ e; omega)).trans hb15.out)
      have N12 := Hd.mk T12.1
      have hF12 := Hd.mk (up_ge (w1 := w12) hF10'.out L11.out.size)
      have hx12 : Hd (¬ up F10 (w10.alloc (.cells #[.int .i64 t1, .int .i64 t2] 58)) w12 w10.heap.size) := ⟨fun e => by rcases e with e | e; exact absurd (hF10b.out _ e) (by omega); simp at e; omega⟩
      clear T12 M11 L11
      obtain ⟨bx0, bx1⟩ := box_load L12.out.box
      obtain ⟨by0, by1⟩ := box_load hc15.out
      have hvc : (vn ≠ 0 ∧ vs = s) ∨ vn = 0 := by
        by_cases h0 : vn = 0
        · exact .inr h0
        · exact .inl ⟨h0, by have := visit_err (s := s) (p := (a, b)) (by rw [hv.out]; exact h0); rw [hv.out] at this; exact this⟩
      rcases hvc with ⟨hv0, rfl⟩ | rfl
      · have hvn : ((vn : Int) != 0) = true := by simp; omega
        go_wp2
        go_ret
        exact ⟨rfl, L12.out.below⟩
      · cases hs' with
        | false =>
          go_wp2_with fail
          obtain ⟨F13, N13, _⟩ := L12.out.nav
          refine (save44 g F13 vs w12 N13 hIv.out).mono ?_
          rintro e w13 ⟨S5, ns5, cs5, rfl, os, b13⟩
          have hstr := run_str8 (c := cs5) os.rd
          have hB := Hd.mk (L12.out.later b13).below
          clear os b13 N13 L12
          go_wp2
          all_goals
            go_ret
            exact ⟨rfl, hB.out⟩
        | true =>
          have htn : s.now = (t1, t2) := by have := htd.out; unfold NS.told at this; rw [hhas.out] at this; exact this
          have hcase2 : (t1 = a ∧ t2 = b) ∨ ¬ t1 = a ∨ (a = t1 ∧ ¬ t2 = b) := by
            by_cases h1 : t1 = a
            · by_cases h2 : t2 = b
              · exact .inl ⟨h1, h2⟩
              · exact .inr (.inr ⟨h1.symm, h2⟩)
            · exact .inr (.inl h1)
          rcases hcase2 with ⟨rfl, rfl⟩ | hne
          · have hvs : vs = s := by have := visit_same (s := s) (p := (t1, t2)) hhas.out htn; rw [hv.out] at this; exact this
            subst hvs
            clear htn
            go_wp2_with fail
            obtain ⟨F13, N13, _⟩ := L12.out.nav
            refine (save44 g F13 vs w12 N13 hIv.out).mono ?_
            rintro e w13 ⟨S5, ns5, cs5, rfl, os, b13⟩
            have hstr := run_str8 (c := cs5) os.rd
            rw [hstr'.out] at hstr
            have hB := Hd.mk (L12.out.later b13).below
            clear os b13 N13 L12
            go_wp2
            go_ret
            exact ⟨rfl, hB.out⟩
          · have hvb := Hd.mk (visit_back (s := s) (p := (a, b)) hhas.out (by rw [htn]; intro e; injection e with e1 e2; rcases hne with h1 | ⟨_, h2⟩; exact h1 e1; exact h2 e2) (by rw [hv.out]))
            rw [hv.out, htn] at hvb
            clear htn
            rcases hne with h1 | ⟨rfl, h2⟩
            all_goals
              go_wp2_with fail
              obtain ⟨kp, ke, ks, hkk⟩ : ∃ kp ke ks, Hd (vs.back = (kp, ke, ks)) := ⟨_, _, _, ⟨rfl⟩⟩
              have hv3 := hvb.out
              rw [hkk.out] at hv3
              change kp = _ ∧ ke = 0 ∧ ks.ah = _ at hv3
              obtain ⟨rfl, rfl, hka⟩ := hv3
              refine (back45 g _ vs w12 N12.out hIv.out.small.1 hIv.out.small.2.1).mono ?_
              rw [hkk.out]
              rintro e w13 ⟨rfl, T13⟩
              unfold plV
              have hka := Hd.mk hka
              have hlt15 : Hd (w10.heap.size < w12.heap.size) := ⟨cell_lt by0⟩
              have L13 := Hd.mk (L12.out.go hF12.out T13)
              have hd15 := Hd.mk ((T13.2.block w10.heap.size hlt15.out hx12.out).trans hc15.out)
              have N13 := Hd.mk T13.1
              clear T13 bx0 bx1 by0 by1 hvb hkk
              go_wp2_with fail
              refine (ahead49 g _ ks _ (N13.out.below (below_alloc _ _)) (by rw [hka.out]; show 1 ≤ 100; omega)).mono ?_
              rw [hka.out]
              rintro e w15 ⟨A5, n5, c5, rfl, ho, b15⟩
              have hn5 := ho.len
              change 1 = n5 at hn5
              subst hn5
              obtain ⟨G5, o5, rfl, k0, k1⟩ := OwnP.get ho (k := 0) (p := (a, b)) rfl
              simp only [Nat.zero_mul, Nat.add_zero] at k0 k1
              have hz13 : Hd (w10.heap.size < w13.heap.size) := ⟨cell_lt (box_load hd15.out).1⟩
              have L15 := Hd.mk ((L13.out.alloc _).later b15)
              obtain ⟨bx0, bx1⟩ := box_load L15.out.box
              obtain ⟨by0, by1⟩ := box_load ((b15.block w10.heap.size (by have := hz13.out; simp; omega)).trans (((below_alloc w13 _).block _ hz13.out).trans hd15.out))
              obtain ⟨bz0, bz1⟩ := box_load ((b15.block w13.heap.size (by simp)).trans (heap_alloc_new w13 _))
              clear ho b15 N13 L13
              go_wp2_with fail
              go_quiet (fail)
              go_wp2_with fail
              go_ret
              exact ⟨rfl, below_drewN L15.out.below _⟩

    · go_wp2_with fail
      have L9 := Hd.mk (L7.out.alloc (.cells #[.int .i64 gp.1, .int .i64 gp.2] 58))
      clear L7
      generalize w7.alloc (.cells #[.int .i64 gp.1, .int .i64 gp.2] 58) = w9 at *
      obtain ⟨F10, N10, hF10⟩ := L9.out.nav
      refine (now47 g F10 s w9 N10).mono ?_
      rintro e w10 ⟨rfl, b10⟩
      have N10' := N10.below b10
      have L10 := Hd.mk (L9.out.later b10)
      obtain ⟨⟨t1, t2⟩, htd⟩ : ∃ t, Hd (s.told = t) := ⟨_, ⟨rfl⟩⟩
      obtain ⟨hs', hhas⟩ : ∃ hs', Hd (s.has = hs') := ⟨_, ⟨rfl⟩⟩
      rw [htd.out, hhas.out]
      clear b10 N10 L9
      unfold plV
      have hF10' := Hd.mk hF10
      have M11 := Hd.mk (N10'.below (below_alloc w10 (.cells #[.int .i64 t1, .int .i64 t2] 58)))
      have L11 := Hd.mk (L10.out.alloc (.cells #[.int .i64 t1, .int .i64 t2] 58))
      have hb15 := Hd.mk (heap_alloc_new w10 (.cells #[.int .i64 t1, .int .i64 t2] 58))
      have hF10b : Hd (∀ k, F10 k → k < w10.heap.size) := ⟨N10'.lt⟩
      clear hF10 L10 N10'
      have bx := box_load L11.out.box
      obtain ⟨bx0, bx1⟩ := bx
      go_wp2_with fail
      clear bx0 bx1
      refine (visit48 g F10 s (a, b) _ M11.out hI.out.small.1).mono ?_
      obtain ⟨vn, vs, hv⟩ : ∃ vn vs, Hd (s.visit (a, b) = (vn, vs)) := ⟨_, _, ⟨rfl⟩⟩
      rw [hv.out]
      rintro e w12 ⟨rfl, T12⟩
      have L12 := Hd.mk (L11.out.go hF10'.out T12)
      have hIv := Hd.mk (hI.out.visit (a, b))
      rw [hv.out] at hIv
      have hc15 := Hd.mk ((T12.2.block w10.heap.size (by simp) (fun e => by have := hF10b.out _ e; omega)).trans hb15.out)
      have N12 := Hd.mk T12.1
      have hF12 := Hd.mk (up_ge (w1 := w12) hF10'.out L11.out.size)
      have hx12 : Hd (¬ up F10 (w10.alloc (.cells #[.int .i64 t1, .int .i64 t2] 58)) w12 w10.heap.size) := ⟨fun e => by rcases e with e | e; exact absurd (hF10b.out _ e) (by omega); simp at e; omega⟩
      clear T12 M11 L11
      obtain ⟨bx0, bx1⟩ := box_load L12.out.box
      obtain ⟨by0, by1⟩ := box_load hc15.out
      have hvc : (vn ≠ 0 ∧ vs = s) ∨ vn = 0 := by
        by_cases h0 : vn = 0
        · exact .inr h0
        · exact .inl ⟨h0, by have := visit_err (s := s) (p := (a, b)) (by rw [hv.out]; exact h0); rw [hv.out] at this; exact this⟩
      rcases hvc with ⟨hv0, rfl⟩ | rfl
      · have hvn : ((vn : Int) != 0) = true := by simp; omega
        go_wp2
        go_ret
        exact ⟨rfl, L12.out.below⟩
      · cases hs' with
        | false =>
          go_wp2_with fail
          obtain ⟨F13, N13, _⟩ := L12.out.nav
          refine (save44 g F13 vs w12 N13 hIv.out).mono ?_
          rintro e w13 ⟨S5, ns5, cs5, rfl, os, b13⟩
          have hstr := run_str8 (c := cs5) os.rd
          have hB := Hd.mk (L12.out.later b13).below
          clear os b13 N13 L12
          go_wp2
          all_goals
            go_ret
            exact ⟨rfl, hB.out⟩
        | true =>
          have htn : s.now = (t1, t2) := by have := htd.out; unfold NS.told at this; rw [hhas.out] at this; exact this
          have hcase2 : (t1 = a ∧ t2 = b) ∨ ¬ t1 = a ∨ (a = t1 ∧ ¬ t2 = b) := by
            by_cases h1 : t1 = a
            · by_cases h2 : t2 = b
              · exact .inl ⟨h1, h2⟩
              · exact .inr (.inr ⟨h1.symm, h2⟩)
            · exact .inr (.inl h1)
          rcases hcase2 with ⟨rfl, rfl⟩ | hne
          · have hvs : vs = s := by have := visit_same (s := s) (p := (t1, t2)) hhas.out htn; rw [hv.out] at this; exact this
            subst hvs
            clear htn
            go_wp2_with fail
            obtain ⟨F13, N13, _⟩ := L12.out.nav
            refine (save44 g F13 vs w12 N13 hIv.out).mono ?_
            rintro e w13 ⟨S5, ns5, cs5, rfl, os, b13⟩
            have hstr := run_str8 (c := cs5) os.rd
            rw [hstr'.out] at hstr
            have hB := Hd.mk (L12.out.later b13).below
            clear os b13 N13 L12
            go_wp2
            go_ret
            exact ⟨rfl, hB.out⟩
          · have hvb := Hd.mk (visit_back (s := s) (p := (a, b)) hhas.out (by rw [htn]; intro e; injection e with e1 e2; rcases hne with h1 | ⟨_, h2⟩; exact h1 e1; exact h2 e2) (by rw [hv.out]))
            rw [hv.out, htn] at hvb
            clear htn
            rcases hne with h1 | ⟨rfl, h2⟩
            all_goals
              go_wp2_with fail
              obtain ⟨kp, ke, ks, hkk⟩ : ∃ kp ke ks, Hd (vs.back = (kp, ke, ks)) := ⟨_, _, _, ⟨rfl⟩⟩
              have hv3 := hvb.out
              rw [hkk.out] at hv3
              change kp = _ ∧ ke = 0 ∧ ks.ah = _ at hv3
              obtain ⟨rfl, rfl, hka⟩ := hv3
              refine (back45 g _ vs w12 N12.out hIv.out.small.1 hIv.out.small.2.1).mono ?_
              rw [hkk.out]
              rintro e w13 ⟨rfl, T13⟩
              unfold plV
              have hka := Hd.mk hka
              have hlt15 : Hd (w10.heap.size < w12.heap.size) := ⟨cell_lt by0⟩
              have L13 := Hd.mk (L12.out.go hF12.out T13)
              have hd15 := Hd.mk ((T13.2.block w10.heap.size hlt15.out hx12.out).trans hc15.out)
              have N13 := Hd.mk T13.1
              clear T13 bx0 bx1 by0 by1 hvb hkk
              go_wp2_with fail
              refine (ahead49 g _ ks _ (N13.out.below (below_alloc _ _)) (by rw [hka.out]; show 1 ≤ 100; omega)).mono ?_
              rw [hka.out]
              rintro e w15 ⟨A5, n5, c5, rfl, ho, b15⟩
              have hn5 := ho.len
              change 1 = n5 at hn5
              subst hn5
              obtain ⟨G5, o5, rfl, k0, k1⟩ := OwnP.get ho (k := 0) (p := (a, b)) rfl
              simp only [Nat.zero_mul, Nat.add_zero] at k0 k1
              have hz13 : Hd (w10.heap.size < w13.heap.size) := ⟨cell_lt (box_load hd15.out).1⟩
              have L15 := Hd.mk ((L13.out.alloc _).later b15)
              obtain ⟨bx0, bx1⟩ := box_load L15.out.box
              obtain ⟨by0, by1⟩ := box_load ((b15.block w10.heap.size (by have := hz13.out; simp; omega)).trans (((below_alloc w13 _).block _ hz13.out).trans hd15.out))
              obtain ⟨bz0, bz1⟩ := box_load ((b15.block w13.heap.size (by simp)).trans (heap_alloc_new w13 _))
              clear ho b15 N13 L13
              go_wp2_with fail
              go_quiet (fail)
              go_wp2_with fail
              go_ret
              exact ⟨rfl, below_drewN L15.out.below _⟩

end Go.Proofs.Ytkgdcglnkodgnaa
