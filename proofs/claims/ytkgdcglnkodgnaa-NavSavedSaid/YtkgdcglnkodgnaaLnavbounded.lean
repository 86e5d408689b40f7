/-
  Law NavBounded walked: every step keeps the bounds, a failed step changes nothing, marks and places change only where they may.
-/
import Derived.Test.YtkgdcglnkodgnaaSame
import Derived.Test.YtkgdcglnkodgnaaOpenP
import Derived.BigQuiet
namespace Go.Proofs.Ytkgdcglnkodgnaa
open Go.RowKit
theorem wpAnyZ_true {P : Program} {ops : Array Oper} {Q : Exit → Act → World → Prop} {md : Region.Mode} {S' : World → Prop} :
    ∀ (fuel : Nat) (listed : Array Bool) (a : Act) (w : World), wpAnyZ P md ops Q S' [] fuel listed a w → wpAnyZ P md ops Q (fun _ => True) [] fuel listed a w
  | 0, _, _, _, h => h
  | fuel + 1, _, _, _, h => ⟨h.1, fun i hi => wpOp_mono (fun a' w' h' => ⟨fun _ => trivial, wpAnyZ_true fuel _ a' w' h'.2⟩) (h.2 i hi)⟩
/-- What a round of the law holds beside the reader: the slices and the box of before. -/
structure BS (B : Nat) (X : World) (s : NS) (M : Option Addr) (mn mc : Nat) (R : Option Addr) (rn rc : Nat) (Q : Option Addr) (qn qc : Nat) (b : Nat) : Prop where
  m : OwnP X B M mn mc s.mks
  r : OwnP X B R rn rc s.bh
  q : OwnP X B Q qn qc s.ah
  box : X.heap[b]? = some (.cells #[.int .i64 s.told.1, .int .i64 s.told.2] 58 (0, 0))
  ge : B ≤ b
theorem BS.tch {B : Nat} {X X' : World} {s : NS} {M R Q : Option Addr} {mn mc rn rc qn qc b : Nat} {F : Nat → Prop} (h : BS B X s M mn mc R rn rc Q qn qc b) (hT : Tch F X X') (hF : ∀ k, F k → k < B) : BS B X' s M mn mc R rn rc Q qn qc b := by
  have hk : ∀ q, B ≤ q → q < X.heap.size → X'.heap[q]? = X.heap[q]? := fun q h1 h2 => hT.block q h2 (fun e => by have := hF q e; omega)
  exact ⟨Own.keep h.m fun q _ => hk q, Own.keep h.r fun q _ => hk q, Own.keep h.q fun q _ => hk q, (hk b h.ge (Array.getElem?_eq_some_iff.1 h.box).1).trans h.box, h.ge⟩
theorem BS.later {B : Nat} {X X' : World} {s : NS} {M R Q : Option Addr} {mn mc rn rc qn qc b : Nat} (h : BS B X s M mn mc R rn rc Q qn qc b) (hb : Below X.heap.size X X') : BS B X' s M mn mc R rn rc Q qn qc b :=
  h.tch (F := fun _ => False) (Tch.of_below hb) (fun _ h => h.elim)
set_option maxRecDepth 100000 in
set_option maxHeartbeats 1000000 in
theorem navBounded11 (A : Option Addr) (n c : Nat) (l : List ActN) (w : World) (h : RdA w A n l) (hn : n ≤ 4398046511104) :
    Calls Try.prog 11 #[.slice A n c] w fun e w' => e = .returned (.bool true) ∧ Below w.heap.size w w' := by
  have HL := Hd.mk h.len
  have hmix := try_mixed
  go_enter Try.func11, Try.ntmps11
  go_wp2_with fail
  refine (awake42 _).mono ?_
  rintro e w1 ⟨rfl, b1⟩
  have HB1 := Hd.mk b1
  clear b1
  go_wp2_with fail
  refine (newN _).mono ?_
  rintro e w0 ⟨g, F, rfl, N0, hF, hb0⟩
  have D0 := Hd.mk N0
  have HF := Hd.mk (fun k e => Nat.le_trans HB1.out.size (hF k e))
  have HB0 := Hd.mk (HB1.out.trans (hb0.mono HB1.out.size))
  clear N0 hF hb0
  go_wp2
  go_loopw [4] (fun i wr => ∃ k : Nat, i = .int .i64 (k : Int) ∧ k ≤ n ∧ k ≤ 300 ∧ Hd (∃ s F, NavAt wr g F s ∧ NInv s ∧ ∀ k, F k → w.heap.size ≤ k) ∧ Hd (Below w.heap.size w wr))
    (fun i _ => 300 - (intOf i).toNat)
  case atStart => exact ⟨0, rfl, by omega, by omega, ⟨_, F, D0.out, NInv.new, HF.out⟩, HB0⟩
  case round =>
    obtain ⟨k, rfl, hk, hk4, hN, hb⟩ := hrel
    by_cases hlt : k < n
    · by_cases hlt4 : k < 300
      · obtain ⟨a, ha⟩ : ∃ a, l[k]? = some a := ⟨l[k]'(by have := HL.out; omega), List.getElem?_eq_getElem _⟩
        obtain ⟨ad, rfl, q0, q1, q2, q3⟩ := RdA.get' (Rd.below h hb.out) ha
        obtain ⟨s, FX, hX, hI', hFX'⟩ := hN.out
        have HX := Hd.mk hX
        have HFX := Hd.mk hFX'
        have hI := Hd.mk hI'
        have hki : (k : Int) < (n : Int) := by omega
        have hki4 : (k : Int) < 300 := by omega
        have hki0 : (0 : Int) ≤ (k : Int) := by omega
        clear hX hFX' hI'
        have hq := Hd.mk (And.intro q0 (And.intro q1 (And.intro q2 q3)))
        clear q0 q1 q2 q3
        go_wp2_with fail
        refine region_zone 10 [false, false, false, false, false, false, false, false, false, false] (by kernel_rfl) (by kernel_rfl) hmix (fun w' => True) [] ?_ (fun hS => ?_)
        · trivial
        refine wpAnyZ_take0 (i := 0) (oi := ⟨_, _, _, _, _, _⟩) (v := ?_) rfl (by decide +kernel) (fun _ _ _ h => h) (Or.inl ⟨by rfl, ?_⟩) (fun _ => hS) ?_
        rotate_left
        focus (intro w _; go_simp; (try with_reducible rfl); done)
        simp only [Act.put, List.setIfInBounds_toArray, List.set_cons_zero, List.set_cons_succ]
        refine wpAnyZ_take0 (i := 3) (oi := ⟨_, _, _, _, _, _⟩) (v := ?_) rfl (by decide +kernel) (fun _ _ _ h => h) (Or.inl ⟨by rfl, ?_⟩) (fun _ => hS) ?_
        rotate_left
        focus (intro w _; go_simp; (try with_reducible rfl); done)
        simp only [Act.put, List.setIfInBounds_toArray, List.set_cons_zero, List.set_cons_succ]
        refine wpAnyZ_take0 (i := 5) (oi := ⟨_, _, _, _, _, _⟩) (v := ?_) rfl (by decide +kernel) (fun _ _ _ h => h) (Or.inl ⟨by rfl, ?_⟩) (fun _ => hS) ?_
        rotate_left
        focus (intro w _; go_simp; (try with_reducible rfl); done)
        simp only [Act.put, List.setIfInBounds_toArray, List.set_cons_zero, List.set_cons_succ]
        refine wpAnyZ_one (i := 1) rfl (by decide +kernel) (fun K hKK => ?_)
        go_simp
        refine (save44 g FX s wr.drew (HX.out.below (below_drew wr)) hI.out).mono ?_
        rintro e w2 ⟨S, ns, cs, rfl, os, b2⟩
        have hrd := Hd.mk os.rd
        have hb2 := Hd.mk ((below_drew wr).trans b2)
        obtain ⟨str, hstr'⟩ : ∃ str, Hd ((⟨s.save.toArray⟩ : ByteArray) = str) := ⟨_, ⟨rfl⟩⟩
        clear os b2 hS
        refine hKK.out _ _ (fun _ => trivial) ?_
        clear hKK
        refine wpAnyZ_true (S' := fun w' => Below w2.heap.size w2 w') _ _ _ _ ?_
        have hS : Below w2.heap.size w2 w2 := Below.refl _ _
        refine wpAnyZ_take (i := 2) (oi := ⟨_, _, _, _, _, _⟩) (v := ?_) rfl (by decide +kernel) (fun _ _ _ h => h) (Or.inl ⟨by rfl, ?_⟩) hS ?_
        rotate_left
        focus (intro w hSw; (try dsimp only at hSw); have hstr := run_str8 (c := cs) (Rd.below hrd.out hSw); rw [hstr'.out] at hstr; clear hSw; go_simp; (try with_reducible rfl); done)
        simp only [Act.put, List.setIfInBounds_toArray, List.set_cons_zero, List.set_cons_succ]
        refine wpAnyZ_one (i := 4) rfl (by decide +kernel) (fun K hKK => ?_)
        go_simp
        refine (marks53 g FX s w2 (HX.out.below hb2.out) (by have := hI.out.small; omega)).mono ?_
        rintro e w3 ⟨M, mn, mc, rfl, om, b3⟩
        clear hS
        have hS := b3
        refine hKK.out _ _ (fun _ => hS) ?_
        clear hKK
        have HM3 := Hd.mk om
        have HB3 := Hd.mk (hb2.out.trans (b3.mono hb2.out.size))
        have Hsz3 := Hd.mk hb2.out.size
        clear om b3
        refine wpAnyZ_one (i := 6) rfl (by decide +kernel) (fun K hKK => ?_)
        go_simp
        refine (behind51 g FX s w3 (HX.out.below HB3.out) (by have := hI.out.small; omega)).mono ?_
        rintro e w4 ⟨R, rn, rc, rfl, or4, b4⟩
        have hS0 := hS
        clear hS
        have hS := hS0.trans (b4.mono hS0.size)
        refine hKK.out _ _ (fun _ => hS) ?_
        clear hKK
        refine wpAnyZ_take0 (i := 7) (oi := ⟨_, _, _, _, _, _⟩) (v := ?_) rfl (by decide +kernel) (fun _ _ _ h => h) (Or.inl ⟨by rfl, ?_⟩) (fun _ => hS) ?_
        rotate_left
        focus (intro w _; go_simp; (try with_reducible rfl); done)
        simp only [Act.put, List.setIfInBounds_toArray, List.set_cons_zero, List.set_cons_succ]
        refine wpAnyZ_take0 (i := 8) (oi := ⟨_, _, _, _, _, _⟩) (v := ?_) rfl (by decide +kernel) (fun _ _ _ h => h) (Or.inl ⟨by rfl, ?_⟩) (fun _ => hS) ?_
        rotate_left
        focus (intro w _; go_simp; (try with_reducible rfl); done)
        simp only [Act.put, List.setIfInBounds_toArray, List.set_cons_zero, List.set_cons_succ]
        refine wpAnyZ_take0 (i := 9) (oi := ⟨_, _, _, _, _, _⟩) (v := ?_) rfl (by decide +kernel) (fun _ _ _ h => h) (Or.inl ⟨by rfl, ?_⟩) (fun _ => hS) ?_
        rotate_left
        focus (intro w _; go_simp; (try with_reducible rfl); done)
        simp only [Act.put, List.setIfInBounds_toArray, List.set_cons_zero, List.set_cons_succ]
        refine wpAnyZ_done (by decide +kernel) ?_
        have HB4 := Hd.mk (HB3.out.trans (b4.mono HB3.out.size))
        have om4 := Hd.mk (Own.mono (Own.below HM3.out b4) (Nat.le_trans (Nat.le_refl _) Hsz3.out))
        have or4' := Hd.mk (Own.mono or4 HB3.out.size)
        clear or4 b4 HM3 HB3 Hsz3 hS hS0 hrd hb2
        go_wp2_with fail
        refine (now47 g FX s w4 (HX.out.below HB4.out)).mono ?_
        rintro e w5 ⟨rfl, b5⟩
        unfold plV
        have HB5 := Hd.mk (HB4.out.trans ((b5.trans ((below_alloc w5 (.cells #[.int .i64 s.told.1, .int .i64 s.told.2] 58)).mono b5.size)).mono HB4.out.size))
        have om5 := Hd.mk (Own.alloc (Own.below om4.out b5) (.cells #[.int .i64 s.told.1, .int .i64 s.told.2] 58))
        have or5 := Hd.mk (Own.alloc (Own.below or4'.out b5) (.cells #[.int .i64 s.told.1, .int .i64 s.told.2] 58))
        have hx5 := Hd.mk (heap_alloc_new w5 (.cells #[.int .i64 s.told.1, .int .i64 s.told.2] 58))
        have hz5 : Hd (wr.heap.size ≤ w5.heap.size) := ⟨Nat.le_trans HB4.out.size b5.size⟩
        clear om4 or4' HB4 b5
        go_wp2_with fail
        refine (ahead49 g FX s _ (HX.out.below HB5.out) (by have := hI.out.small; omega)).mono ?_
        rintro e w6 ⟨Q, qn, qc, rfl, oq, b6⟩
        have hBS := Hd.mk (BS.mk (B := wr.heap.size) (Own.below om5.out b6) (Own.below or5.out b6) (Own.mono oq HB5.out.size) ((b6.block w5.heap.size (by simp)).trans hx5.out) hz5.out)
        have HB6 := Hd.mk (HB5.out.trans (b6.mono HB5.out.size))
        clear om5 or5 hx5 hz5 oq b6 HB5
        obtain ⟨q0, q1, q2, q3⟩ := hq.out
        replace q0 := below_cell HB6.out q0
        replace q1 := below_cell HB6.out q1
        replace q2 := below_cell HB6.out q2
        replace q3 := below_cell HB6.out q3
        go_wp2_with fail
        clear q0 q1 q2 q3
        refine (step54 g FX s a w6 (HX.out.below HB6.out) hI.out).mono ?_
        obtain ⟨er, s', hst⟩ : ∃ er s', Hd (s.step a = (er, s')) := ⟨_, _, ⟨rfl⟩⟩
        rw [hst.out]
        rintro e w7 ⟨rfl, T7⟩
        have hI7 := Hd.mk (hI.out.step a)
        rw [hst.out] at hI7
        have N7 := Hd.mk T7.1
        have hF7 := Hd.mk (up_ge (w1 := w7) HFX.out (Nat.le_trans hb.out.size HB6.out.size))
        have hBS7 := Hd.mk (hBS.out.tch T7.2 HX.out.lt)
        have HB7 := Hd.mk ((hb.out.trans (HB6.out.mono hb.out.size)).trans (T7.2.below HFX.out (Nat.le_trans hb.out.size HB6.out.size)))
        clear T7 HB6 hBS HX
        by_cases he : er = 0
        · subst he
          have N8 := N7
          have BS8 := hBS7
          have HB8 := HB7
          clear N7 hBS7 HB7
          obtain ⟨w8, hw8⟩ : ∃ w8, w8 = w7 := ⟨_, rfl⟩
          subst hw8
          go_wp2_with fail
          refine (behind51 g _ s' w8 N8.out (by have := hI7.out.small; omega)).mono ?_
          rintro e w9 ⟨R2, rn2, rc2, rfl, o9, b9⟩
          have hl9 := Hd.mk (OwnP.len o9)
          have N9 := Hd.mk (N8.out.below b9)
          have BS9 := Hd.mk (BS8.out.later b9)
          have HB9 := Hd.mk (HB8.out.trans (b9.mono HB8.out.size))
          clear o9 b9 N8 BS8 HB8
          go_wp2_with fail
          refine (ahead49 g _ s' w9 N9.out (by have := hI7.out.small; omega)).mono ?_
          rintro e w10 ⟨Q2, qn2, qc2, rfl, o10, b10⟩
          have hl10 := Hd.mk (OwnP.len o10)
          have N10 := Hd.mk (N9.out.below b10)
          have BS10 := Hd.mk (BS9.out.later b10)
          have HB10 := Hd.mk (HB9.out.trans (b10.mono HB9.out.size))
          clear o10 b10 N9 BS9 HB9
          have hr2 : rn2 ≤ 32 := by have := hI7.out.long; have := hl9.out; omega
          have hq2 : qn2 ≤ 32 := by have := hI7.out.long; have := hl10.out; omega
          have hsum : (rn2 : Int) + (qn2 : Int) ≤ 32 := by have := hI7.out.long; have := hl9.out; have := hl10.out; omega
          have hsum' : ¬ (32 : Int) < (rn2 : Int) + (qn2 : Int) := by omega
          go_wp2_with fail
          refine (marks53 g _ s' w10 N10.out (by have := hI7.out.small; omega)).mono ?_
          rintro e w11 ⟨M2, mn2, mc2, rfl, o11, b11⟩
          have hl11 := OwnP.len o11
          have N11 := Hd.mk (N10.out.below b11)
          have BS11 := Hd.mk (BS10.out.later b11)
          have HB11 := Hd.mk (HB10.out.trans (b11.mono HB10.out.size))
          clear o11 b11 N10 BS10 HB10
          have hm2 : ¬ (16 : Int) < (mn2 : Int) := by have := hI7.out.marks; omega
          have hm2' : (mn2 : Int) ≤ 16 := by omega
          obtain ⟨ad2, e, q0, -, -, -⟩ := RdA.get' (Rd.below h HB11.out) ha
          injection e with e
          subst e
          clear hl11
          have hkd : (a.kind = 3 ∨ a.kind = 4) ∨ a.kind = 7 ∨ (¬ a.kind = 3 ∧ ¬ a.kind = 4 ∧ ¬ a.kind = 7) := by omega
          rcases hkd with hkd | hkd | hkd
          · have hkeep := Hd.mk (step_keep (s := s) hkd)
            rw [hst.out] at hkeep
            rcases hkd with hkd | hkd
            all_goals
              rw [hkd] at q0
              go_wp2_with fail
              refine (now47 g _ s' w11 N11.out).mono ?_
              rw [show s'.told = s.told by unfold NS.told; rw [hkeep.out.1, hkeep.out.2.1], hkeep.out.1]
              rintro e w12 ⟨rfl, b12⟩
              unfold plV
              have hA := below_alloc w12 (.cells #[.int .i64 s.told.1, .int .i64 s.told.2] 58)
              have N12 := Hd.mk ((N11.out.below b12).below hA)
              have BS12 := Hd.mk ((BS11.out.later b12).later hA)
              have HB12 := Hd.mk (HB11.out.trans ((b12.trans (hA.mono b12.size)).mono HB11.out.size))
              clear hA b12 N11 BS11 HB11 q0
              obtain ⟨bx0, bx1⟩ := box_load BS12.out.box
              obtain ⟨by0, by1⟩ := box_load (heap_alloc_new w12 (.cells #[.int .i64 s.told.1, .int .i64 s.told.2] 58))
              have hbb : (s.has != s.has) = false := by simp
              go_wp2_with fail
              clear bx0 bx1 by0 by1 hbb
              refine (behind51 g _ s' _ N12.out (by have := hI7.out.small; omega)).mono ?_
              rintro e w13 ⟨X13, xn13, xc13, rfl, o13, b13⟩
              have hl13 := OwnP.len o13
              have hn13 : xn13 ≤ 1000000 := by have := hI7.out.small; omega
              have hrd13 := Hd.mk (Own.rd o13)
              have N13 := Hd.mk (N12.out.below b13)
              have BS13 := Hd.mk (BS12.out.later b13)
              have HB13 := Hd.mk (HB12.out.trans (b13.mono HB12.out.size))
              clear hl13 o13 b13 N12 BS12 HB12
              go_wp2_with fail
              refine (same55 X13 R xn13 xc13 rn rc _ _ w13 hrd13.out (Own.rd BS13.out.r) hn13).mono ?_
              rw [show decide (s'.bh = s.bh) = true from decide_eq_true hkeep.out.2.2.1]
              rintro e w14 ⟨rfl, b14⟩
              have N14 := Hd.mk (N13.out.below b14)
              have BS14 := Hd.mk (BS13.out.later b14)
              have HB14 := Hd.mk (HB13.out.trans (b14.mono HB13.out.size))
              clear hrd13 hn13 b14 N13 BS13 HB13
              go_wp2_with fail
              refine (ahead49 g _ s' w14 N14.out (by have := hI7.out.small; omega)).mono ?_
              rintro e w15 ⟨X15, xn15, xc15, rfl, o15, b15⟩
              have hl15 := OwnP.len o15
              have hn15 : xn15 ≤ 1000000 := by have := hI7.out.small; omega
              have hrd15 := Hd.mk (Own.rd o15)
              have N15 := Hd.mk (N14.out.below b15)
              have BS15 := Hd.mk (BS14.out.later b15)
              have HB15 := Hd.mk (HB14.out.trans (b15.mono HB14.out.size))
              clear hl15 o15 b15 N14 BS14 HB14
              go_wp2_with fail
              refine (same55 X15 Q xn15 xc15 qn qc _ _ w15 hrd15.out (Own.rd BS15.out.q) hn15).mono ?_
              rw [show decide (s'.ah = s.ah) = true from decide_eq_true hkeep.out.2.2.2]
              rintro e w16 ⟨rfl, b16⟩
              have N16 := Hd.mk (N15.out.below b16)
              have BS16 := Hd.mk (BS15.out.later b16)
              have HB16 := Hd.mk (HB15.out.trans (b16.mono HB15.out.size))
              clear hrd15 hn15 b16 N15 BS15 HB15
              go_wp2
              have hN' : Hd (∃ s F, NavAt _ g F s ∧ NInv s ∧ ∀ k, F k → w.heap.size ≤ k) := ⟨s', _, N16.out, hI7.out, hF7.out⟩
              go_roundw
              case rel => exact ⟨k + 1, by go_num, by omega, by omega, hN', HB16⟩
              case measure => simp [intOf]; omega
          · rw [hkd] at q0
            go_wp2_with fail
            refine (now47 g _ s' w11 N11.out).mono ?_
            rintro e w12 ⟨rfl, b12⟩
            unfold plV
            have N12 := Hd.mk ((N11.out.below b12).below (below_alloc w12 (.cells #[.int .i64 s'.told.1, .int .i64 s'.told.2] 58)))
            have HB12 := Hd.mk (HB11.out.trans ((b12.trans ((below_alloc w12 (.cells #[.int .i64 s'.told.1, .int .i64 s'.told.2] 58)).mono b12.size)).mono HB11.out.size))
            clear b12 N11 HB11 q0
            go_wp2
            have hN' : Hd (∃ s F, NavAt _ g F s ∧ NInv s ∧ ∀ k, F k → w.heap.size ≤ k) := ⟨s', _, N12.out, hI7.out, hF7.out⟩
            go_roundw
            case rel => exact ⟨k + 1, by go_num, by omega, by omega, hN', HB12⟩
            case measure => simp [intOf]; omega
          · obtain ⟨h3, h4, h7⟩ := hkd
            have hmk := Hd.mk (step_mk (s := s) h3 h4 h7)
            rw [hst.out] at hmk
            go_wp2_with fail
            refine (marks53 g _ s' w11 N11.out (by have := hI7.out.small; omega)).mono ?_
            rintro e w12 ⟨X12, xn12, xc12, rfl, o12, b12⟩
            have hl12 := OwnP.len o12
            have hn12 : xn12 ≤ 1000000 := by have := hI7.out.small; omega
            have hrd12 := Hd.mk (Own.rd o12)
            have N12 := Hd.mk (N11.out.below b12)
            have BS12 := Hd.mk (BS11.out.later b12)
            have HB12 := Hd.mk (HB11.out.trans (b12.mono HB11.out.size))
            clear hl12 o12 b12 N11 BS11 HB11
            go_wp2_with fail
            refine (same55 X12 M xn12 xc12 mn mc _ _ w12 hrd12.out (Own.rd BS12.out.m) hn12).mono ?_
            rw [show decide (s'.mks = s.mks) = true from decide_eq_true hmk.out]
            rintro e w13 ⟨rfl, b13⟩
            have N13 := Hd.mk (N12.out.below b13)
            have BS13 := Hd.mk (BS12.out.later b13)
            have HB13 := Hd.mk (HB12.out.trans (b13.mono HB12.out.size))
            clear hrd12 hn12 b13 N12 BS12 HB12
            go_wp2_with fail
            refine (now47 g _ s' w13 N13.out).mono ?_
            rintro e w14 ⟨rfl, b14⟩
            unfold plV
            have N14 := Hd.mk ((N13.out.below b14).below (below_alloc w14 (.cells #[.int .i64 s'.told.1, .int .i64 s'.told.2] 58)))
            have HB14 := Hd.mk (HB13.out.trans ((b14.trans ((below_alloc w14 (.cells #[.int .i64 s'.told.1, .int .i64 s'.told.2] 58)).mono b14.size)).mono HB13.out.size))
            clear b14 N13 HB13
            go_wp2
            have hN' : Hd (∃ s F, NavAt _ g F s ∧ NInv s ∧ ∀ k, F k → w.heap.size ≤ k) := ⟨s', _, N14.out, hI7.out, hF7.out⟩
            go_roundw
            case rel => exact ⟨k + 1, by go_num, by omega, by omega, hN', HB14⟩
            case measure => simp [intOf]; omega
        · have hsame := Hd.mk (step_err (s := s) (a := a) (by rw [hst.out]; exact he))
          rw [hst.out] at hsame
          have hen : ((er : Int) != 0) = true := by simp; omega
          go_wp2_with fail
          refine (save44 g _ s' w7 N7.out hI7.out).mono ?_
          rintro e w8 ⟨S2, ns2, cs2, rfl, os, b8⟩
          have hstr := run_str8 (c := cs2) os.rd
          rw [show s'.save = s.save by rw [show s' = s from hsame.out], hstr'.out] at hstr
          have N8 := Hd.mk (N7.out.below b8)
          have BS8 := Hd.mk (hBS7.out.later b8)
          have HB8 := Hd.mk (HB7.out.trans (b8.mono HB7.out.size))
          clear os b8 N7 hBS7 HB7
          go_wp2_with fail
          clear hstr
          refine (behind51 g _ s' w8 N8.out (by have := hI7.out.small; omega)).mono ?_
          rintro e w9 ⟨R2, rn2, rc2, rfl, o9, b9⟩
          have hl9 := Hd.mk (OwnP.len o9)
          have N9 := Hd.mk (N8.out.below b9)
          have BS9 := Hd.mk (BS8.out.later b9)
          have HB9 := Hd.mk (HB8.out.trans (b9.mono HB8.out.size))
          clear o9 b9 N8 BS8 HB8
          go_wp2_with fail
          refine (ahead49 g _ s' w9 N9.out (by have := hI7.out.small; omega)).mono ?_
          rintro e w10 ⟨Q2, qn2, qc2, rfl, o10, b10⟩
          have hl10 := Hd.mk (OwnP.len o10)
          have N10 := Hd.mk (N9.out.below b10)
          have BS10 := Hd.mk (BS9.out.later b10)
          have HB10 := Hd.mk (HB9.out.trans (b10.mono HB9.out.size))
          clear o10 b10 N9 BS9 HB9
          have hr2 : rn2 ≤ 32 := by have := hI7.out.long; have := hl9.out; omega
          have hq2 : qn2 ≤ 32 := by have := hI7.out.long; have := hl10.out; omega
          have hsum : (rn2 : Int) + (qn2 : Int) ≤ 32 := by have := hI7.out.long; have := hl9.out; have := hl10.out; omega
          have hsum' : ¬ (32 : Int) < (rn2 : Int) + (qn2 : Int) := by omega
          go_wp2_with fail
          refine (marks53 g _ s' w10 N10.out (by have := hI7.out.small; omega)).mono ?_
          rintro e w11 ⟨M2, mn2, mc2, rfl, o11, b11⟩
          have hl11 := OwnP.len o11
          have N11 := Hd.mk (N10.out.below b11)
          have BS11 := Hd.mk (BS10.out.later b11)
          have HB11 := Hd.mk (HB10.out.trans (b11.mono HB10.out.size))
          clear o11 b11 N10 BS10 HB10
          have hm2 : ¬ (16 : Int) < (mn2 : Int) := by have := hI7.out.marks; omega
          have hm2' : (mn2 : Int) ≤ 16 := by omega
          obtain ⟨ad2, e, q0, -, -, -⟩ := RdA.get' (Rd.below h HB11.out) ha
          injection e with e
          subst e
          clear hl11
          have hkd : (a.kind = 3 ∨ a.kind = 4) ∨ a.kind = 7 ∨ (¬ a.kind = 3 ∧ ¬ a.kind = 4 ∧ ¬ a.kind = 7) := by omega
          rcases hkd with hkd | hkd | hkd
          · have hkeep := Hd.mk (step_keep (s := s) hkd)
            rw [hst.out] at hkeep
            rcases hkd with hkd | hkd
            all_goals
              rw [hkd] at q0
              go_wp2_with fail
              refine (now47 g _ s' w11 N11.out).mono ?_
              rw [show s'.told = s.told by unfold NS.told; rw [hkeep.out.1, hkeep.out.2.1], hkeep.out.1]
              rintro e w12 ⟨rfl, b12⟩
              unfold plV
              have hA := below_alloc w12 (.cells #[.int .i64 s.told.1, .int .i64 s.told.2] 58)
              have N12 := Hd.mk ((N11.out.below b12).below hA)
              have BS12 := Hd.mk ((BS11.out.later b12).later hA)
              have HB12 := Hd.mk (HB11.out.trans ((b12.trans (hA.mono b12.size)).mono HB11.out.size))
              clear hA b12 N11 BS11 HB11 q0
              obtain ⟨bx0, bx1⟩ := box_load BS12.out.box
              obtain ⟨by0, by1⟩ := box_load (heap_alloc_new w12 (.cells #[.int .i64 s.told.1, .int .i64 s.told.2] 58))
              have hbb : (s.has != s.has) = false := by simp
              go_wp2_with fail
              clear bx0 bx1 by0 by1 hbb
              refine (behind51 g _ s' _ N12.out (by have := hI7.out.small; omega)).mono ?_
              rintro e w13 ⟨X13, xn13, xc13, rfl, o13, b13⟩
              have hl13 := OwnP.len o13
              have hn13 : xn13 ≤ 1000000 := by have := hI7.out.small; omega
              have hrd13 := Hd.mk (Own.rd o13)
              have N13 := Hd.mk (N12.out.below b13)
              have BS13 := Hd.mk (BS12.out.later b13)
              have HB13 := Hd.mk (HB12.out.trans (b13.mono HB12.out.size))
              clear hl13 o13 b13 N12 BS12 HB12
              go_wp2_with fail
              refine (same55 X13 R xn13 xc13 rn rc _ _ w13 hrd13.out (Own.rd BS13.out.r) hn13).mono ?_
              rw [show decide (s'.bh = s.bh) = true from decide_eq_true hkeep.out.2.2.1]
              rintro e w14 ⟨rfl, b14⟩
              have N14 := Hd.mk (N13.out.below b14)
              have BS14 := Hd.mk (BS13.out.later b14)
              have HB14 := Hd.mk (HB13.out.trans (b14.mono HB13.out.size))
              clear hrd13 hn13 b14 N13 BS13 HB13
              go_wp2_with fail
              refine (ahead49 g _ s' w14 N14.out (by have := hI7.out.small; omega)).mono ?_
              rintro e w15 ⟨X15, xn15, xc15, rfl, o15, b15⟩
              have hl15 := OwnP.len o15
              have hn15 : xn15 ≤ 1000000 := by have := hI7.out.small; omega
              have hrd15 := Hd.mk (Own.rd o15)
              have N15 := Hd.mk (N14.out.below b15)
              have BS15 := Hd.mk (BS14.out.later b15)
              have HB15 := Hd.mk (HB14.out.trans (b15.mono HB14.out.size))
              clear hl15 o15 b15 N14 BS14 HB14
              go_wp2_with fail
              refine (same55 X15 Q xn15 xc15 qn qc _ _ w15 hrd15.out (Own.rd BS15.out.q) hn15).mono ?_
              rw [show decide (s'.ah = s.ah) = true from decide_eq_true hkeep.out.2.2.2]
              rintro e w16 ⟨rfl, b16⟩
              have N16 := Hd.mk (N15.out.below b16)
              have BS16 := Hd.mk (BS15.out.later b16)
              have HB16 := Hd.mk (HB15.out.trans (b16.mono HB15.out.size))
              clear hrd15 hn15 b16 N15 BS15 HB15
              go_wp2
              have hN' : Hd (∃ s F, NavAt _ g F s ∧ NInv s ∧ ∀ k, F k → w.heap.size ≤ k) := ⟨s', _, N16.out, hI7.out, hF7.out⟩
              go_roundw
              case rel => exact ⟨k + 1, by go_num, by omega, by omega, hN', HB16⟩
              case measure => simp [intOf]; omega
          · rw [hkd] at q0
            go_wp2_with fail
            refine (now47 g _ s' w11 N11.out).mono ?_
            rintro e w12 ⟨rfl, b12⟩
            unfold plV
            have N12 := Hd.mk ((N11.out.below b12).below (below_alloc w12 (.cells #[.int .i64 s'.told.1, .int .i64 s'.told.2] 58)))
            have HB12 := Hd.mk (HB11.out.trans ((b12.trans ((below_alloc w12 (.cells #[.int .i64 s'.told.1, .int .i64 s'.told.2] 58)).mono b12.size)).mono HB11.out.size))
            clear b12 N11 HB11 q0
            go_wp2
            have hN' : Hd (∃ s F, NavAt _ g F s ∧ NInv s ∧ ∀ k, F k → w.heap.size ≤ k) := ⟨s', _, N12.out, hI7.out, hF7.out⟩
            go_roundw
            case rel => exact ⟨k + 1, by go_num, by omega, by omega, hN', HB12⟩
            case measure => simp [intOf]; omega
          · obtain ⟨h3, h4, h7⟩ := hkd
            have hmk := Hd.mk (step_mk (s := s) h3 h4 h7)
            rw [hst.out] at hmk
            go_wp2_with fail
            refine (marks53 g _ s' w11 N11.out (by have := hI7.out.small; omega)).mono ?_
            rintro e w12 ⟨X12, xn12, xc12, rfl, o12, b12⟩
            have hl12 := OwnP.len o12
            have hn12 : xn12 ≤ 1000000 := by have := hI7.out.small; omega
            have hrd12 := Hd.mk (Own.rd o12)
            have N12 := Hd.mk (N11.out.below b12)
            have BS12 := Hd.mk (BS11.out.later b12)
            have HB12 := Hd.mk (HB11.out.trans (b12.mono HB11.out.size))
            clear hl12 o12 b12 N11 BS11 HB11
            go_wp2_with fail
            refine (same55 X12 M xn12 xc12 mn mc _ _ w12 hrd12.out (Own.rd BS12.out.m) hn12).mono ?_
            rw [show decide (s'.mks = s.mks) = true from decide_eq_true hmk.out]
            rintro e w13 ⟨rfl, b13⟩
            have N13 := Hd.mk (N12.out.below b13)
            have BS13 := Hd.mk (BS12.out.later b13)
            have HB13 := Hd.mk (HB12.out.trans (b13.mono HB12.out.size))
            clear hrd12 hn12 b13 N12 BS12 HB12
            go_wp2_with fail
            refine (now47 g _ s' w13 N13.out).mono ?_
            rintro e w14 ⟨rfl, b14⟩
            unfold plV
            have N14 := Hd.mk ((N13.out.below b14).below (below_alloc w14 (.cells #[.int .i64 s'.told.1, .int .i64 s'.told.2] 58)))
            have HB14 := Hd.mk (HB13.out.trans ((b14.trans ((below_alloc w14 (.cells #[.int .i64 s'.told.1, .int .i64 s'.told.2] 58)).mono b14.size)).mono HB13.out.size))
            clear b14 N13 HB13
            go_wp2
            have hN' : Hd (∃ s F, NavAt _ g F s ∧ NInv s ∧ ∀ k, F k → w.heap.size ≤ k) := ⟨s', _, N14.out, hI7.out, hF7.out⟩
            go_roundw
            case rel => exact ⟨k + 1, by go_num, by omega, by omega, hN', HB14⟩
            case measure => simp [intOf]; omega
      · obtain rfl : k = 300 := by omega
        have hki : ((300 : Nat) : Int) < (n : Int) := by omega
        go_wp2
        go_ret
        exact ⟨rfl, hb.out⟩
    · obtain rfl : k = n := by omega
      have hki : ¬ ((k : Int) < (k : Int)) := by omega
      go_wp2
      go_ret
      exact ⟨rfl, hb.out⟩
end Go.Proofs.Ytkgdcglnkodgnaa

