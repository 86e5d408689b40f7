/-
  The walk of NavSaved. No condition but sizes.
-/
import Derived.Test.YtkgdcglnkodgnaaLoad
import Derived.Test.YtkgdcglnkodgnaaLnavbounded
namespace Go.Proofs.Ytkgdcglnkodgnaa
open Go.RowKit
theorem wpAnyZ_weak {P : Program} {ops : Array Oper} {Q : Exit → Act → World → Prop} {md : Region.Mode} {S S' : World → Prop} (hS : ∀ w, S' w → S w) :
    ∀ (fuel : Nat) (listed : Array Bool) (a : Act) (w : World), wpAnyZ P md ops Q S' [] fuel listed a w → wpAnyZ P md ops Q S [] fuel listed a w
  | 0, _, _, _, h => h
  | fuel + 1, _, _, _, h => ⟨h.1, fun i hi => wpOp_mono (fun a' w' h' => ⟨fun e => hS _ (h'.1 e), wpAnyZ_weak hS fuel _ a' w' h'.2⟩) (h.2 i hi)⟩
/-- Two readers, apart. -/
structure Two (W : World) (B g1 : Nat) (F1 : Nat → Prop) (s : NS) (g2 : Nat) (F2 : Nat → Prop) (t : NS) : Prop where
  n1 : NavAt W g1 F1 s
  n2 : NavAt W g2 F2 t
  ap : ∀ k, F1 k → ¬ F2 k
  l1 : ∀ k, F1 k → B ≤ k
  l2 : ∀ k, F2 k → B ≤ k
section
variable {W W' : World} {B g1 g2 : Nat} {F1 F2 : Nat → Prop} {s t s' : NS}
theorem Two.later (h : Two W B g1 F1 s g2 F2 t) (hb : Below W.heap.size W W') : Two W' B g1 F1 s g2 F2 t := ⟨h.n1.below hb, h.n2.below hb, h.ap, h.l1, h.l2⟩
theorem Two.fst (h : Two W B g1 F1 s g2 F2 t) (hT : NavTo W W' g1 F1 s') (hB : B ≤ W.heap.size) : Two W' B g1 (up F1 W W') s' g2 F2 t :=
  ⟨hT.1, h.n2.keep hT.2 (fun k e e' => h.ap k e' e), fun k e e' => e.elim (fun e => h.ap k e e') (fun e => by have := h.n2.lt k e'; omega), up_ge h.l1 hB, h.l2⟩
theorem Two.snd (h : Two W B g1 F1 s g2 F2 t) (hT : NavTo W W' g2 F2 s') (hB : B ≤ W.heap.size) : Two W' B g1 F1 s g2 (up F2 W W') s' :=
  ⟨h.n1.keep hT.2 h.ap, hT.1, fun k e e' => e'.elim (h.ap k e) (fun e' => by have := h.n1.lt k e; omega), h.l1, up_ge h.l2 hB⟩
theorem Two.add (h : NavAt W g1 F1 s) (hl : ∀ k, F1 k → B ≤ k) (hb : Below W.heap.size W W') (h2 : NavAt W' g2 F2 t) (hl2 : ∀ k, F2 k → W.heap.size ≤ k) (hB : B ≤ W.heap.size) : Two W' B g1 F1 s g2 F2 t :=
  ⟨h.below hb, h2, fun k e e' => by have := h.lt k e; have := hl2 k e'; omega, hl, fun k e => Nat.le_trans hB (hl2 k e)⟩
end
theorem retLoad_elim {w w' : World} {e : Ending} {r : Option NS} {s : NS} (hr : r = some s) (h : RetLoad w r e w') :
    Below w.heap.size w w' ∧ ∃ g F, e = .returned (.tuple #[.pointer (some ⟨g, 0, none⟩), .int .i64 0]) ∧ NavAt w' g F s ∧ ∀ k, F k → w.heap.size ≤ k := by subst hr; exact h
theorem save_len {s : NS} (h : NInv s) : s.save.length ≤ 10000 := by
  have hn1 : ∀ p ∈ s.now1, mayQ p = true := by
    intro p hp
    unfold NS.now1 at hp
    split at hp
    · rename_i hh; simp at hp; subst hp; exact h.now hh
    · simp at hp
  have hl1 : s.now1.length ≤ 1 := by unfold NS.now1; split <;> simp
  have hlong := h.long
  have hm := h.marks
  have a := putL_len h.bh (by omega)
  have b := putL_len hn1 (by omega)
  have c := putL_len h.ah (by omega)
  have d := putL_len h.mks (by omega)
  simp only [NS.save, List.length_append, magicN, List.length_cons, List.length_nil]
  omega
theorem ns_eq {s t : NS} (hs : NInv s) (ht : NInv t) (e1 : s.has = t.has) (e2 : s.told = t.told) (e3 : s.bh = t.bh) (e4 : s.ah = t.ah) (e5 : s.mks = t.mks) : s = t := by
  have h1 := fun e => (hs.none e).1
  have h2 := fun e => (ht.none e).1
  obtain ⟨a, b, c, d, e⟩ := s
  obtain ⟨a', b', c', d', e'⟩ := t
  simp only [NS.told] at e1 e2 e3 e4 e5 h1 h2
  subst e1; subst e3; subst e4; subst e5
  cases a
  · rw [h1 rfl, h2 rfl]
  · simp only [if_true] at e2
    rw [e2]
/-- Two readers and a row of bytes, apart. -/
structure Sv (W : World) (B g1 : Nat) (F1 : Nat → Prop) (s : NS) (g2 : Nat) (F2 : Nat → Prop) (t : NS) (A : Option Addr) (n c : Nat) (l : List UInt8) : Prop where
  tw : Two W B g1 F1 s g2 F2 t
  o : Own8 W B A n c l
  a1 : ∀ k, ownBlk A c = some k → ¬ F1 k
  a2 : ∀ k, ownBlk A c = some k → ¬ F2 k
section
variable {W W' : World} {B g1 g2 : Nat} {F1 F2 : Nat → Prop} {s t s' : NS} {A : Option Addr} {n c : Nat} {l : List UInt8}
theorem Sv.later (h : Sv W B g1 F1 s g2 F2 t A n c l) (hb : Below W.heap.size W W') : Sv W' B g1 F1 s g2 F2 t A n c l := ⟨h.tw.later hb, Own.below h.o hb, h.a1, h.a2⟩
theorem Sv.fst (h : Sv W B g1 F1 s g2 F2 t A n c l) (hT : NavTo W W' g1 F1 s') (hB : B ≤ W.heap.size) : Sv W' B g1 (up F1 W W') s' g2 F2 t A n c l :=
  ⟨h.tw.fst hT hB, Own.keep h.o fun k e _ hl => hT.2.block k hl (h.a1 k e), fun k e e' => e'.elim (h.a1 k e) (fun e' => by have := (Own.lt h.o e).2; omega), h.a2⟩
theorem Sv.snd (h : Sv W B g1 F1 s g2 F2 t A n c l) (hT : NavTo W W' g2 F2 s') (hB : B ≤ W.heap.size) : Sv W' B g1 F1 s g2 (up F2 W W') s' A n c l :=
  ⟨h.tw.snd hT hB, Own.keep h.o fun k e _ hl => hT.2.block k hl (h.a2 k e), h.a1, fun k e e' => e'.elim (h.a2 k e) (fun e' => by have := (Own.lt h.o e).2; omega)⟩
end
set_option maxRecDepth 100000 in
set_option maxHeartbeats 2000000 in
theorem navSaved21 (A1 A2 A3 : Option Addr) (n1 c1 n2 c2 n3 c3 : Nat) (l1 l2 l3 : List ActN) (w : World) (h1 : RdA w A1 n1 l1) (h2 : RdA w A2 n2 l2) (h3 : RdA w A3 n3 l3) (hn1 : n1 ≤ 4398046511104) (hn2 : n2 ≤ 4398046511104) (hn3 : n3 ≤ 4398046511104) :
    Calls Try.prog 21 #[.slice A1 n1 c1, .slice A2 n2 c2, .slice A3 n3 c3] w fun e w' => e = .returned (.bool true) ∧ Below w.heap.size w w' := by
  have HL2 := Hd.mk h2.len
  have hmix := try_mixed
  obtain ⟨s, hs⟩ : ∃ s, Hd (runN NS.new (l1.take 400) = s) := ⟨_, ⟨rfl⟩⟩
  have hI : Hd (NInv s) := ⟨by rw [← hs.out]; exact NInv.new.run _⟩
  have hld := Hd.mk (load_save hI.out)
  go_enter Try.func21, Try.ntmps21
  go_wp2_with fail
  refine (awake42 _).mono ?_
  rintro e w1 ⟨rfl, b1⟩
  have HB1 := Hd.mk b1
  clear b1
  go_wp2_with fail
  refine (run43 A1 n1 c1 l1 w1 (Rd.below h1 HB1.out) hn1).mono ?_
  rw [hs.out]
  rintro e w2 ⟨gx, FX, rfl, NX, hFX, b2⟩
  have X2 := Hd.mk NX
  have LX := Hd.mk (fun k e => Nat.le_trans HB1.out.size (hFX k e))
  have HB2 := Hd.mk (HB1.out.trans (b2.mono HB1.out.size))
  clear NX hFX b2 HB1
  go_wp2_with fail
  refine (save44 gx FX s w2 X2.out hI.out).mono ?_
  rintro e w3 ⟨SB, sn, sc, rfl, os, b3⟩
  have X3 := Hd.mk (X2.out.below b3)
  have HB3 := Hd.mk (HB2.out.trans (b3.mono HB2.out.size))
  have OS := Hd.mk os
  clear os b3
  have hsn : sn ≤ 10000 := by have := save_len hI.out; have := Own8.len OS.out; omega
  have hA4 := Hd.mk (below_alloc w3 (.cells #[] 5))
  go_wp2_with (at_builtin; refine wl_app8 rfl (.tmp 25) (.tmp 26) rfl rfl rfl (Own8.nil_ _ (w3.alloc (.cells #[] 5)).heap.size _) (Rd8.alloc (Own.rd OS.out) _) (by omega) (Nat.le_refl _) ?_; rintro v w4 ⟨A', c', rfl, hown, hg, _⟩)
  have hb4 : Below (w3.alloc (.cells #[] 5)).heap.size (w3.alloc (.cells #[] 5)) w4 := below_app (Below.refl _ _) (Nat.le_refl _) (Own8.nil_ _ _ _) hg
  have B4 := Hd.mk (hA4.out.trans (hb4.mono hA4.out.size))
  simp only [Nat.zero_add, List.nil_append] at hown
  have O4 := Hd.mk (Own.rd hown)
  clear hown hg hb4 hA4
  refine (load71 A' sn c' s.save w4 O4.out (by omega)).mono ?_
  rintro e w5 hre
  obtain ⟨b5, gy, FY, rfl, NY, hFY⟩ := retLoad_elim hld.out hre
  have H5 := Hd.mk (Sv.mk (Two.add X3.out LX.out (B4.out.trans (b5.mono B4.out.size)) NY (fun k e => Nat.le_trans B4.out.size (hFY k e)) HB3.out.size) (Own.below (Own.mono OS.out HB2.out.size) (B4.out.trans (b5.mono B4.out.size)))
    (fun k e e' => by have := (Own.lt OS.out e).1; have := X2.out.lt k e'; omega) (fun k e e' => by have := (Own.lt OS.out e).2; have := hFY k e'; have := B4.out.size; omega))
  have HB5 := Hd.mk (HB3.out.trans ((B4.out.trans (b5.mono B4.out.size)).mono HB3.out.size))
  clear hsn b5 NY hFY B4 O4 OS X3 HB3 X2 HB2 LX
  obtain ⟨str, hstr'⟩ : ∃ str, Hd ((⟨s.save.toArray⟩ : ByteArray) = str) := ⟨_, ⟨rfl⟩⟩
  have hss : (str.toList == str.toList) = true := by simp
  go_wp2_with fail
  refine region_zone 14 [false, false, false, false, false, false, false, false, false, false, false, false, false, false] (by kernel_rfl) (by kernel_rfl) hmix (fun w' => Below w5.heap.size w5 w') [] ?_ (fun hS => ?_)
  · exact below_drew w5
  refine wpAnyZ_take0 (i := 0) (oi := ⟨_, _, _, _, _, _⟩) (v := ?_) rfl (by decide +kernel) (fun _ _ _ h => h) (Or.inl ⟨by rfl, ?_⟩) (fun _ => hS) ?_
  rotate_left
  focus (intro w _; go_simp; (try with_reducible rfl); done)
  simp only [Act.put, List.setIfInBounds_toArray, List.set_cons_zero, List.set_cons_succ]
  refine wpAnyZ_take0 (i := 1) (oi := ⟨_, _, _, _, _, _⟩) (v := ?_) rfl (by decide +kernel) (fun _ _ _ h => h) (Or.inl ⟨by rfl, ?_⟩) (fun _ => hS) ?_
  rotate_left
  focus (intro w _; go_simp; (try with_reducible rfl); done)
  simp only [Act.put, List.setIfInBounds_toArray, List.set_cons_zero, List.set_cons_succ]
  refine wpAnyZ_take0 (i := 2) (oi := ⟨_, _, _, _, _, _⟩) (v := ?_) rfl (by decide +kernel) (fun _ _ _ h => h) (Or.inl ⟨by rfl, ?_⟩) (fun _ => hS) ?_
  rotate_left
  focus (intro w _; go_simp; (try with_reducible rfl); done)
  simp only [Act.put, List.setIfInBounds_toArray, List.set_cons_zero, List.set_cons_succ]
  refine wpAnyZ_take0 (i := 3) (oi := ⟨_, _, _, _, _, _⟩) (v := ?_) rfl (by decide +kernel) (fun _ _ _ h => h) (Or.inl ⟨by rfl, ?_⟩) (fun _ => hS) ?_
  rotate_left
  focus (intro w _; go_simp; (try with_reducible rfl); done)
  simp only [Act.put, List.setIfInBounds_toArray, List.set_cons_zero, List.set_cons_succ]
  refine wpAnyZ_take0 (i := 4) (oi := ⟨_, _, _, _, _, _⟩) (v := ?_) rfl (by decide +kernel) (fun _ _ _ h => h) (Or.inl ⟨by rfl, ?_⟩) (fun _ => hS) ?_
  rotate_left
  focus (intro w _; go_simp; (try with_reducible rfl); done)
  simp only [Act.put, List.setIfInBounds_toArray, List.set_cons_zero, List.set_cons_succ]
  refine wpAnyZ_take0 (i := 5) (oi := ⟨_, _, _, _, _, _⟩) (v := ?_) rfl (by decide +kernel) (fun _ _ _ h => h) (Or.inl ⟨by rfl, ?_⟩) (fun _ => hS) ?_
  rotate_left
  focus (intro w _; go_simp; (try with_reducible rfl); done)
  simp only [Act.put, List.setIfInBounds_toArray, List.set_cons_zero, List.set_cons_succ]
  refine wpAnyZ_take0 (i := 6) (oi := ⟨_, _, _, _, _, _⟩) (v := ?_) rfl (by decide +kernel) (fun _ _ _ h => h) (Or.inl ⟨by rfl, ?_⟩) (fun _ => hS) ?_
  rotate_left
  focus (intro w _; go_simp; (try with_reducible rfl); done)
  simp only [Act.put, List.setIfInBounds_toArray, List.set_cons_zero, List.set_cons_succ]
  refine wpAnyZ_take0 (i := 7) (oi := ⟨_, _, _, _, _, _⟩) (v := ?_) rfl (by decide +kernel) (fun _ _ _ h => h) (Or.inl ⟨by rfl, ?_⟩) (fun _ => hS) ?_
  rotate_left
  focus (intro w _; go_simp; (try with_reducible rfl); done)
  simp only [Act.put, List.setIfInBounds_toArray, List.set_cons_zero, List.set_cons_succ]
  refine wpAnyZ_take0 (i := 10) (oi := ⟨_, _, _, _, _, _⟩) (v := ?_) rfl (by decide +kernel) (fun _ _ _ h => h) (Or.inl ⟨by rfl, ?_⟩) (fun _ => hS) ?_
  rotate_left
  focus (intro w _; go_simp; (try with_reducible rfl); done)
  simp only [Act.put, List.setIfInBounds_toArray, List.set_cons_zero, List.set_cons_succ]
  refine wpAnyZ_take (i := 11) (oi := ⟨_, _, _, _, _, _⟩) (v := ?_) rfl (by decide +kernel) (fun _ _ _ h => h) (Or.inl ⟨by rfl, ?_⟩) hS ?_
  rotate_left
  focus (intro w hSw; (try dsimp only at hSw); have hstr := run_str8 (c := sc) (Rd.below (Own.rd H5.out.o) hSw); rw [hstr'.out] at hstr; clear hSw; go_simp; (try with_reducible rfl); done)
  simp only [Act.put, List.setIfInBounds_toArray, List.set_cons_zero, List.set_cons_succ]
  refine wpAnyZ_one (i := 8) rfl (by decide +kernel) (fun K hKK => ?_)
  go_simp
  refine (save44 gy FY s w5.drew (H5.out.tw.n2.below (below_drew w5)) hI.out).mono ?_
  rintro e w6 ⟨Y, yn, yc, rfl, oy, b6⟩
  have OY := Hd.mk (Own.rd oy)
  have hb6 := Hd.mk ((below_drew w5).trans b6)
  clear oy b6 hS
  refine hKK.out _ _ (fun _ => hb6.out) ?_
  clear hKK
  refine wpAnyZ_weak (S' := fun w' => Below w6.heap.size w6 w') (fun w h => hb6.out.trans (h.mono hb6.out.size)) _ _ _ _ ?_
  have hS : Below w6.heap.size w6 w6 := Below.refl _ _
  refine wpAnyZ_take (i := 9) (oi := ⟨_, _, _, _, _, _⟩) (v := ?_) rfl (by decide +kernel) (fun _ _ _ h => h) (Or.inl ⟨by rfl, ?_⟩) hS ?_
  rotate_left
  focus (intro w hSw; (try dsimp only at hSw); have hstr := run_str8 (c := yc) (Rd.below OY.out hSw); rw [hstr'.out] at hstr; clear hSw; go_simp; (try with_reducible rfl); done)
  simp only [Act.put, List.setIfInBounds_toArray, List.set_cons_zero, List.set_cons_succ]
  refine wpAnyZ_take0 (i := 12) (oi := ⟨_, _, _, _, _, _⟩) (v := ?_) rfl (by decide +kernel) (fun _ _ _ h => h) (Or.inl ⟨by rfl, ?_⟩) (fun _ => hS) ?_
  rotate_left
  focus (intro w _; go_simp; (try with_reducible rfl); done)
  simp only [Act.put, List.setIfInBounds_toArray, List.set_cons_zero, List.set_cons_succ]
  refine wpAnyZ_take0 (i := 13) (oi := ⟨_, _, _, _, _, _⟩) (v := ?_) rfl (by decide +kernel) (fun _ _ _ h => h) (Or.inl ⟨by rfl, ?_⟩) (fun _ => hS) ?_
  rotate_left
  focus (intro w _; go_simp; (try with_reducible rfl); done)
  simp only [Act.put, List.setIfInBounds_toArray, List.set_cons_zero, List.set_cons_succ]
  refine wpAnyZ_done (by decide +kernel) ?_
  have H6 := Hd.mk (H5.out.later hb6.out)
  have HB6 := Hd.mk (HB5.out.trans (hb6.out.mono HB5.out.size))
  clear OY hb6 hS H5 HB5
  go_wp2_with fail
  go_loopw [11] (fun i wr => ∃ k : Nat, i = .int .i64 (k : Int) ∧ k ≤ n2 ∧ k ≤ 100 ∧ Hd (∃ s' F1 F2, Sv wr w.heap.size gx F1 s' gy F2 s' SB sn sc s.save ∧ NInv s') ∧ Hd (Below w.heap.size w wr))
    (fun i _ => 100 - (intOf i).toNat)
  case atStart => exact ⟨0, rfl, by omega, by omega, ⟨s, _, _, H6.out, hI.out⟩, HB6⟩
  case round =>
    obtain ⟨k, rfl, hk, hk1, hN, hb⟩ := hrel
    by_cases hlt : k < n2 ∧ k < 100
    · obtain ⟨a, ha⟩ : ∃ a, l2[k]? = some a := ⟨l2[k]'(by have := HL2.out; omega), List.getElem?_eq_getElem _⟩
      obtain ⟨ad, rfl, q0, q1, q2, q3⟩ := RdA.get' h2 ha
      obtain ⟨s0, F1, F2, hV, hI0⟩ := hN.out
      have V0 := Hd.mk hV
      have I0 := Hd.mk hI0
      have hki : (k : Int) < (n2 : Int) := by omega
      have hki4 : (k : Int) < 100 := by omega
      have hki0 : (0 : Int) ≤ (k : Int) := by omega
      have HQ0 := Hd.mk q0
      have HQ1 := Hd.mk q1
      have HQ2 := Hd.mk q2
      have HQ3 := Hd.mk q3
      clear hV hI0 q0 q1 q2 q3 ha hlt hN
      obtain ⟨er, s1, hst⟩ : ∃ er s1, Hd (s0.step a = (er, s1)) := ⟨_, _, ⟨rfl⟩⟩
      have I1 := Hd.mk (I0.out.step a)
      rw [hst.out] at I1
      obtain ⟨str1, hstr1⟩ : ∃ str, Hd ((⟨s1.save.toArray⟩ : ByteArray) = str) := ⟨_, ⟨rfl⟩⟩
      have hss1 : (str1.toList == str1.toList) = true := by simp
      have hee : ((er : Int) != (er : Int)) = false := by simp
      go_wp2_with fail
      refine region_zone 22 [false, false, false, false, false, false, false, false, false, false, false, false, false, false, false, false, false, false, false, false, false, false] (by kernel_rfl) (by kernel_rfl) hmix (fun w' => Below w.heap.size w w') [] ?_ (fun hS => ?_)
      · exact below_drewN hb.out 1
      refine wpAnyZ_take0 (i := 0) (oi := ⟨_, _, _, _, _, _⟩) (v := ?_) rfl (by decide +kernel) (fun _ _ _ h => h) (Or.inl ⟨by rfl, ?_⟩) (fun _ => hS) ?_
      rotate_left
      focus (intro w _; go_simp; (try with_reducible rfl); done)
      simp only [Act.put, List.setIfInBounds_toArray, List.set_cons_zero, List.set_cons_succ]
      refine wpAnyZ_take0 (i := 1) (oi := ⟨_, _, _, _, _, _⟩) (v := ?_) rfl (by decide +kernel) (fun _ _ _ h => h) (Or.inl ⟨by rfl, ?_⟩) (fun _ => hS) ?_
      rotate_left
      focus (intro w _; go_simp; (try with_reducible rfl); done)
      simp only [Act.put, List.setIfInBounds_toArray, List.set_cons_zero, List.set_cons_succ]
      refine wpAnyZ_take0 (i := 2) (oi := ⟨_, _, _, _, _, _⟩) (v := ?_) rfl (by decide +kernel) (fun _ _ _ h => h) (Or.inl ⟨by rfl, ?_⟩) (fun _ => hS) ?_
      rotate_left
      focus (intro w _; go_simp; (try with_reducible rfl); done)
      simp only [Act.put, List.setIfInBounds_toArray, List.set_cons_zero, List.set_cons_succ]
      refine wpAnyZ_take0 (i := 3) (oi := ⟨_, _, _, _, _, _⟩) (v := ?_) rfl (by decide +kernel) (fun _ _ _ h => h) (Or.inl ⟨by rfl, ?_⟩) (fun _ => hS) ?_
      rotate_left
      focus (intro w _; go_simp; (try with_reducible rfl); done)
      simp only [Act.put, List.setIfInBounds_toArray, List.set_cons_zero, List.set_cons_succ]
      refine wpAnyZ_take (i := 4) (oi := ⟨_, _, _, _, _, _⟩) (v := ?_) rfl (by decide +kernel) (fun _ _ _ h => h) (Or.inl ⟨by rfl, ?_⟩) hS ?_
      rotate_left
      focus (intro w hSw; (try dsimp only at hSw); have q0 := below_cell hSw HQ0.out; have q1 := below_cell hSw HQ1.out; have q2 := below_cell hSw HQ2.out; have q3 := below_cell hSw HQ3.out; clear hSw; go_simp; (try with_reducible rfl); done)
      simp only [Act.put, List.setIfInBounds_toArray, List.set_cons_zero, List.set_cons_succ]
      refine wpAnyZ_take0 (i := 6) (oi := ⟨_, _, _, _, _, _⟩) (v := ?_) rfl (by decide +kernel) (fun _ _ _ h => h) (Or.inl ⟨by rfl, ?_⟩) (fun _ => hS) ?_
      rotate_left
      focus (intro w _; go_simp; (try with_reducible rfl); done)
      simp only [Act.put, List.setIfInBounds_toArray, List.set_cons_zero, List.set_cons_succ]
      refine wpAnyZ_take0 (i := 7) (oi := ⟨_, _, _, _, _, _⟩) (v := ?_) rfl (by decide +kernel) (fun _ _ _ h => h) (Or.inl ⟨by rfl, ?_⟩) (fun _ => hS) ?_
      rotate_left
      focus (intro w _; go_simp; (try with_reducible rfl); done)
      simp only [Act.put, List.setIfInBounds_toArray, List.set_cons_zero, List.set_cons_succ]
      refine wpAnyZ_take0 (i := 8) (oi := ⟨_, _, _, _, _, _⟩) (v := ?_) rfl (by decide +kernel) (fun _ _ _ h => h) (Or.inl ⟨by rfl, ?_⟩) (fun _ => hS) ?_
      rotate_left
      focus (intro w _; go_simp; (try with_reducible rfl); done)
      simp only [Act.put, List.setIfInBounds_toArray, List.set_cons_zero, List.set_cons_succ]
      refine wpAnyZ_take0 (i := 9) (oi := ⟨_, _, _, _, _, _⟩) (v := ?_) rfl (by decide +kernel) (fun _ _ _ h => h) (Or.inl ⟨by rfl, ?_⟩) (fun _ => hS) ?_
      rotate_left
      focus (intro w _; go_simp; (try with_reducible rfl); done)
      simp only [Act.put, List.setIfInBounds_toArray, List.set_cons_zero, List.set_cons_succ]
      refine wpAnyZ_take (i := 10) (oi := ⟨_, _, _, _, _, _⟩) (v := ?_) rfl (by decide +kernel) (fun _ _ _ h => h) (Or.inl ⟨by rfl, ?_⟩) hS ?_
      rotate_left
      focus (intro w hSw; (try dsimp only at hSw); have q0 := below_cell hSw HQ0.out; have q1 := below_cell hSw HQ1.out; have q2 := below_cell hSw HQ2.out; have q3 := below_cell hSw HQ3.out; clear hSw; go_simp; (try with_reducible rfl); done)
      simp only [Act.put, List.setIfInBounds_toArray, List.set_cons_zero, List.set_cons_succ]
      refine wpAnyZ_one (i := 5) rfl (by decide +kernel) (fun K hKK => ?_)
      go_simp
      refine (step54 gx F1 s0 a wr.drew (V0.out.tw.n1.below (below_drew wr)) I0.out).mono ?_
      rw [hst.out]
      rintro e w7 ⟨rfl, T7⟩
      have V7 := Hd.mk ((V0.out.later (below_drew wr)).fst T7 hb.out.size)
      have HB7 := Hd.mk ((below_drewN hb.out 1).trans (T7.2.below V0.out.tw.l1 hb.out.size))
      clear T7
      clear hS
      have hS := HB7.out
      refine hKK.out _ _ (fun _ => hS) ?_
      clear hKK
      refine wpAnyZ_one (i := 11) rfl (by decide +kernel) (fun K hKK => ?_)
      go_simp
      refine (step54 gy F2 s0 a w7 V7.out.tw.n2 I0.out).mono ?_
      rw [hst.out]
      rintro e w8 ⟨rfl, T8⟩
      have V8 := Hd.mk (V7.out.snd T8 HB7.out.size)
      have HB8 := Hd.mk (HB7.out.trans (T8.2.below V7.out.tw.l2 HB7.out.size))
      clear T8 V7 HB7 V0
      clear hS
      have hS := HB8.out
      refine hKK.out _ _ (fun _ => hS) ?_
      clear hKK
      refine wpAnyZ_take0 (i := 12) (oi := ⟨_, _, _, _, _, _⟩) (v := ?_) rfl (by decide +kernel) (fun _ _ _ h => h) (Or.inl ⟨by rfl, ?_⟩) (fun _ => hS) ?_
      rotate_left
      focus (intro w _; go_simp; (try with_reducible rfl); done)
      simp only [Act.put, List.setIfInBounds_toArray, List.set_cons_zero, List.set_cons_succ]
      refine wpAnyZ_take0 (i := 13) (oi := ⟨_, _, _, _, _, _⟩) (v := ?_) rfl (by decide +kernel) (fun _ _ _ h => h) (Or.inl ⟨by rfl, ?_⟩) (fun _ => hS) ?_
      rotate_left
      focus (intro w _; go_simp; (try with_reducible rfl); done)
      simp only [Act.put, List.setIfInBounds_toArray, List.set_cons_zero, List.set_cons_succ]
      refine wpAnyZ_take0 (i := 14) (oi := ⟨_, _, _, _, _, _⟩) (v := ?_) rfl (by decide +kernel) (fun _ _ _ h => h) (Or.inl ⟨by rfl, ?_⟩) (fun _ => hS) ?_
      rotate_left
      focus (intro w _; go_simp; (try with_reducible rfl); done)
      simp only [Act.put, List.setIfInBounds_toArray, List.set_cons_zero, List.set_cons_succ]
      refine wpAnyZ_take0 (i := 17) (oi := ⟨_, _, _, _, _, _⟩) (v := ?_) rfl (by decide +kernel) (fun _ _ _ h => h) (Or.inl ⟨by rfl, ?_⟩) (fun _ => hS) ?_
      rotate_left
      focus (intro w _; go_simp; (try with_reducible rfl); done)
      simp only [Act.put, List.setIfInBounds_toArray, List.set_cons_zero, List.set_cons_succ]
      refine wpAnyZ_one (i := 15) rfl (by decide +kernel) (fun K hKK => ?_)
      go_simp
      refine (save44 gx _ s1 w8 V8.out.tw.n1 I1.out).mono ?_
      rintro e w9 ⟨Y1, y1n, y1c, rfl, o1, b9⟩
      have O1 := Hd.mk (Own.rd o1)
      have V9 := Hd.mk (V8.out.later b9)
      have HB9 := Hd.mk (HB8.out.trans (b9.mono HB8.out.size))
      clear o1 b9 V8 HB8 hS
      refine hKK.out _ _ (fun _ => HB9.out) ?_
      clear hKK
      refine wpAnyZ_weak (S' := fun w' => Below w9.heap.size w9 w') (fun w h => HB9.out.trans (h.mono HB9.out.size)) _ _ _ _ ?_
      have hS : Below w9.heap.size w9 w9 := Below.refl _ _
      refine wpAnyZ_take (i := 16) (oi := ⟨_, _, _, _, _, _⟩) (v := ?_) rfl (by decide +kernel) (fun _ _ _ h => h) (Or.inl ⟨by rfl, ?_⟩) hS ?_
      rotate_left
      focus (intro w hSw; (try dsimp only at hSw); have hstr := run_str8 (c := y1c) (Rd.below O1.out hSw); rw [hstr1.out] at hstr; clear hSw; go_simp; (try with_reducible rfl); done)
      simp only [Act.put, List.setIfInBounds_toArray, List.set_cons_zero, List.set_cons_succ]
      refine wpAnyZ_one (i := 18) rfl (by decide +kernel) (fun K hKK => ?_)
      go_simp
      refine (save44 gy _ s1 w9 V9.out.tw.n2 I1.out).mono ?_
      rintro e w10 ⟨Y2, y2n, y2c, rfl, o2, b10⟩
      have O2 := Hd.mk (Own.rd o2)
      have V10 := Hd.mk (V9.out.later b10)
      have HB10 := Hd.mk (HB9.out.trans (b10.mono HB9.out.size))
      have hb10 := Hd.mk b10
      clear o2 b10 V9 hS O1
      refine hKK.out _ _ (fun _ => hb10.out) ?_
      clear hKK
      refine wpAnyZ_weak (S' := fun w' => Below w10.heap.size w10 w') (fun w h => hb10.out.trans (h.mono hb10.out.size)) _ _ _ _ ?_
      have hS : Below w10.heap.size w10 w10 := Below.refl _ _
      refine wpAnyZ_take (i := 19) (oi := ⟨_, _, _, _, _, _⟩) (v := ?_) rfl (by decide +kernel) (fun _ _ _ h => h) (Or.inl ⟨by rfl, ?_⟩) hS ?_
      rotate_left
      focus (intro w hSw; (try dsimp only at hSw); have hstr := run_str8 (c := y2c) (Rd.below O2.out hSw); rw [hstr1.out] at hstr; clear hSw; go_simp; (try with_reducible rfl); done)
      simp only [Act.put, List.setIfInBounds_toArray, List.set_cons_zero, List.set_cons_succ]
      refine wpAnyZ_take0 (i := 20) (oi := ⟨_, _, _, _, _, _⟩) (v := ?_) rfl (by decide +kernel) (fun _ _ _ h => h) (Or.inl ⟨by rfl, ?_⟩) (fun _ => hS) ?_
      rotate_left
      focus (intro w _; go_simp; (try with_reducible rfl); done)
      simp only [Act.put, List.setIfInBounds_toArray, List.set_cons_zero, List.set_cons_succ]
      refine wpAnyZ_take0 (i := 21) (oi := ⟨_, _, _, _, _, _⟩) (v := ?_) rfl (by decide +kernel) (fun _ _ _ h => h) (Or.inl ⟨by rfl, ?_⟩) (fun _ => hS) ?_
      rotate_left
      focus (intro w _; go_simp; (try with_reducible rfl); done)
      simp only [Act.put, List.setIfInBounds_toArray, List.set_cons_zero, List.set_cons_succ]
      refine wpAnyZ_done (by decide +kernel) ?_
      clear hS O2 hb10 HB9
      go_wp2_with fail
      go_roundw
      case rel => exact ⟨k + 1, by go_num, by omega, by omega, ⟨s1, _, _, V10.out, I1.out⟩, HB10⟩
      case measure => simp [intOf]; omega
    · obtain ⟨s0, F1, F2, hV, -⟩ := hN.out
      have OB := Hd.mk (Own.rd hV.o)
      clear hV hN H6 HB6
      obtain ⟨t, ht⟩ : ∃ t, Hd (runN NS.new (l3.take 400) = t) := ⟨_, ⟨rfl⟩⟩
      have hJ : Hd (NInv t) := ⟨by rw [← ht.out]; exact NInv.new.run _⟩
      obtain ⟨W0, hW0⟩ : ∃ W0, W0 = wr := ⟨_, rfl⟩
      subst hW0
      rcases (show (¬ (k : Int) < (n2 : Int)) ∨ ((k : Int) < (n2 : Int) ∧ ¬ (k : Int) < 100) by omega) with hx | ⟨hx, hx1⟩
      all_goals
        go_wp2_with fail
        refine (run43 A3 n3 c3 l3 W0 (Rd.below h3 hb.out) hn3).mono ?_
        rw [ht.out]
        rintro e v1 ⟨gz, FZ, rfl, NZ, hFZ, d1⟩
        have HZ1 := Hd.mk NZ
        have HS1 := Hd.mk (Rd.below OB.out d1)
        have HB1 := Hd.mk (hb.out.trans (d1.mono hb.out.size))
        clear NZ hFZ d1 OB hb
        go_wp2_with fail
        refine (run43 A1 n1 c1 l1 v1 (Rd.below h1 HB1.out) hn1).mono ?_
        rw [hs.out]
        rintro e v2 ⟨gv, FV, rfl, NV, hFV, d2⟩
        have HX2 := Hd.mk NV
        have HZ2 := Hd.mk (HZ1.out.below d2)
        have HS2 := Hd.mk (Rd.below HS1.out d2)
        have HB2 := Hd.mk (HB1.out.trans (d2.mono HB1.out.size))
        clear NV hFV d2 HZ1 HS1 HB1
        go_wp2_with fail
        refine (now47 gv FV s v2 HX2.out).mono ?_
        obtain ⟨⟨px, py⟩, hp⟩ : ∃ p, Hd (s.told = p) := ⟨_, ⟨rfl⟩⟩
        obtain ⟨⟨qx, qy⟩, hq⟩ : ∃ q, Hd (t.told = q) := ⟨_, ⟨rfl⟩⟩
        rw [hp.out]
        rintro e v3 ⟨rfl, d3⟩
        unfold plV
        have hA3 := below_alloc v3 (.cells #[.int .i64 px, .int .i64 py] 58)
        have hx3 := Hd.mk (heap_alloc_new v3 (.cells #[.int .i64 px, .int .i64 py] 58))
        have d3' := d3.trans (hA3.mono d3.size)
        have HX3 := Hd.mk (HX2.out.below d3')
        have HZ3 := Hd.mk (HZ2.out.below d3')
        have HS3 := Hd.mk (Rd.below HS2.out d3')
        have HB3 := Hd.mk (HB2.out.trans (d3'.mono HB2.out.size))
        clear d3 d3' hA3 HX2 HZ2 HS2 HB2
        simp only
        go_wp2_with fail
        obtain ⟨V3, hV3⟩ : ∃ V3, Hd (v3.alloc (.cells #[.int .i64 px, .int .i64 py] 58) = V3) := ⟨_, ⟨rfl⟩⟩
        rw [hV3.out] at hx3 HX3 HZ3 HS3 HB3 ⊢
        obtain ⟨b1, hb1⟩ : ∃ b, Hd (v3.heap.size = b) := ⟨_, ⟨rfl⟩⟩
        rw [hb1.out] at hx3 ⊢
        clear hV3 hb1
        refine (now47 gz FZ t V3 HZ3.out).mono ?_
        rw [hq.out]
        rintro e v4 ⟨rfl, d4⟩
        unfold plV
        have hA4 := below_alloc v4 (.cells #[.int .i64 qx, .int .i64 qy] 58)
        have hx4 := Hd.mk (heap_alloc_new v4 (.cells #[.int .i64 qx, .int .i64 qy] 58))
        have d4' := d4.trans (hA4.mono d4.size)
        have hy4 := Hd.mk ((d4'.block b1 (Array.getElem?_eq_some_iff.1 hx3.out).1).trans hx3.out)
        have HX4 := Hd.mk (HX3.out.below d4')
        have HZ4 := Hd.mk (HZ3.out.below d4')
        have HS4 := Hd.mk (Rd.below HS3.out d4')
        have HB4 := Hd.mk (HB3.out.trans (d4'.mono HB3.out.size))
        clear d4 d4' hA4 HX3 HZ3 HS3 HB3 hx3
        simp only
        obtain ⟨strt, hstrt⟩ : ∃ str, Hd ((⟨t.save.toArray⟩ : ByteArray) = str) := ⟨_, ⟨rfl⟩⟩
        have hno : Hd (s ≠ t → (strt.toList == str.toList) = false) := ⟨fun e => by
          rw [← hstrt.out, ← hstr'.out, toList_mk, toList_mk, beq_eq_false_iff_ne]
          exact fun h => e (save_inj hJ.out hI.out h).symm⟩
        have hyes : Hd (s = t → (strt.toList == str.toList) = true) := ⟨fun e => by rw [← hstrt.out, ← hstr'.out, e]; simp⟩
        have hcase : (s.has ≠ t.has) ∨ (s.has = t.has ∧ ¬ qx = px) ∨ (s.has = t.has ∧ qx = px ∧ ¬ qy = py) ∨ (s.has = t.has ∧ (qx = px ∧ qy = py) ∧ s.bh ≠ t.bh) ∨ (s.has = t.has ∧ (qx = px ∧ qy = py) ∧ s.bh = t.bh ∧ s.ah ≠ t.ah) ∨
            (s.has = t.has ∧ (qx = px ∧ qy = py) ∧ s.bh = t.bh ∧ s.ah = t.ah ∧ s.mks ≠ t.mks) ∨ (s.has = t.has ∧ (qx = px ∧ qy = py) ∧ s.bh = t.bh ∧ s.ah = t.ah ∧ s.mks = t.mks) := by
          by_cases e1 : s.has = t.has
          · by_cases e2 : qx = px
            · by_cases e3 : qy = py
              · by_cases e4 : s.bh = t.bh
                · by_cases e5 : s.ah = t.ah
                  · by_cases e6 : s.mks = t.mks
                    · exact .inr (.inr (.inr (.inr (.inr (.inr ⟨e1, ⟨e2, e3⟩, e4, e5, e6⟩)))))
                    · exact .inr (.inr (.inr (.inr (.inr (.inl ⟨e1, ⟨e2, e3⟩, e4, e5, e6⟩)))))
                  · exact .inr (.inr (.inr (.inr (.inl ⟨e1, ⟨e2, e3⟩, e4, e5⟩))))
                · exact .inr (.inr (.inr (.inl ⟨e1, ⟨e2, e3⟩, e4⟩)))
              · exact .inr (.inr (.inl ⟨e1, e2, e3⟩))
            · exact .inr (.inl ⟨e1, e2⟩)
          · exact .inl e1
        obtain ⟨bx0, bx1⟩ := box_load hy4.out
        obtain ⟨bz0, bz1⟩ := box_load hx4.out
        clear hx4 hy4
        rcases hcase with e1 | ⟨e1, e2⟩ | ⟨e1, e2, e3⟩ | ⟨e1, e2, e4⟩ | ⟨e1, e2, e4, e5⟩ | ⟨e1, e2, e4, e5, e6⟩ | ⟨e1, e2, e4, e5, e6⟩
        · have hh : (s.has == t.has) = false := by simpa using e1
          have hsm := (hno.out (fun e => e1 (by rw [e])))
          clear e1
          go_wp2_with fail
          clear bx0 bx1 bz0 bz1 hh
          obtain ⟨V, hV⟩ : ∃ V, Hd (v4.alloc (.cells #[.int .i64 qx, .int .i64 qy] 58) = V) := ⟨_, ⟨rfl⟩⟩
          rw [hV.out] at HZ4 HS4 HB4 ⊢
          clear hV
          refine region_zone 9 [false, false, false, false, false, false, false, false, false] (by kernel_rfl) (by kernel_rfl) hmix (fun w' => Below V.heap.size V w') [] ?_ (fun hS => ?_)
          · exact below_drew V
          refine wpAnyZ_take0 (i := 0) (oi := ⟨_, _, _, _, _, _⟩) (v := ?_) rfl (by decide +kernel) (fun _ _ _ h => h) (Or.inl ⟨by rfl, ?_⟩) (fun _ => hS) ?_
          rotate_left
          focus (intro w _; go_simp; (try with_reducible rfl); done)
          simp only [Act.put, List.setIfInBounds_toArray, List.set_cons_zero, List.set_cons_succ]
          refine wpAnyZ_take0 (i := 1) (oi := ⟨_, _, _, _, _, _⟩) (v := ?_) rfl (by decide +kernel) (fun _ _ _ h => h) (Or.inl ⟨by rfl, ?_⟩) (fun _ => hS) ?_
          rotate_left
          focus (intro w _; go_simp; (try with_reducible rfl); done)
          simp only [Act.put, List.setIfInBounds_toArray, List.set_cons_zero, List.set_cons_succ]
          refine wpAnyZ_take0 (i := 4) (oi := ⟨_, _, _, _, _, _⟩) (v := ?_) rfl (by decide +kernel) (fun _ _ _ h => h) (Or.inl ⟨by rfl, ?_⟩) (fun _ => hS) ?_
          rotate_left
          focus (intro w _; go_simp; (try with_reducible rfl); done)
          simp only [Act.put, List.setIfInBounds_toArray, List.set_cons_zero, List.set_cons_succ]
          refine wpAnyZ_take (i := 5) (oi := ⟨_, _, _, _, _, _⟩) (v := ?_) rfl (by decide +kernel) (fun _ _ _ h => h) (Or.inl ⟨by rfl, ?_⟩) hS ?_
          rotate_left
          focus (intro w hSw; (try dsimp only at hSw); have hstr := run_str8 (c := sc) (Rd.below HS4.out hSw); rw [hstr'.out] at hstr; clear hSw; go_simp; (try with_reducible rfl); done)
          simp only [Act.put, List.setIfInBounds_toArray, List.set_cons_zero, List.set_cons_succ]
          refine wpAnyZ_one (i := 2) rfl (by decide +kernel) (fun K hKK => ?_)
          go_simp
          refine (save44 gz FZ t V.drew (HZ4.out.below (below_drew V)) hJ.out).mono ?_
          rintro e x1 ⟨Y3, y3n, y3c, rfl, o3, b3⟩
          have O3 := Hd.mk (Own.rd o3)
          have hb3 := Hd.mk ((below_drew V).trans b3)
          clear o3 b3 hS
          refine hKK.out _ _ (fun _ => hb3.out) ?_
          clear hKK
          refine wpAnyZ_weak (S' := fun w' => Below x1.heap.size x1 w') (fun w h => hb3.out.trans (h.mono hb3.out.size)) _ _ _ _ ?_
          have hS : Below x1.heap.size x1 x1 := Below.refl _ _
          refine wpAnyZ_take (i := 3) (oi := ⟨_, _, _, _, _, _⟩) (v := ?_) rfl (by decide +kernel) (fun _ _ _ h => h) (Or.inl ⟨by rfl, ?_⟩) hS ?_
          rotate_left
          focus (intro w hSw; (try dsimp only at hSw); have hstr := run_str8 (c := y3c) (Rd.below O3.out hSw); rw [hstrt.out] at hstr; clear hSw; go_simp; (try with_reducible rfl); done)
          simp only [Act.put, List.setIfInBounds_toArray, List.set_cons_zero, List.set_cons_succ]
          refine wpAnyZ_take0 (i := 6) (oi := ⟨_, _, _, _, _, _⟩) (v := ?_) rfl (by decide +kernel) (fun _ _ _ h => h) (Or.inl ⟨by rfl, ?_⟩) (fun _ => hS) ?_
          rotate_left
          focus (intro w _; go_simp; (try with_reducible rfl); done)
          simp only [Act.put, List.setIfInBounds_toArray, List.set_cons_zero, List.set_cons_succ]
          refine wpAnyZ_take0 (i := 7) (oi := ⟨_, _, _, _, _, _⟩) (v := ?_) rfl (by decide +kernel) (fun _ _ _ h => h) (Or.inl ⟨by rfl, ?_⟩) (fun _ => hS) ?_
          rotate_left
          focus (intro w _; go_simp; (try with_reducible rfl); done)
          simp only [Act.put, List.setIfInBounds_toArray, List.set_cons_zero, List.set_cons_succ]
          refine wpAnyZ_take0 (i := 8) (oi := ⟨_, _, _, _, _, _⟩) (v := ?_) rfl (by decide +kernel) (fun _ _ _ h => h) (Or.inl ⟨by rfl, ?_⟩) (fun _ => hS) ?_
          rotate_left
          focus (intro w _; go_simp; (try with_reducible rfl); done)
          simp only [Act.put, List.setIfInBounds_toArray, List.set_cons_zero, List.set_cons_succ]
          refine wpAnyZ_done (by decide +kernel) ?_
          go_wp2_with fail
          go_ret
          exact ⟨rfl, HB4.out.trans (hb3.out.mono HB4.out.size)⟩
        · have hh : (s.has == t.has) = true := by simpa using e1
          have hsm := (hno.out (fun e => e2 (by have := hp.out; rw [e, hq.out] at this; exact congrArg Prod.fst this)))
          clear e1
          go_wp2_with fail
          clear bx0 bx1 bz0 bz1 hh
          obtain ⟨V, hV⟩ : ∃ V, Hd (v4.alloc (.cells #[.int .i64 qx, .int .i64 qy] 58) = V) := ⟨_, ⟨rfl⟩⟩
          rw [hV.out] at HZ4 HS4 HB4 ⊢
          clear hV
          refine region_zone 9 [false, false, false, false, false, false, false, false, false] (by kernel_rfl) (by kernel_rfl) hmix (fun w' => Below V.heap.size V w') [] ?_ (fun hS => ?_)
          · exact below_drew V
          refine wpAnyZ_take0 (i := 0) (oi := ⟨_, _, _, _, _, _⟩) (v := ?_) rfl (by decide +kernel) (fun _ _ _ h => h) (Or.inl ⟨by rfl, ?_⟩) (fun _ => hS) ?_
          rotate_left
          focus (intro w _; go_simp; (try with_reducible rfl); done)
          simp only [Act.put, List.setIfInBounds_toArray, List.set_cons_zero, List.set_cons_succ]
          refine wpAnyZ_take0 (i := 1) (oi := ⟨_, _, _, _, _, _⟩) (v := ?_) rfl (by decide +kernel) (fun _ _ _ h => h) (Or.inl ⟨by rfl, ?_⟩) (fun _ => hS) ?_
          rotate_left
          focus (intro w _; go_simp; (try with_reducible rfl); done)
          simp only [Act.put, List.setIfInBounds_toArray, List.set_cons_zero, List.set_cons_succ]
          refine wpAnyZ_take0 (i := 4) (oi := ⟨_, _, _, _, _, _⟩) (v := ?_) rfl (by decide +kernel) (fun _ _ _ h => h) (Or.inl ⟨by rfl, ?_⟩) (fun _ => hS) ?_
          rotate_left
          focus (intro w _; go_simp; (try with_reducible rfl); done)
          simp only [Act.put, List.setIfInBounds_toArray, List.set_cons_zero, List.set_cons_succ]
          refine wpAnyZ_take (i := 5) (oi := ⟨_, _, _, _, _, _⟩) (v := ?_) rfl (by decide +kernel) (fun _ _ _ h => h) (Or.inl ⟨by rfl, ?_⟩) hS ?_
          rotate_left
          focus (intro w hSw; (try dsimp only at hSw); have hstr := run_str8 (c := sc) (Rd.below HS4.out hSw); rw [hstr'.out] at hstr; clear hSw; go_simp; (try with_reducible rfl); done)
          simp only [Act.put, List.setIfInBounds_toArray, List.set_cons_zero, List.set_cons_succ]
          refine wpAnyZ_one (i := 2) rfl (by decide +kernel) (fun K hKK => ?_)
          go_simp
          refine (save44 gz FZ t V.drew (HZ4.out.below (below_drew V)) hJ.out).mono ?_
          rintro e x1 ⟨Y3, y3n, y3c, rfl, o3, b3⟩
          have O3 := Hd.mk (Own.rd o3)
          have hb3 := Hd.mk ((below_drew V).trans b3)
          clear o3 b3 hS
          refine hKK.out _ _ (fun _ => hb3.out) ?_
          clear hKK
          refine wpAnyZ_weak (S' := fun w' => Below x1.heap.size x1 w') (fun w h => hb3.out.trans (h.mono hb3.out.size)) _ _ _ _ ?_
          have hS : Below x1.heap.size x1 x1 := Below.refl _ _
          refine wpAnyZ_take (i := 3) (oi := ⟨_, _, _, _, _, _⟩) (v := ?_) rfl (by decide +kernel) (fun _ _ _ h => h) (Or.inl ⟨by rfl, ?_⟩) hS ?_
          rotate_left
          focus (intro w hSw; (try dsimp only at hSw); have hstr := run_str8 (c := y3c) (Rd.below O3.out hSw); rw [hstrt.out] at hstr; clear hSw; go_simp; (try with_reducible rfl); done)
          simp only [Act.put, List.setIfInBounds_toArray, List.set_cons_zero, List.set_cons_succ]
          refine wpAnyZ_take0 (i := 6) (oi := ⟨_, _, _, _, _, _⟩) (v := ?_) rfl (by decide +kernel) (fun _ _ _ h => h) (Or.inl ⟨by rfl, ?_⟩) (fun _ => hS) ?_
          rotate_left
          focus (intro w _; go_simp; (try with_reducible rfl); done)
          simp only [Act.put, List.setIfInBounds_toArray, List.set_cons_zero, List.set_cons_succ]
          refine wpAnyZ_take0 (i := 7) (oi := ⟨_, _, _, _, _, _⟩) (v := ?_) rfl (by decide +kernel) (fun _ _ _ h => h) (Or.inl ⟨by rfl, ?_⟩) (fun _ => hS) ?_
          rotate_left
          focus (intro w _; go_simp; (try with_reducible rfl); done)
          simp only [Act.put, List.setIfInBounds_toArray, List.set_cons_zero, List.set_cons_succ]
          refine wpAnyZ_take0 (i := 8) (oi := ⟨_, _, _, _, _, _⟩) (v := ?_) rfl (by decide +kernel) (fun _ _ _ h => h) (Or.inl ⟨by rfl, ?_⟩) (fun _ => hS) ?_
          rotate_left
          focus (intro w _; go_simp; (try with_reducible rfl); done)
          simp only [Act.put, List.setIfInBounds_toArray, List.set_cons_zero, List.set_cons_succ]
          refine wpAnyZ_done (by decide +kernel) ?_
          go_wp2_with fail
          go_ret
          exact ⟨rfl, HB4.out.trans (hb3.out.mono HB4.out.size)⟩
        · have hh : (s.has == t.has) = true := by simpa using e1
          have hsm := (hno.out (fun e => e3 (by have := hp.out; rw [e, hq.out] at this; exact congrArg Prod.snd this)))
          subst e2
          clear e1
          go_wp2_with fail
          clear bx0 bx1 bz0 bz1 hh
          obtain ⟨V, hV⟩ : ∃ V, Hd (v4.alloc (.cells #[.int .i64 qx, .int .i64 qy] 58) = V) := ⟨_, ⟨rfl⟩⟩
          rw [hV.out] at HZ4 HS4 HB4 ⊢
          clear hV
          refine region_zone 9 [false, false, false, false, false, false, false, false, false] (by kernel_rfl) (by kernel_rfl) hmix (fun w' => Below V.heap.size V w') [] ?_ (fun hS => ?_)
          · exact below_drew V
          refine wpAnyZ_take0 (i := 0) (oi := ⟨_, _, _, _, _, _⟩) (v := ?_) rfl (by decide +kernel) (fun _ _ _ h => h) (Or.inl ⟨by rfl, ?_⟩) (fun _ => hS) ?_
          rotate_left
          focus (intro w _; go_simp; (try with_reducible rfl); done)
          simp only [Act.put, List.setIfInBounds_toArray, List.set_cons_zero, List.set_cons_succ]
          refine wpAnyZ_take0 (i := 1) (oi := ⟨_, _, _, _, _, _⟩) (v := ?_) rfl (by decide +kernel) (fun _ _ _ h => h) (Or.inl ⟨by rfl, ?_⟩) (fun _ => hS) ?_
          rotate_left
          focus (intro w _; go_simp; (try with_reducible rfl); done)
          simp only [Act.put, List.setIfInBounds_toArray, List.set_cons_zero, List.set_cons_succ]
          refine wpAnyZ_take0 (i := 4) (oi := ⟨_, _, _, _, _, _⟩) (v := ?_) rfl (by decide +kernel) (fun _ _ _ h => h) (Or.inl ⟨by rfl, ?_⟩) (fun _ => hS) ?_
          rotate_left
          focus (intro w _; go_simp; (try with_reducible rfl); done)
          simp only [Act.put, List.setIfInBounds_toArray, List.set_cons_zero, List.set_cons_succ]
          refine wpAnyZ_take (i := 5) (oi := ⟨_, _, _, _, _, _⟩) (v := ?_) rfl (by decide +kernel) (fun _ _ _ h => h) (Or.inl ⟨by rfl, ?_⟩) hS ?_
          rotate_left
          focus (intro w hSw; (try dsimp only at hSw); have hstr := run_str8 (c := sc) (Rd.below HS4.out hSw); rw [hstr'.out] at hstr; clear hSw; go_simp; (try with_reducible rfl); done)
          simp only [Act.put, List.setIfInBounds_toArray, List.set_cons_zero, List.set_cons_succ]
          refine wpAnyZ_one (i := 2) rfl (by decide +kernel) (fun K hKK => ?_)
          go_simp
          refine (save44 gz FZ t V.drew (HZ4.out.below (below_drew V)) hJ.out).mono ?_
          rintro e x1 ⟨Y3, y3n, y3c, rfl, o3, b3⟩
          have O3 := Hd.mk (Own.rd o3)
          have hb3 := Hd.mk ((below_drew V).trans b3)
          clear o3 b3 hS
          refine hKK.out _ _ (fun _ => hb3.out) ?_
          clear hKK
          refine wpAnyZ_weak (S' := fun w' => Below x1.heap.size x1 w') (fun w h => hb3.out.trans (h.mono hb3.out.size)) _ _ _ _ ?_
          have hS : Below x1.heap.size x1 x1 := Below.refl _ _
          refine wpAnyZ_take (i := 3) (oi := ⟨_, _, _, _, _, _⟩) (v := ?_) rfl (by decide +kernel) (fun _ _ _ h => h) (Or.inl ⟨by rfl, ?_⟩) hS ?_
          rotate_left
          focus (intro w hSw; (try dsimp only at hSw); have hstr := run_str8 (c := y3c) (Rd.below O3.out hSw); rw [hstrt.out] at hstr; clear hSw; go_simp; (try with_reducible rfl); done)
          simp only [Act.put, List.setIfInBounds_toArray, List.set_cons_zero, List.set_cons_succ]
          refine wpAnyZ_take0 (i := 6) (oi := ⟨_, _, _, _, _, _⟩) (v := ?_) rfl (by decide +kernel) (fun _ _ _ h => h) (Or.inl ⟨by rfl, ?_⟩) (fun _ => hS) ?_
          rotate_left
          focus (intro w _; go_simp; (try with_reducible rfl); done)
          simp only [Act.put, List.setIfInBounds_toArray, List.set_cons_zero, List.set_cons_succ]
          refine wpAnyZ_take0 (i := 7) (oi := ⟨_, _, _, _, _, _⟩) (v := ?_) rfl (by decide +kernel) (fun _ _ _ h => h) (Or.inl ⟨by rfl, ?_⟩) (fun _ => hS) ?_
          rotate_left
          focus (intro w _; go_simp; (try with_reducible rfl); done)
          simp only [Act.put, List.setIfInBounds_toArray, List.set_cons_zero, List.set_cons_succ]
          refine wpAnyZ_take0 (i := 8) (oi := ⟨_, _, _, _, _, _⟩) (v := ?_) rfl (by decide +kernel) (fun _ _ _ h => h) (Or.inl ⟨by rfl, ?_⟩) (fun _ => hS) ?_
          rotate_left
          focus (intro w _; go_simp; (try with_reducible rfl); done)
          simp only [Act.put, List.setIfInBounds_toArray, List.set_cons_zero, List.set_cons_succ]
          refine wpAnyZ_done (by decide +kernel) ?_
          go_wp2_with fail
          go_ret
          exact ⟨rfl, HB4.out.trans (hb3.out.mono HB4.out.size)⟩
        · have hh : (s.has == t.has) = true := by simpa using e1
          have hsm := (hno.out (fun e => e4 (by rw [e])))
          obtain ⟨e2, e3⟩ := e2
          subst e2
          subst e3
          clear e1
          go_wp2_with fail
          clear bx0 bx1 bz0 bz1 hh
          refine (behind51 gv FV s _ HX4.out (by have := hI.out.small; omega)).mono ?_
          rintro e v10 ⟨P10, pn10, pc10, rfl, op10, d10⟩
          have ol10 := OwnP.len op10
          have HX10 := Hd.mk (HX4.out.below d10)
          have HZ10 := Hd.mk (HZ4.out.below d10)
          have HS10 := Hd.mk (Rd.below HS4.out d10)
          have HB10 := Hd.mk (HB4.out.trans (d10.mono HB4.out.size))
          have op10' := Hd.mk (Own.rd op10)
          have on10 : pn10 ≤ 1000000 := by have := hI.out.small; omega
          clear d10 op10 ol10 HX4 HZ4 HS4 HB4
          go_wp2_with fail
          refine (behind51 gz FZ t v10 HZ10.out (by have := hJ.out.small; omega)).mono ?_
          rintro e v11 ⟨P11, pn11, pc11, rfl, op11, d11⟩
          have HX11 := Hd.mk (HX10.out.below d11)
          have HZ11 := Hd.mk (HZ10.out.below d11)
          have HS11 := Hd.mk (Rd.below HS10.out d11)
          have HB11 := Hd.mk (HB10.out.trans (d11.mono HB10.out.size))
          have op11' := Hd.mk (Own.rd op11)
          have oq11 := Hd.mk (Rd.below op10'.out d11)
          clear d11 op11 op10' HX10 HZ10 HS10 HB10
          go_wp2_with fail
          refine (same55 P10 P11 pn10 pc10 pn11 pc11 _ _ v11 oq11.out op11'.out on10).mono ?_
          rw [show decide (s.bh = t.bh) = false from by exact decide_eq_false e4]
          rintro e v12 ⟨rfl, d12⟩
          have HX12 := Hd.mk (HX11.out.below d12)
          have HZ12 := Hd.mk (HZ11.out.below d12)
          have HS12 := Hd.mk (Rd.below HS11.out d12)
          have HB12 := Hd.mk (HB11.out.trans (d12.mono HB11.out.size))
          clear d12 op11' oq11 on10 HX11 HZ11 HS11 HB11
          go_wp2_with fail
          obtain ⟨V, hV⟩ : ∃ V, Hd (v12 = V) := ⟨_, ⟨rfl⟩⟩
          rw [hV.out] at HZ12 HS12 HB12 ⊢
          clear hV
          refine region_zone 9 [false, false, false, false, false, false, false, false, false] (by kernel_rfl) (by kernel_rfl) hmix (fun w' => Below V.heap.size V w') [] ?_ (fun hS => ?_)
          · exact below_drew V
          refine wpAnyZ_take0 (i := 0) (oi := ⟨_, _, _, _, _, _⟩) (v := ?_) rfl (by decide +kernel) (fun _ _ _ h => h) (Or.inl ⟨by rfl, ?_⟩) (fun _ => hS) ?_
          rotate_left
          focus (intro w _; go_simp; (try with_reducible rfl); done)
          simp only [Act.put, List.setIfInBounds_toArray, List.set_cons_zero, List.set_cons_succ]
          refine wpAnyZ_take0 (i := 1) (oi := ⟨_, _, _, _, _, _⟩) (v := ?_) rfl (by decide +kernel) (fun _ _ _ h => h) (Or.inl ⟨by rfl, ?_⟩) (fun _ => hS) ?_
          rotate_left
          focus (intro w _; go_simp; (try with_reducible rfl); done)
          simp only [Act.put, List.setIfInBounds_toArray, List.set_cons_zero, List.set_cons_succ]
          refine wpAnyZ_take0 (i := 4) (oi := ⟨_, _, _, _, _, _⟩) (v := ?_) rfl (by decide +kernel) (fun _ _ _ h => h) (Or.inl ⟨by rfl, ?_⟩) (fun _ => hS) ?_
          rotate_left
          focus (intro w _; go_simp; (try with_reducible rfl); done)
          simp only [Act.put, List.setIfInBounds_toArray, List.set_cons_zero, List.set_cons_succ]
          refine wpAnyZ_take (i := 5) (oi := ⟨_, _, _, _, _, _⟩) (v := ?_) rfl (by decide +kernel) (fun _ _ _ h => h) (Or.inl ⟨by rfl, ?_⟩) hS ?_
          rotate_left
          focus (intro w hSw; (try dsimp only at hSw); have hstr := run_str8 (c := sc) (Rd.below HS12.out hSw); rw [hstr'.out] at hstr; clear hSw; go_simp; (try with_reducible rfl); done)
          simp only [Act.put, List.setIfInBounds_toArray, List.set_cons_zero, List.set_cons_succ]
          refine wpAnyZ_one (i := 2) rfl (by decide +kernel) (fun K hKK => ?_)
          go_simp
          refine (save44 gz FZ t V.drew (HZ12.out.below (below_drew V)) hJ.out).mono ?_
          rintro e x1 ⟨Y3, y3n, y3c, rfl, o3, b3⟩
          have O3 := Hd.mk (Own.rd o3)
          have hb3 := Hd.mk ((below_drew V).trans b3)
          clear o3 b3 hS
          refine hKK.out _ _ (fun _ => hb3.out) ?_
          clear hKK
          refine wpAnyZ_weak (S' := fun w' => Below x1.heap.size x1 w') (fun w h => hb3.out.trans (h.mono hb3.out.size)) _ _ _ _ ?_
          have hS : Below x1.heap.size x1 x1 := Below.refl _ _
          refine wpAnyZ_take (i := 3) (oi := ⟨_, _, _, _, _, _⟩) (v := ?_) rfl (by decide +kernel) (fun _ _ _ h => h) (Or.inl ⟨by rfl, ?_⟩) hS ?_
          rotate_left
          focus (intro w hSw; (try dsimp only at hSw); have hstr := run_str8 (c := y3c) (Rd.below O3.out hSw); rw [hstrt.out] at hstr; clear hSw; go_simp; (try with_reducible rfl); done)
          simp only [Act.put, List.setIfInBounds_toArray, List.set_cons_zero, List.set_cons_succ]
          refine wpAnyZ_take0 (i := 6) (oi := ⟨_, _, _, _, _, _⟩) (v := ?_) rfl (by decide +kernel) (fun _ _ _ h => h) (Or.inl ⟨by rfl, ?_⟩) (fun _ => hS) ?_
          rotate_left
          focus (intro w _; go_simp; (try with_reducible rfl); done)
          simp only [Act.put, List.setIfInBounds_toArray, List.set_cons_zero, List.set_cons_succ]
          refine wpAnyZ_take0 (i := 7) (oi := ⟨_, _, _, _, _, _⟩) (v := ?_) rfl (by decide +kernel) (fun _ _ _ h => h) (Or.inl ⟨by rfl, ?_⟩) (fun _ => hS) ?_
          rotate_left
          focus (intro w _; go_simp; (try with_reducible rfl); done)
          simp only [Act.put, List.setIfInBounds_toArray, List.set_cons_zero, List.set_cons_succ]
          refine wpAnyZ_take0 (i := 8) (oi := ⟨_, _, _, _, _, _⟩) (v := ?_) rfl (by decide +kernel) (fun _ _ _ h => h) (Or.inl ⟨by rfl, ?_⟩) (fun _ => hS) ?_
          rotate_left
          focus (intro w _; go_simp; (try with_reducible rfl); done)
          simp only [Act.put, List.setIfInBounds_toArray, List.set_cons_zero, List.set_cons_succ]
          refine wpAnyZ_done (by decide +kernel) ?_
          go_wp2_with fail
          go_ret
          exact ⟨rfl, HB12.out.trans (hb3.out.mono HB12.out.size)⟩
        · have hh : (s.has == t.has) = true := by simpa using e1
          have hsm := (hno.out (fun e => e5 (by rw [e])))
          obtain ⟨e2, e3⟩ := e2
          subst e2
          subst e3
          clear e1
          go_wp2_with fail
          clear bx0 bx1 bz0 bz1 hh
          refine (behind51 gv FV s _ HX4.out (by have := hI.out.small; omega)).mono ?_
          rintro e v10 ⟨P10, pn10, pc10, rfl, op10, d10⟩
          have ol10 := OwnP.len op10
          have HX10 := Hd.mk (HX4.out.below d10)
          have HZ10 := Hd.mk (HZ4.out.below d10)
          have HS10 := Hd.mk (Rd.below HS4.out d10)
          have HB10 := Hd.mk (HB4.out.trans (d10.mono HB4.out.size))
          have op10' := Hd.mk (Own.rd op10)
          have on10 : pn10 ≤ 1000000 := by have := hI.out.small; omega
          clear d10 op10 ol10 HX4 HZ4 HS4 HB4
          go_wp2_with fail
          refine (behind51 gz FZ t v10 HZ10.out (by have := hJ.out.small; omega)).mono ?_
          rintro e v11 ⟨P11, pn11, pc11, rfl, op11, d11⟩
          have HX11 := Hd.mk (HX10.out.below d11)
          have HZ11 := Hd.mk (HZ10.out.below d11)
          have HS11 := Hd.mk (Rd.below HS10.out d11)
          have HB11 := Hd.mk (HB10.out.trans (d11.mono HB10.out.size))
          have op11' := Hd.mk (Own.rd op11)
          have oq11 := Hd.mk (Rd.below op10'.out d11)
          clear d11 op11 op10' HX10 HZ10 HS10 HB10
          go_wp2_with fail
          refine (same55 P10 P11 pn10 pc10 pn11 pc11 _ _ v11 oq11.out op11'.out on10).mono ?_
          rw [show decide (s.bh = t.bh) = true from by exact decide_eq_true e4]
          rintro e v12 ⟨rfl, d12⟩
          have HX12 := Hd.mk (HX11.out.below d12)
          have HZ12 := Hd.mk (HZ11.out.below d12)
          have HS12 := Hd.mk (Rd.below HS11.out d12)
          have HB12 := Hd.mk (HB11.out.trans (d12.mono HB11.out.size))
          clear d12 op11' oq11 on10 HX11 HZ11 HS11 HB11
          go_wp2_with fail
          refine (ahead49 gv FV s _ HX12.out (by have := hI.out.small; omega)).mono ?_
          rintro e v13 ⟨P13, pn13, pc13, rfl, op13, d13⟩
          have ol13 := OwnP.len op13
          have HX13 := Hd.mk (HX12.out.below d13)
          have HZ13 := Hd.mk (HZ12.out.below d13)
          have HS13 := Hd.mk (Rd.below HS12.out d13)
          have HB13 := Hd.mk (HB12.out.trans (d13.mono HB12.out.size))
          have op13' := Hd.mk (Own.rd op13)
          have on13 : pn13 ≤ 1000000 := by have := hI.out.small; omega
          clear d13 op13 ol13 HX12 HZ12 HS12 HB12
          go_wp2_with fail
          refine (ahead49 gz FZ t v13 HZ13.out (by have := hJ.out.small; omega)).mono ?_
          rintro e v14 ⟨P14, pn14, pc14, rfl, op14, d14⟩
          have HX14 := Hd.mk (HX13.out.below d14)
          have HZ14 := Hd.mk (HZ13.out.below d14)
          have HS14 := Hd.mk (Rd.below HS13.out d14)
          have HB14 := Hd.mk (HB13.out.trans (d14.mono HB13.out.size))
          have op14' := Hd.mk (Own.rd op14)
          have oq14 := Hd.mk (Rd.below op13'.out d14)
          clear d14 op14 op13' HX13 HZ13 HS13 HB13
          go_wp2_with fail
          refine (same55 P13 P14 pn13 pc13 pn14 pc14 _ _ v14 oq14.out op14'.out on13).mono ?_
          rw [show decide (s.ah = t.ah) = false from by exact decide_eq_false e5]
          rintro e v15 ⟨rfl, d15⟩
          have HX15 := Hd.mk (HX14.out.below d15)
          have HZ15 := Hd.mk (HZ14.out.below d15)
          have HS15 := Hd.mk (Rd.below HS14.out d15)
          have HB15 := Hd.mk (HB14.out.trans (d15.mono HB14.out.size))
          clear d15 op14' oq14 on13 HX14 HZ14 HS14 HB14
          go_wp2_with fail
          obtain ⟨V, hV⟩ : ∃ V, Hd (v15 = V) := ⟨_, ⟨rfl⟩⟩
          rw [hV.out] at HZ15 HS15 HB15 ⊢
          clear hV
          refine region_zone 9 [false, false, false, false, false, false, false, false, false] (by kernel_rfl) (by kernel_rfl) hmix (fun w' => Below V.heap.size V w') [] ?_ (fun hS => ?_)
          · exact below_drew V
          refine wpAnyZ_take0 (i := 0) (oi := ⟨_, _, _, _, _, _⟩) (v := ?_) rfl (by decide +kernel) (fun _ _ _ h => h) (Or.inl ⟨by rfl, ?_⟩) (fun _ => hS) ?_
          rotate_left
          focus (intro w _; go_simp; (try with_reducible rfl); done)
          simp only [Act.put, List.setIfInBounds_toArray, List.set_cons_zero, List.set_cons_succ]
          refine wpAnyZ_take0 (i := 1) (oi := ⟨_, _, _, _, _, _⟩) (v := ?_) rfl (by decide +kernel) (fun _ _ _ h => h) (Or.inl ⟨by rfl, ?_⟩) (fun _ => hS) ?_
          rotate_left
          focus (intro w _; go_simp; (try with_reducible rfl); done)
          simp only [Act.put, List.setIfInBounds_toArray, List.set_cons_zero, List.set_cons_succ]
          refine wpAnyZ_take0 (i := 4) (oi := ⟨_, _, _, _, _, _⟩) (v := ?_) rfl (by decide +kernel) (fun _ _ _ h => h) (Or.inl ⟨by rfl, ?_⟩) (fun _ => hS) ?_
          rotate_left
          focus (intro w _; go_simp; (try with_reducible rfl); done)
          simp only [Act.put, List.setIfInBounds_toArray, List.set_cons_zero, List.set_cons_succ]
          refine wpAnyZ_take (i := 5) (oi := ⟨_, _, _, _, _, _⟩) (v := ?_) rfl (by decide +kernel) (fun _ _ _ h => h) (Or.inl ⟨by rfl, ?_⟩) hS ?_
          rotate_left
          focus (intro w hSw; (try dsimp only at hSw); have hstr := run_str8 (c := sc) (Rd.below HS15.out hSw); rw [hstr'.out] at hstr; clear hSw; go_simp; (try with_reducible rfl); done)
          simp only [Act.put, List.setIfInBounds_toArray, List.set_cons_zero, List.set_cons_succ]
          refine wpAnyZ_one (i := 2) rfl (by decide +kernel) (fun K hKK => ?_)
          go_simp
          refine (save44 gz FZ t V.drew (HZ15.out.below (below_drew V)) hJ.out).mono ?_
          rintro e x1 ⟨Y3, y3n, y3c, rfl, o3, b3⟩
          have O3 := Hd.mk (Own.rd o3)
          have hb3 := Hd.mk ((below_drew V).trans b3)
          clear o3 b3 hS
          refine hKK.out _ _ (fun _ => hb3.out) ?_
          clear hKK
          refine wpAnyZ_weak (S' := fun w' => Below x1.heap.size x1 w') (fun w h => hb3.out.trans (h.mono hb3.out.size)) _ _ _ _ ?_
          have hS : Below x1.heap.size x1 x1 := Below.refl _ _
          refine wpAnyZ_take (i := 3) (oi := ⟨_, _, _, _, _, _⟩) (v := ?_) rfl (by decide +kernel) (fun _ _ _ h => h) (Or.inl ⟨by rfl, ?_⟩) hS ?_
          rotate_left
          focus (intro w hSw; (try dsimp only at hSw); have hstr := run_str8 (c := y3c) (Rd.below O3.out hSw); rw [hstrt.out] at hstr; clear hSw; go_simp; (try with_reducible rfl); done)
          simp only [Act.put, List.setIfInBounds_toArray, List.set_cons_zero, List.set_cons_succ]
          refine wpAnyZ_take0 (i := 6) (oi := ⟨_, _, _, _, _, _⟩) (v := ?_) rfl (by decide +kernel) (fun _ _ _ h => h) (Or.inl ⟨by rfl, ?_⟩) (fun _ => hS) ?_
          rotate_left
          focus (intro w _; go_simp; (try with_reducible rfl); done)
          simp only [Act.put, List.setIfInBounds_toArray, List.set_cons_zero, List.set_cons_succ]
          refine wpAnyZ_take0 (i := 7) (oi := ⟨_, _, _, _, _, _⟩) (v := ?_) rfl (by decide +kernel) (fun _ _ _ h => h) (Or.inl ⟨by rfl, ?_⟩) (fun _ => hS) ?_
          rotate_left
          focus (intro w _; go_simp; (try with_reducible rfl); done)
          simp only [Act.put, List.setIfInBounds_toArray, List.set_cons_zero, List.set_cons_succ]
          refine wpAnyZ_take0 (i := 8) (oi := ⟨_, _, _, _, _, _⟩) (v := ?_) rfl (by decide +kernel) (fun _ _ _ h => h) (Or.inl ⟨by rfl, ?_⟩) (fun _ => hS) ?_
          rotate_left
          focus (intro w _; go_simp; (try with_reducible rfl); done)
          simp only [Act.put, List.setIfInBounds_toArray, List.set_cons_zero, List.set_cons_succ]
          refine wpAnyZ_done (by decide +kernel) ?_
          go_wp2_with fail
          go_ret
          exact ⟨rfl, HB15.out.trans (hb3.out.mono HB15.out.size)⟩
        · have hh : (s.has == t.has) = true := by simpa using e1
          have hsm := (hno.out (fun e => e6 (by rw [e])))
          obtain ⟨e2, e3⟩ := e2
          subst e2
          subst e3
          clear e1
          go_wp2_with fail
          clear bx0 bx1 bz0 bz1 hh
          refine (behind51 gv FV s _ HX4.out (by have := hI.out.small; omega)).mono ?_
          rintro e v10 ⟨P10, pn10, pc10, rfl, op10, d10⟩
          have ol10 := OwnP.len op10
          have HX10 := Hd.mk (HX4.out.below d10)
          have HZ10 := Hd.mk (HZ4.out.below d10)
          have HS10 := Hd.mk (Rd.below HS4.out d10)
          have HB10 := Hd.mk (HB4.out.trans (d10.mono HB4.out.size))
          have op10' := Hd.mk (Own.rd op10)
          have on10 : pn10 ≤ 1000000 := by have := hI.out.small; omega
          clear d10 op10 ol10 HX4 HZ4 HS4 HB4
          go_wp2_with fail
          refine (behind51 gz FZ t v10 HZ10.out (by have := hJ.out.small; omega)).mono ?_
          rintro e v11 ⟨P11, pn11, pc11, rfl, op11, d11⟩
          have HX11 := Hd.mk (HX10.out.below d11)
          have HZ11 := Hd.mk (HZ10.out.below d11)
          have HS11 := Hd.mk (Rd.below HS10.out d11)
          have HB11 := Hd.mk (HB10.out.trans (d11.mono HB10.out.size))
          have op11' := Hd.mk (Own.rd op11)
          have oq11 := Hd.mk (Rd.below op10'.out d11)
          clear d11 op11 op10' HX10 HZ10 HS10 HB10
          go_wp2_with fail
          refine (same55 P10 P11 pn10 pc10 pn11 pc11 _ _ v11 oq11.out op11'.out on10).mono ?_
          rw [show decide (s.bh = t.bh) = true from by exact decide_eq_true e4]
          rintro e v12 ⟨rfl, d12⟩
          have HX12 := Hd.mk (HX11.out.below d12)
          have HZ12 := Hd.mk (HZ11.out.below d12)
          have HS12 := Hd.mk (Rd.below HS11.out d12)
          have HB12 := Hd.mk (HB11.out.trans (d12.mono HB11.out.size))
          clear d12 op11' oq11 on10 HX11 HZ11 HS11 HB11
          go_wp2_with fail
          refine (ahead49 gv FV s _ HX12.out (by have := hI.out.small; omega)).mono ?_
          rintro e v13 ⟨P13, pn13, pc13, rfl, op13, d13⟩
          have ol13 := OwnP.len op13
          have HX13 := Hd.mk (HX12.out.below d13)
          have HZ13 := Hd.mk (HZ12.out.below d13)
          have HS13 := Hd.mk (Rd.below HS12.out d13)
          have HB13 := Hd.mk (HB12.out.trans (d13.mono HB12.out.size))
          have op13' := Hd.mk (Own.rd op13)
          have on13 : pn13 ≤ 1000000 := by have := hI.out.small; omega
          clear d13 op13 ol13 HX12 HZ12 HS12 HB12
          go_wp2_with fail
          refine (ahead49 gz FZ t v13 HZ13.out (by have := hJ.out.small; omega)).mono ?_
          rintro e v14 ⟨P14, pn14, pc14, rfl, op14, d14⟩
          have HX14 := Hd.mk (HX13.out.below d14)
          have HZ14 := Hd.mk (HZ13.out.below d14)
          have HS14 := Hd.mk (Rd.below HS13.out d14)
          have HB14 := Hd.mk (HB13.out.trans (d14.mono HB13.out.size))
          have op14' := Hd.mk (Own.rd op14)
          have oq14 := Hd.mk (Rd.below op13'.out d14)
          clear d14 op14 op13' HX13 HZ13 HS13 HB13
          go_wp2_with fail
          refine (same55 P13 P14 pn13 pc13 pn14 pc14 _ _ v14 oq14.out op14'.out on13).mono ?_
          rw [show decide (s.ah = t.ah) = true from by exact decide_eq_true e5]
          rintro e v15 ⟨rfl, d15⟩
          have HX15 := Hd.mk (HX14.out.below d15)
          have HZ15 := Hd.mk (HZ14.out.below d15)
          have HS15 := Hd.mk (Rd.below HS14.out d15)
          have HB15 := Hd.mk (HB14.out.trans (d15.mono HB14.out.size))
          clear d15 op14' oq14 on13 HX14 HZ14 HS14 HB14
          go_wp2_with fail
          refine (marks53 gv FV s _ HX15.out (by have := hI.out.small; omega)).mono ?_
          rintro e v16 ⟨P16, pn16, pc16, rfl, op16, d16⟩
          have ol16 := OwnP.len op16
          have HX16 := Hd.mk (HX15.out.below d16)
          have HZ16 := Hd.mk (HZ15.out.below d16)
          have HS16 := Hd.mk (Rd.below HS15.out d16)
          have HB16 := Hd.mk (HB15.out.trans (d16.mono HB15.out.size))
          have op16' := Hd.mk (Own.rd op16)
          have on16 : pn16 ≤ 1000000 := by have := hI.out.small; omega
          clear d16 op16 ol16 HX15 HZ15 HS15 HB15
          go_wp2_with fail
          refine (marks53 gz FZ t v16 HZ16.out (by have := hJ.out.small; omega)).mono ?_
          rintro e v17 ⟨P17, pn17, pc17, rfl, op17, d17⟩
          have HX17 := Hd.mk (HX16.out.below d17)
          have HZ17 := Hd.mk (HZ16.out.below d17)
          have HS17 := Hd.mk (Rd.below HS16.out d17)
          have HB17 := Hd.mk (HB16.out.trans (d17.mono HB16.out.size))
          have op17' := Hd.mk (Own.rd op17)
          have oq17 := Hd.mk (Rd.below op16'.out d17)
          clear d17 op17 op16' HX16 HZ16 HS16 HB16
          go_wp2_with fail
          refine (same55 P16 P17 pn16 pc16 pn17 pc17 _ _ v17 oq17.out op17'.out on16).mono ?_
          rw [show decide (s.mks = t.mks) = false from by exact decide_eq_false e6]
          rintro e v18 ⟨rfl, d18⟩
          have HX18 := Hd.mk (HX17.out.below d18)
          have HZ18 := Hd.mk (HZ17.out.below d18)
          have HS18 := Hd.mk (Rd.below HS17.out d18)
          have HB18 := Hd.mk (HB17.out.trans (d18.mono HB17.out.size))
          clear d18 op17' oq17 on16 HX17 HZ17 HS17 HB17
          go_wp2_with fail
          obtain ⟨V, hV⟩ : ∃ V, Hd (v18 = V) := ⟨_, ⟨rfl⟩⟩
          rw [hV.out] at HZ18 HS18 HB18 ⊢
          clear hV
          refine region_zone 9 [false, false, false, false, false, false, false, false, false] (by kernel_rfl) (by kernel_rfl) hmix (fun w' => Below V.heap.size V w') [] ?_ (fun hS => ?_)
          · exact below_drew V
          refine wpAnyZ_take0 (i := 0) (oi := ⟨_, _, _, _, _, _⟩) (v := ?_) rfl (by decide +kernel) (fun _ _ _ h => h) (Or.inl ⟨by rfl, ?_⟩) (fun _ => hS) ?_
          rotate_left
          focus (intro w _; go_simp; (try with_reducible rfl); done)
          simp only [Act.put, List.setIfInBounds_toArray, List.set_cons_zero, List.set_cons_succ]
          refine wpAnyZ_take0 (i := 1) (oi := ⟨_, _, _, _, _, _⟩) (v := ?_) rfl (by decide +kernel) (fun _ _ _ h => h) (Or.inl ⟨by rfl, ?_⟩) (fun _ => hS) ?_
          rotate_left
          focus (intro w _; go_simp; (try with_reducible rfl); done)
          simp only [Act.put, List.setIfInBounds_toArray, List.set_cons_zero, List.set_cons_succ]
          refine wpAnyZ_take0 (i := 4) (oi := ⟨_, _, _, _, _, _⟩) (v := ?_) rfl (by decide +kernel) (fun _ _ _ h => h) (Or.inl ⟨by rfl, ?_⟩) (fun _ => hS) ?_
          rotate_left
          focus (intro w _; go_simp; (try with_reducible rfl); done)
          simp only [Act.put, List.setIfInBounds_toArray, List.set_cons_zero, List.set_cons_succ]
          refine wpAnyZ_take (i := 5) (oi := ⟨_, _, _, _, _, _⟩) (v := ?_) rfl (by decide +kernel) (fun _ _ _ h => h) (Or.inl ⟨by rfl, ?_⟩) hS ?_
          rotate_left
          focus (intro w hSw; (try dsimp only at hSw); have hstr := run_str8 (c := sc) (Rd.below HS18.out hSw); rw [hstr'.out] at hstr; clear hSw; go_simp; (try with_reducible rfl); done)
          simp only [Act.put, List.setIfInBounds_toArray, List.set_cons_zero, List.set_cons_succ]
          refine wpAnyZ_one (i := 2) rfl (by decide +kernel) (fun K hKK => ?_)
          go_simp
          refine (save44 gz FZ t V.drew (HZ18.out.below (below_drew V)) hJ.out).mono ?_
          rintro e x1 ⟨Y3, y3n, y3c, rfl, o3, b3⟩
          have O3 := Hd.mk (Own.rd o3)
          have hb3 := Hd.mk ((below_drew V).trans b3)
          clear o3 b3 hS
          refine hKK.out _ _ (fun _ => hb3.out) ?_
          clear hKK
          refine wpAnyZ_weak (S' := fun w' => Below x1.heap.size x1 w') (fun w h => hb3.out.trans (h.mono hb3.out.size)) _ _ _ _ ?_
          have hS : Below x1.heap.size x1 x1 := Below.refl _ _
          refine wpAnyZ_take (i := 3) (oi := ⟨_, _, _, _, _, _⟩) (v := ?_) rfl (by decide +kernel) (fun _ _ _ h => h) (Or.inl ⟨by rfl, ?_⟩) hS ?_
          rotate_left
          focus (intro w hSw; (try dsimp only at hSw); have hstr := run_str8 (c := y3c) (Rd.below O3.out hSw); rw [hstrt.out] at hstr; clear hSw; go_simp; (try with_reducible rfl); done)
          simp only [Act.put, List.setIfInBounds_toArray, List.set_cons_zero, List.set_cons_succ]
          refine wpAnyZ_take0 (i := 6) (oi := ⟨_, _, _, _, _, _⟩) (v := ?_) rfl (by decide +kernel) (fun _ _ _ h => h) (Or.inl ⟨by rfl, ?_⟩) (fun _ => hS) ?_
          rotate_left
          focus (intro w _; go_simp; (try with_reducible rfl); done)
          simp only [Act.put, List.setIfInBounds_toArray, List.set_cons_zero, List.set_cons_succ]
          refine wpAnyZ_take0 (i := 7) (oi := ⟨_, _, _, _, _, _⟩) (v := ?_) rfl (by decide +kernel) (fun _ _ _ h => h) (Or.inl ⟨by rfl, ?_⟩) (fun _ => hS) ?_
          rotate_left
          focus (intro w _; go_simp; (try with_reducible rfl); done)
          simp only [Act.put, List.setIfInBounds_toArray, List.set_cons_zero, List.set_cons_succ]
          refine wpAnyZ_take0 (i := 8) (oi := ⟨_, _, _, _, _, _⟩) (v := ?_) rfl (by decide +kernel) (fun _ _ _ h => h) (Or.inl ⟨by rfl, ?_⟩) (fun _ => hS) ?_
          rotate_left
          focus (intro w _; go_simp; (try with_reducible rfl); done)
          simp only [Act.put, List.setIfInBounds_toArray, List.set_cons_zero, List.set_cons_succ]
          refine wpAnyZ_done (by decide +kernel) ?_
          go_wp2_with fail
          go_ret
          exact ⟨rfl, HB18.out.trans (hb3.out.mono HB18.out.size)⟩
        · have hh : (s.has == t.has) = true := by simpa using e1
          have hsm := (hyes.out (ns_eq hI.out hJ.out e1 (by rw [hp.out, hq.out, e2.1, e2.2]) e4 e5 e6))
          obtain ⟨e2, e3⟩ := e2
          subst e2
          subst e3
          clear e1
          go_wp2_with fail
          clear bx0 bx1 bz0 bz1 hh
          refine (behind51 gv FV s _ HX4.out (by have := hI.out.small; omega)).mono ?_
          rintro e v10 ⟨P10, pn10, pc10, rfl, op10, d10⟩
          have ol10 := OwnP.len op10
          have HX10 := Hd.mk (HX4.out.below d10)
          have HZ10 := Hd.mk (HZ4.out.below d10)
          have HS10 := Hd.mk (Rd.below HS4.out d10)
          have HB10 := Hd.mk (HB4.out.trans (d10.mono HB4.out.size))
          have op10' := Hd.mk (Own.rd op10)
          have on10 : pn10 ≤ 1000000 := by have := hI.out.small; omega
          clear d10 op10 ol10 HX4 HZ4 HS4 HB4
          go_wp2_with fail
          refine (behind51 gz FZ t v10 HZ10.out (by have := hJ.out.small; omega)).mono ?_
          rintro e v11 ⟨P11, pn11, pc11, rfl, op11, d11⟩
          have HX11 := Hd.mk (HX10.out.below d11)
          have HZ11 := Hd.mk (HZ10.out.below d11)
          have HS11 := Hd.mk (Rd.below HS10.out d11)
          have HB11 := Hd.mk (HB10.out.trans (d11.mono HB10.out.size))
          have op11' := Hd.mk (Own.rd op11)
          have oq11 := Hd.mk (Rd.below op10'.out d11)
          clear d11 op11 op10' HX10 HZ10 HS10 HB10
          go_wp2_with fail
          refine (same55 P10 P11 pn10 pc10 pn11 pc11 _ _ v11 oq11.out op11'.out on10).mono ?_
          rw [show decide (s.bh = t.bh) = true from by exact decide_eq_true e4]
          rintro e v12 ⟨rfl, d12⟩
          have HX12 := Hd.mk (HX11.out.below d12)
          have HZ12 := Hd.mk (HZ11.out.below d12)
          have HS12 := Hd.mk (Rd.below HS11.out d12)
          have HB12 := Hd.mk (HB11.out.trans (d12.mono HB11.out.size))
          clear d12 op11' oq11 on10 HX11 HZ11 HS11 HB11
          go_wp2_with fail
          refine (ahead49 gv FV s _ HX12.out (by have := hI.out.small; omega)).mono ?_
          rintro e v13 ⟨P13, pn13, pc13, rfl, op13, d13⟩
          have ol13 := OwnP.len op13
          have HX13 := Hd.mk (HX12.out.below d13)
          have HZ13 := Hd.mk (HZ12.out.below d13)
          have HS13 := Hd.mk (Rd.below HS12.out d13)
          have HB13 := Hd.mk (HB12.out.trans (d13.mono HB12.out.size))
          have op13' := Hd.mk (Own.rd op13)
          have on13 : pn13 ≤ 1000000 := by have := hI.out.small; omega
          clear d13 op13 ol13 HX12 HZ12 HS12 HB12
          go_wp2_with fail
          refine (ahead49 gz FZ t v13 HZ13.out (by have := hJ.out.small; omega)).mono ?_
          rintro e v14 ⟨P14, pn14, pc14, rfl, op14, d14⟩
          have HX14 := Hd.mk (HX13.out.below d14)
          have HZ14 := Hd.mk (HZ13.out.below d14)
          have HS14 := Hd.mk (Rd.below HS13.out d14)
          have HB14 := Hd.mk (HB13.out.trans (d14.mono HB13.out.size))
          have op14' := Hd.mk (Own.rd op14)
          have oq14 := Hd.mk (Rd.below op13'.out d14)
          clear d14 op14 op13' HX13 HZ13 HS13 HB13
          go_wp2_with fail
          refine (same55 P13 P14 pn13 pc13 pn14 pc14 _ _ v14 oq14.out op14'.out on13).mono ?_
          rw [show decide (s.ah = t.ah) = true from by exact decide_eq_true e5]
          rintro e v15 ⟨rfl, d15⟩
          have HX15 := Hd.mk (HX14.out.below d15)
          have HZ15 := Hd.mk (HZ14.out.below d15)
          have HS15 := Hd.mk (Rd.below HS14.out d15)
          have HB15 := Hd.mk (HB14.out.trans (d15.mono HB14.out.size))
          clear d15 op14' oq14 on13 HX14 HZ14 HS14 HB14
          go_wp2_with fail
          refine (marks53 gv FV s _ HX15.out (by have := hI.out.small; omega)).mono ?_
          rintro e v16 ⟨P16, pn16, pc16, rfl, op16, d16⟩
          have ol16 := OwnP.len op16
          have HX16 := Hd.mk (HX15.out.below d16)
          have HZ16 := Hd.mk (HZ15.out.below d16)
          have HS16 := Hd.mk (Rd.below HS15.out d16)
          have HB16 := Hd.mk (HB15.out.trans (d16.mono HB15.out.size))
          have op16' := Hd.mk (Own.rd op16)
          have on16 : pn16 ≤ 1000000 := by have := hI.out.small; omega
          clear d16 op16 ol16 HX15 HZ15 HS15 HB15
          go_wp2_with fail
          refine (marks53 gz FZ t v16 HZ16.out (by have := hJ.out.small; omega)).mono ?_
          rintro e v17 ⟨P17, pn17, pc17, rfl, op17, d17⟩
          have HX17 := Hd.mk (HX16.out.below d17)
          have HZ17 := Hd.mk (HZ16.out.below d17)
          have HS17 := Hd.mk (Rd.below HS16.out d17)
          have HB17 := Hd.mk (HB16.out.trans (d17.mono HB16.out.size))
          have op17' := Hd.mk (Own.rd op17)
          have oq17 := Hd.mk (Rd.below op16'.out d17)
          clear d17 op17 op16' HX16 HZ16 HS16 HB16
          go_wp2_with fail
          refine (same55 P16 P17 pn16 pc16 pn17 pc17 _ _ v17 oq17.out op17'.out on16).mono ?_
          rw [show decide (s.mks = t.mks) = true from by exact decide_eq_true e6]
          rintro e v18 ⟨rfl, d18⟩
          have HX18 := Hd.mk (HX17.out.below d18)
          have HZ18 := Hd.mk (HZ17.out.below d18)
          have HS18 := Hd.mk (Rd.below HS17.out d18)
          have HB18 := Hd.mk (HB17.out.trans (d18.mono HB17.out.size))
          clear d18 op17' oq17 on16 HX17 HZ17 HS17 HB17
          go_wp2_with fail
          obtain ⟨V, hV⟩ : ∃ V, Hd (v18 = V) := ⟨_, ⟨rfl⟩⟩
          rw [hV.out] at HZ18 HS18 HB18 ⊢
          clear hV
          refine region_zone 9 [false, false, false, false, false, false, false, false, false] (by kernel_rfl) (by kernel_rfl) hmix (fun w' => Below V.heap.size V w') [] ?_ (fun hS => ?_)
          · exact below_drew V
          refine wpAnyZ_take0 (i := 0) (oi := ⟨_, _, _, _, _, _⟩) (v := ?_) rfl (by decide +kernel) (fun _ _ _ h => h) (Or.inl ⟨by rfl, ?_⟩) (fun _ => hS) ?_
          rotate_left
          focus (intro w _; go_simp; (try with_reducible rfl); done)
          simp only [Act.put, List.setIfInBounds_toArray, List.set_cons_zero, List.set_cons_succ]
          refine wpAnyZ_take0 (i := 1) (oi := ⟨_, _, _, _, _, _⟩) (v := ?_) rfl (by decide +kernel) (fun _ _ _ h => h) (Or.inl ⟨by rfl, ?_⟩) (fun _ => hS) ?_
          rotate_left
          focus (intro w _; go_simp; (try with_reducible rfl); done)
          simp only [Act.put, List.setIfInBounds_toArray, List.set_cons_zero, List.set_cons_succ]
          refine wpAnyZ_take0 (i := 4) (oi := ⟨_, _, _, _, _, _⟩) (v := ?_) rfl (by decide +kernel) (fun _ _ _ h => h) (Or.inl ⟨by rfl, ?_⟩) (fun _ => hS) ?_
          rotate_left
          focus (intro w _; go_simp; (try with_reducible rfl); done)
          simp only [Act.put, List.setIfInBounds_toArray, List.set_cons_zero, List.set_cons_succ]
          refine wpAnyZ_take (i := 5) (oi := ⟨_, _, _, _, _, _⟩) (v := ?_) rfl (by decide +kernel) (fun _ _ _ h => h) (Or.inl ⟨by rfl, ?_⟩) hS ?_
          rotate_left
          focus (intro w hSw; (try dsimp only at hSw); have hstr := run_str8 (c := sc) (Rd.below HS18.out hSw); rw [hstr'.out] at hstr; clear hSw; go_simp; (try with_reducible rfl); done)
          simp only [Act.put, List.setIfInBounds_toArray, List.set_cons_zero, List.set_cons_succ]
          refine wpAnyZ_one (i := 2) rfl (by decide +kernel) (fun K hKK => ?_)
          go_simp
          refine (save44 gz FZ t V.drew (HZ18.out.below (below_drew V)) hJ.out).mono ?_
          rintro e x1 ⟨Y3, y3n, y3c, rfl, o3, b3⟩
          have O3 := Hd.mk (Own.rd o3)
          have hb3 := Hd.mk ((below_drew V).trans b3)
          clear o3 b3 hS
          refine hKK.out _ _ (fun _ => hb3.out) ?_
          clear hKK
          refine wpAnyZ_weak (S' := fun w' => Below x1.heap.size x1 w') (fun w h => hb3.out.trans (h.mono hb3.out.size)) _ _ _ _ ?_
          have hS : Below x1.heap.size x1 x1 := Below.refl _ _
          refine wpAnyZ_take (i := 3) (oi := ⟨_, _, _, _, _, _⟩) (v := ?_) rfl (by decide +kernel) (fun _ _ _ h => h) (Or.inl ⟨by rfl, ?_⟩) hS ?_
          rotate_left
          focus (intro w hSw; (try dsimp only at hSw); have hstr := run_str8 (c := y3c) (Rd.below O3.out hSw); rw [hstrt.out] at hstr; clear hSw; go_simp; (try with_reducible rfl); done)
          simp only [Act.put, List.setIfInBounds_toArray, List.set_cons_zero, List.set_cons_succ]
          refine wpAnyZ_take0 (i := 6) (oi := ⟨_, _, _, _, _, _⟩) (v := ?_) rfl (by decide +kernel) (fun _ _ _ h => h) (Or.inl ⟨by rfl, ?_⟩) (fun _ => hS) ?_
          rotate_left
          focus (intro w _; go_simp; (try with_reducible rfl); done)
          simp only [Act.put, List.setIfInBounds_toArray, List.set_cons_zero, List.set_cons_succ]
          refine wpAnyZ_take0 (i := 7) (oi := ⟨_, _, _, _, _, _⟩) (v := ?_) rfl (by decide +kernel) (fun _ _ _ h => h) (Or.inl ⟨by rfl, ?_⟩) (fun _ => hS) ?_
          rotate_left
          focus (intro w _; go_simp; (try with_reducible rfl); done)
          simp only [Act.put, List.setIfInBounds_toArray, List.set_cons_zero, List.set_cons_succ]
          refine wpAnyZ_take0 (i := 8) (oi := ⟨_, _, _, _, _, _⟩) (v := ?_) rfl (by decide +kernel) (fun _ _ _ h => h) (Or.inl ⟨by rfl, ?_⟩) (fun _ => hS) ?_
          rotate_left
          focus (intro w _; go_simp; (try with_reducible rfl); done)
          simp only [Act.put, List.setIfInBounds_toArray, List.set_cons_zero, List.set_cons_succ]
          refine wpAnyZ_done (by decide +kernel) ?_
          go_wp2_with fail
          go_ret
          exact ⟨rfl, HB18.out.trans (hb3.out.mono HB18.out.size)⟩
end Go.Proofs.Ytkgdcglnkodgnaa

