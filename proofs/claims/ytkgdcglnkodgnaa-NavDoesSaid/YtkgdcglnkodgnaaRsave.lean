/-
  The document's reader: Save, and alike. No condition but sizes.
-/
import Derived.Test.YtkgdcglnkodgnaaRacc
namespace Go.Proofs.Ytkgdcglnkodgnaa
open Go.RowKit
theorem wpAnyZ_less {P : Program} {ops : Array Oper} {Q : Exit → Act → World → Prop} {md : Region.Mode} {S S' : World → Prop} (hS : ∀ w, S' w → S w) :
    ∀ (fuel : Nat) (listed : Array Bool) (a : Act) (w : World), wpAnyZ P md ops Q S' [] fuel listed a w → wpAnyZ P md ops Q S [] fuel listed a w
  | 0, _, _, _, h => h
  | fuel + 1, _, _, _, h => ⟨h.1, fun i hi => wpOp_mono (fun a' w' h' => ⟨fun e => hS _ (h'.1 e), wpAnyZ_less hS fuel _ a' w' h'.2⟩) (h.2 i hi)⟩
theorem rd_lt {w : World} {n : Nat} {A : Option Addr} {l : List Pl} (h : RdP w A n l) (hn : 0 < n) : ∀ ad, A = some ad → ad.block < w.heap.size := by
  intro ad e
  have hl := h.len
  have hk : l[0]? = some (l[0]'(by omega)) := List.getElem?_eq_getElem _
  obtain ⟨ad', e', h1, _⟩ := RdP.get h hk
  rw [e] at e'; injection e' with e'; subst e'
  have := cell_lt h1
  rwa [block_add] at this
set_option maxRecDepth 100000 in
set_option maxHeartbeats 2000000 in
theorem rsave123 (g : Nat) (F : Nat → Prop) (s : NS) (w : World) (h : RefAt w g F s.rn) (hi : NInv s) :
    Calls Try.prog 123 #[.pointer (some ⟨g, 0, none⟩)] w (Ret8 w s.save) := by
  have hRI := Hd.mk (RI.of hi)
  have hI := Hd.mk hi
  have hFl := Hd.mk h.lt
  have eb := Hd.mk (rn_behind hi)
  have ea := Hd.mk (rn_ahead hi)
  have hn1 : Hd (∀ p ∈ s.now1, mayQ p = true) := ⟨by
    intro p hp
    unfold NS.now1 at hp
    split at hp
    · rename_i hh; simp at hp; subst hp; exact hi.now hh
    · simp at hp⟩
  have kc : ∀ y : World, (convert 22 22 (.slice (some ⟨y.heap.size, 0, none⟩) 4 4)).run Try.prog (y.alloc (.cells #[.int .u8 78, .int .u8 65, .int .u8 86, .int .u8 49] 5)) = .ok (.slice (some ⟨y.heap.size, 0, none⟩) 4 4) (y.alloc (.cells #[.int .u8 78, .int .u8 65, .int .u8 86, .int .u8 49] 5 (4, 5))) := fun y =>
    Lib.run_convert_bytes_const y 22 5 #[.int .u8 78, .int .u8 65, .int .u8 86, .int .u8 49] 4 4 Try.underlying22 Try.underlying5
  go_enter Try.func123, Try.ntmps123
  go_wp2_with fail
  refine (rnow120 g F s.rn w h hRI.out).mono ?_
  rw [rn_now]
  rintro e w1 ⟨rfl, b1⟩
  have HR1 := Hd.mk (h.below b1)
  have B1 := Hd.mk b1
  clear h b1 hi
  simp only
  unfold plV
  cases hh : s.has
  · have ht : s.told = (0, 0) := by simp [NS.told, hh]
    have hnw : Hd (s.now1 = []) := ⟨by simp [NS.now1, hh]⟩
    rw [ht]
    (try simp only)
    have hA1 := below_alloc w1 (.cells #[.int .i64 0, .int .i64 0] 58)
    have HRn := Hd.mk (HR1.out.below hA1)
    have HBn := Hd.mk (B1.out.trans (hA1.mono B1.out.size))
    have HNow : Hd (RdP (w1.alloc (.cells #[.int .i64 0, .int .i64 0] 58)) none 0 s.now1) := ⟨by rw [hnw.out]; exact Rd.nil_⟩
    clear ht hh hA1 HR1 B1
    have k0 := kc (w1.alloc (.cells #[.int .i64 0, .int .i64 0] 58))
    rw [World.size_alloc] at k0
    go_wp2_with fail
    rw [← World.size_alloc w1 (.cells #[.int .i64 0, .int .i64 0] 58)]
    clear k0
    clear kc
    obtain ⟨y0, hy0⟩ : ∃ y, Hd (w1.alloc (.cells #[.int .i64 0, .int .i64 0] 58) = y) := ⟨_, ⟨rfl⟩⟩
    rw [hy0.out] at HRn HNow HBn ⊢
    clear hy0
    have hFy : Hd (∀ k, F k → k < y0.heap.size) := ⟨HRn.out.lt⟩
    have hr0 := Hd.mk (Rd8.newM y0 magicN (cs := #[.int .u8 78, .int .u8 65, .int .u8 86, .int .u8 49]) (m := 4) rfl rfl (4, 5))
    have hA0 := Hd.mk (below_alloc y0 (.cells #[.int .u8 78, .int .u8 65, .int .u8 86, .int .u8 49] 5 (4, 5)))
    have L1 := Hd.mk (putL_len hI.out.bh (by have := hI.out.long; omega))
    have L2 := Hd.mk (putL_len hI.out.ah (by have := hI.out.long; omega))
    have L4 := Hd.mk (putL_len hn1.out (by unfold NS.now1; split <;> simp))
    refine (rbehind121 g F s.rn _ (HRn.out.below hA0.out) hRI.out).mono ?_
    rw [eb.out]
    rintro e y1 ⟨P1, p1, pc1, rfl, rp1, hp1, hf1, c1⟩
    have C1 := Hd.mk (hA0.out.trans (c1.mono hA0.out.size))
    have R1 := Hd.mk (Rd.below rp1 c1)
    have hr1 := Hd.mk (Rd.below hr0.out c1)
    have hF1 : Hd (0 < p1 → ∀ ad, P1 = some ad → ad.block < y0.heap.size) := ⟨fun h0 ad e => hFy.out _ (hf1 h0 ad e)⟩
    clear rp1 hf1 c1 hr0 hA0
    go_wp2_with fail
    refine (rput159 _ 4 4 y0.heap.size magicN P1 p1 pc1 s.bh y1 (Or.inr ⟨hr1.out, rfl⟩) C1.out.size R1.out hF1.out hI.out.bh hp1 (by omega)).mono ?_
    rintro e y2 ⟨B2, m2, d2, rfl, o2, c2⟩
    have C2 := Hd.mk (C1.out.trans c2)
    have O2 := Hd.mk o2
    have hm2 : m2 ≤ 2014 := by have h1 := o2.len; have := L1.out; rw [List.length_append] at h1; simp [magicN] at h1; omega
    clear o2 c2 C1 R1 hr1 hF1 hp1 L1
    go_wp2_with fail
    refine (rput159 B2 m2 d2 y0.heap.size _ _ _ _ s.now1 y2 (Or.inl O2.out) C2.out.size (rdP_belowB HNow.out (fun h0 ad e => rd_lt HNow.out h0 ad e) C2.out) (fun h0 ad e => rd_lt HNow.out h0 ad e) hn1.out (by omega) (by omega)).mono ?_
    rintro e y3 ⟨B3, m3, d3, rfl, o3, c3⟩
    have C3 := Hd.mk (C2.out.trans c3)
    have O3 := Hd.mk o3
    have hm3 : m3 ≤ 4024 := by have h1 := o3.len; have h2 := O2.out.len; have := L4.out; rw [List.length_append] at h1; omega
    clear o3 c3 C2 O2 hm2 L4
    go_wp2_with fail
    refine (rahead122 g F s.rn y3 (HRn.out.belowB hFy.out C3.out) hRI.out).mono ?_
    rw [ea.out]
    rintro e y4 ⟨P4, p4, pc4, rfl, rp4, hp4, hf4, c4⟩
    have hs3 := C3.out.size
    have C4 := Hd.mk (C3.out.trans (c4.mono hs3))
    have R4 := Hd.mk (Rd.below rp4 c4)
    have O4 := Hd.mk (Own.below O3.out c4)
    have hF4 : Hd (0 < p4 → ∀ ad, P4 = some ad → ad.block < y0.heap.size) := ⟨fun h0 ad e => hFy.out _ (hf4 h0 ad e)⟩
    clear rp4 hf4 c4 O3 C3 hs3
    go_wp2_with fail
    refine (rput159 B3 m3 d3 y0.heap.size _ P4 p4 pc4 s.ah y4 (Or.inl O4.out) C4.out.size R4.out hF4.out hI.out.ah hp4 (by omega)).mono ?_
    rintro e y5 ⟨B5, m5, d5, rfl, o5, c5⟩
    have C5 := Hd.mk (C4.out.trans c5)
    have O5 := Hd.mk o5
    have hm5 : m5 ≤ 6034 := by have h1 := o5.len; have h2 := Own8.len O4.out; have := L2.out; rw [List.length_append] at h1; omega
    clear o5 c5 C4 R4 O4 hF4 hp4 L2 hm3
    obtain ⟨A1, n1, k1, A2, n2, k2, hC⟩ := HRn.out.belowB hFy.out C5.out
    obtain ⟨-, -, a2, -⟩ := ref_cells hC.heap
    have hl2 := OwnP.len hC.o2
    have hR2 := Hd.mk (Own.rd hC.o2)
    have hF2 : Hd (0 < n2 → ∀ ad, A2 = some ad → ad.block < y0.heap.size) := ⟨fun h0 ad e => hFy.out _ (hC.f2 _ (by have h1 := (Own.le hC.o2).1; have h2 : k2 ≠ 0 := (by omega); simp [ownBlk, h2, e]))⟩
    have hn2 : n2 ≤ 100 := by have := hRI.out.mks; omega
    clear hC hl2
    go_wp2_with fail
    clear a2
    refine (rput159 B5 m5 d5 y0.heap.size _ A2 n2 k2 s.mks y5 (Or.inl O5.out) C5.out.size hR2.out hF2.out hI.out.mks hn2 (by omega)).mono ?_
    rintro e y6 ⟨B6, m6, d6, rfl, o6, c6⟩
    have C6 := Hd.mk (C5.out.trans c6)
    have O6 := Hd.mk (Own.mono o6 HBn.out.size)
    clear o6 c6
    go_wp2_with fail
    go_ret
    exact ⟨_, _, _, rfl, O6.out, HBn.out.trans (C6.out.mono HBn.out.size)⟩
  · have hh' : s.has = true := hh
    have ht : s.told = s.now := by simp [NS.told, hh]
    have hnw : Hd (s.now1 = [s.now]) := ⟨by simp [NS.now1, hh]⟩
    rw [ht]
    (try simp only)
    have hA1 := Hd.mk (below_alloc w1 (.cells #[.int .i64 s.now.1, .int .i64 s.now.2] 58))
    have hA2 := Hd.mk (below_alloc (w1.alloc (.cells #[.int .i64 s.now.1, .int .i64 s.now.2] 58)) (.cells #[.int .i64 s.now.1, .int .i64 s.now.2] 58))
    obtain ⟨bx0, bx1⟩ := box_load (heap_alloc_new w1 (.cells #[.int .i64 s.now.1, .int .i64 s.now.2] 58))
    clear ht hh hh'
    go_wp2_with (at_builtin; refine wl_appP rfl (.tmp 13) (.tmp 15) rfl (m := 1) rfl rfl (OwnP.nil_ _ ((w1.alloc (.cells #[.int .i64 s.now.1, .int .i64 s.now.2] 58)).alloc (.cells #[.int .i64 s.now.1, .int .i64 s.now.2] 58)).heap.size _) (RdP.newAt _ [s.now] rfl rfl (by simp)) (by omega) (Nat.le_refl _) ?_; rintro v w4 ⟨A', c', rfl, ho4, hg4, _⟩; have k0 := kc w4)
    clear k0
    clear bx0 bx1
    have hb4 : Below ((w1.alloc (.cells #[.int .i64 s.now.1, .int .i64 s.now.2] 58)).alloc (.cells #[.int .i64 s.now.1, .int .i64 s.now.2] 58)).heap.size _ w4 := below_appP (Below.refl _ _) (Nat.le_refl _) (OwnP.nil_ _ _ _) hg4
    have hA3 := hA1.out.trans (hA2.out.mono hA1.out.size)
    have hA4 := hA3.trans (hb4.mono hA3.size)
    have HRn := Hd.mk (HR1.out.below hA4)
    have HBn := Hd.mk (B1.out.trans (hA4.mono B1.out.size))
    simp only [Nat.zero_add, List.nil_append] at ho4
    rw [← hnw.out] at ho4
    have HNow := Hd.mk (Own.rd ho4)
    clear ho4 hg4 hb4 hA3 hA4 hA1 hA2 HR1 B1
    clear kc
    obtain ⟨y0, hy0⟩ : ∃ y, Hd (w4 = y) := ⟨_, ⟨rfl⟩⟩
    rw [hy0.out] at HRn HNow HBn ⊢
    clear hy0
    have hFy : Hd (∀ k, F k → k < y0.heap.size) := ⟨HRn.out.lt⟩
    have hr0 := Hd.mk (Rd8.newM y0 magicN (cs := #[.int .u8 78, .int .u8 65, .int .u8 86, .int .u8 49]) (m := 4) rfl rfl (4, 5))
    have hA0 := Hd.mk (below_alloc y0 (.cells #[.int .u8 78, .int .u8 65, .int .u8 86, .int .u8 49] 5 (4, 5)))
    have L1 := Hd.mk (putL_len hI.out.bh (by have := hI.out.long; omega))
    have L2 := Hd.mk (putL_len hI.out.ah (by have := hI.out.long; omega))
    have L4 := Hd.mk (putL_len hn1.out (by unfold NS.now1; split <;> simp))
    refine (rbehind121 g F s.rn _ (HRn.out.below hA0.out) hRI.out).mono ?_
    rw [eb.out]
    rintro e y1 ⟨P1, p1, pc1, rfl, rp1, hp1, hf1, c1⟩
    have C1 := Hd.mk (hA0.out.trans (c1.mono hA0.out.size))
    have R1 := Hd.mk (Rd.below rp1 c1)
    have hr1 := Hd.mk (Rd.below hr0.out c1)
    have hF1 : Hd (0 < p1 → ∀ ad, P1 = some ad → ad.block < y0.heap.size) := ⟨fun h0 ad e => hFy.out _ (hf1 h0 ad e)⟩
    clear rp1 hf1 c1 hr0 hA0
    go_wp2_with fail
    refine (rput159 _ 4 4 y0.heap.size magicN P1 p1 pc1 s.bh y1 (Or.inr ⟨hr1.out, rfl⟩) C1.out.size R1.out hF1.out hI.out.bh hp1 (by omega)).mono ?_
    rintro e y2 ⟨B2, m2, d2, rfl, o2, c2⟩
    have C2 := Hd.mk (C1.out.trans c2)
    have O2 := Hd.mk o2
    have hm2 : m2 ≤ 2014 := by have h1 := o2.len; have := L1.out; rw [List.length_append] at h1; simp [magicN] at h1; omega
    clear o2 c2 C1 R1 hr1 hF1 hp1 L1
    go_wp2_with fail
    refine (rput159 B2 m2 d2 y0.heap.size _ _ _ _ s.now1 y2 (Or.inl O2.out) C2.out.size (rdP_belowB HNow.out (fun h0 ad e => rd_lt HNow.out h0 ad e) C2.out) (fun h0 ad e => rd_lt HNow.out h0 ad e) hn1.out (by omega) (by omega)).mono ?_
    rintro e y3 ⟨B3, m3, d3, rfl, o3, c3⟩
    have C3 := Hd.mk (C2.out.trans c3)
    have O3 := Hd.mk o3
    have hm3 : m3 ≤ 4024 := by have h1 := o3.len; have h2 := O2.out.len; have := L4.out; rw [List.length_append] at h1; omega
    clear o3 c3 C2 O2 hm2 L4
    go_wp2_with fail
    refine (rahead122 g F s.rn y3 (HRn.out.belowB hFy.out C3.out) hRI.out).mono ?_
    rw [ea.out]
    rintro e y4 ⟨P4, p4, pc4, rfl, rp4, hp4, hf4, c4⟩
    have hs3 := C3.out.size
    have C4 := Hd.mk (C3.out.trans (c4.mono hs3))
    have R4 := Hd.mk (Rd.below rp4 c4)
    have O4 := Hd.mk (Own.below O3.out c4)
    have hF4 : Hd (0 < p4 → ∀ ad, P4 = some ad → ad.block < y0.heap.size) := ⟨fun h0 ad e => hFy.out _ (hf4 h0 ad e)⟩
    clear rp4 hf4 c4 O3 C3 hs3
    go_wp2_with fail
    refine (rput159 B3 m3 d3 y0.heap.size _ P4 p4 pc4 s.ah y4 (Or.inl O4.out) C4.out.size R4.out hF4.out hI.out.ah hp4 (by omega)).mono ?_
    rintro e y5 ⟨B5, m5, d5, rfl, o5, c5⟩
    have C5 := Hd.mk (C4.out.trans c5)
    have O5 := Hd.mk o5
    have hm5 : m5 ≤ 6034 := by have h1 := o5.len; have h2 := Own8.len O4.out; have := L2.out; rw [List.length_append] at h1; omega
    clear o5 c5 C4 R4 O4 hF4 hp4 L2 hm3
    obtain ⟨A1, n1, k1, A2, n2, k2, hC⟩ := HRn.out.belowB hFy.out C5.out
    obtain ⟨-, -, a2, -⟩ := ref_cells hC.heap
    have hl2 := OwnP.len hC.o2
    have hR2 := Hd.mk (Own.rd hC.o2)
    have hF2 : Hd (0 < n2 → ∀ ad, A2 = some ad → ad.block < y0.heap.size) := ⟨fun h0 ad e => hFy.out _ (hC.f2 _ (by have h1 := (Own.le hC.o2).1; have h2 : k2 ≠ 0 := (by omega); simp [ownBlk, h2, e]))⟩
    have hn2 : n2 ≤ 100 := by have := hRI.out.mks; omega
    clear hC hl2
    go_wp2_with fail
    clear a2
    refine (rput159 B5 m5 d5 y0.heap.size _ A2 n2 k2 s.mks y5 (Or.inl O5.out) C5.out.size hR2.out hF2.out hI.out.mks hn2 (by omega)).mono ?_
    rintro e y6 ⟨B6, m6, d6, rfl, o6, c6⟩
    have C6 := Hd.mk (C5.out.trans c6)
    have O6 := Hd.mk (Own.mono o6 HBn.out.size)
    clear o6 c6
    go_wp2_with fail
    go_ret
    exact ⟨_, _, _, rfl, O6.out, HBn.out.trans (C6.out.mono HBn.out.size)⟩
set_option maxRecDepth 100000 in
set_option maxHeartbeats 4000000 in
theorem alike73 (gx go : Nat) (FX FO : Nat → Prop) (s : NS) (w : World) (hx : NavAt w gx FX s) (ho : RefAt w go FO s.rn) (hi : NInv s) :
    Calls Try.prog 73 #[.pointer (some ⟨gx, 0, none⟩), .pointer (some ⟨go, 0, none⟩)] w fun e w' => e = .returned (.bool true) ∧ Below w.heap.size w w' := by
  have hRI := Hd.mk (RI.of hi)
  have hI := Hd.mk hi
  have eb := Hd.mk (rn_behind hi)
  have ea := Hd.mk (rn_ahead hi)
  have hmix := try_mixed
  obtain ⟨str, hstr'⟩ : ∃ str, Hd ((⟨s.save.toArray⟩ : ByteArray) = str) := ⟨_, ⟨rfl⟩⟩
  have hss : (str.toList == str.toList) = true := by simp
  obtain ⟨⟨px, py⟩, hp⟩ : ∃ p, Hd (s.told = p) := ⟨_, ⟨rfl⟩⟩
  have hlong := Hd.mk hi.small
  have hbb : (s.has == s.has) = true := by simp
  clear hi
  go_enter Try.func73, Try.ntmps73
  go_wp2_with fail
  refine (now47 gx FX s w hx).mono ?_
  rw [hp.out]
  rintro e w1 ⟨rfl, b1⟩
  unfold plV
  have hA1 := below_alloc w1 (.cells #[.int .i64 px, .int .i64 py] 58)
  have hx1 := Hd.mk (heap_alloc_new w1 (.cells #[.int .i64 px, .int .i64 py] 58))
  have b1' := b1.trans (hA1.mono b1.size)
  have X1 := Hd.mk (hx.below b1')
  have O1 := Hd.mk (ho.below b1')
  have B1 := Hd.mk b1'
  clear hx ho b1 b1' hA1
  simp only
  go_wp2_with fail
  obtain ⟨V1, hV1⟩ : ∃ V, Hd (w1.alloc (.cells #[.int .i64 px, .int .i64 py] 58) = V) := ⟨_, ⟨rfl⟩⟩
  rw [hV1.out] at hx1 X1 O1 B1 ⊢
  obtain ⟨b1, hb1⟩ : ∃ b, Hd (w1.heap.size = b) := ⟨_, ⟨rfl⟩⟩
  rw [hb1.out] at hx1 ⊢
  clear hV1 hb1
  refine (rnow120 go FO s.rn V1 O1.out hRI.out).mono ?_
  rw [rn_now, hp.out]
  rintro e w2 ⟨rfl, b2⟩
  unfold plV
  have hA2 := below_alloc w2 (.cells #[.int .i64 px, .int .i64 py] 58)
  have hx2 := Hd.mk (heap_alloc_new w2 (.cells #[.int .i64 px, .int .i64 py] 58))
  have b2' := b2.trans (hA2.mono b2.size)
  have hy2 := Hd.mk ((b2'.block b1 (Array.getElem?_eq_some_iff.1 hx1.out).1).trans hx1.out)
  have X2 := Hd.mk (X1.out.below b2')
  have O2 := Hd.mk (O1.out.below b2')
  have B2 := Hd.mk (B1.out.trans (b2'.mono B1.out.size))
  clear b2 b2' hA2 hx1 X1 O1 B1
  simp only
  go_wp2_with fail
  obtain ⟨V, hV⟩ : ∃ V, Hd (w2.alloc (.cells #[.int .i64 px, .int .i64 py] 58) = V) := ⟨_, ⟨rfl⟩⟩
  rw [hV.out] at hx2 hy2 X2 O2 B2 ⊢
  obtain ⟨b2, hb2⟩ : ∃ b, Hd (w2.heap.size = b) := ⟨_, ⟨rfl⟩⟩
  rw [hb2.out] at hx2 ⊢
  clear hV hb2
  obtain ⟨p0, p1⟩ := box_load hy2.out
  obtain ⟨q0, q1⟩ := box_load hx2.out
  have P0 := Hd.mk p0
  have P1 := Hd.mk p1
  have Q0 := Hd.mk q0
  have Q1 := Hd.mk q1
  clear p0 p1 q0 q1 hx2 hy2
  refine region_zone 50 [false, false, false, false, false, false, false, false, false, false, false, false, false, false, false, false, false, false, false, false, false, false, false, false, false, false, false, false, false, false, false, false, false, false, false, false, false, false, false, false, false, false, false, false, false, false, false, false, false, false] (by kernel_rfl) (by kernel_rfl) hmix (fun w' => Below V.heap.size V w') [] ?_ (fun hS => ?_)
  · exact below_drew V
  refine wpAnyZ_take0 (i := 0) (oi := ⟨_, _, _, _, _, _⟩) (v := ?_) rfl (by decide +kernel) (fun _ _ _ h => h) (Or.inl ⟨by rfl, ?_⟩) (fun _ => hS) ?_
  rotate_left
  focus (intro w _; go_simp; (try with_reducible rfl); done)
  simp only [Act.put, List.setIfInBounds_toArray, List.set_cons_zero, List.set_cons_succ]
  refine wpAnyZ_take0 (i := 1) (oi := ⟨_, _, _, _, _, _⟩) (v := ?_) rfl (by decide +kernel) (fun _ _ _ h => h) (Or.inl ⟨by rfl, ?_⟩) (fun _ => hS) ?_
  rotate_left
  focus (intro w _; go_simp; (try with_reducible rfl); done)
  simp only [Act.put, List.setIfInBounds_toArray, List.set_cons_zero, List.set_cons_succ]
  refine wpAnyZ_take0 (i := 2) (oi := ⟨_, _, _, _, _, _⟩) (v := ?_) rfl (by decide +kernel) (fun _ _ _ h => h) (Or.inl ⟨by rfl, ?_⟩) (fun _ => hS) ?_
  rotate_left
  focus (intro w _; go_simp; (try with_reducible rfl); done)
  simp only [Act.put, List.setIfInBounds_toArray, List.set_cons_zero, List.set_cons_succ]
  refine wpAnyZ_take0 (i := 3) (oi := ⟨_, _, _, _, _, _⟩) (v := ?_) rfl (by decide +kernel) (fun _ _ _ h => h) (Or.inl ⟨by rfl, ?_⟩) (fun _ => hS) ?_
  rotate_left
  focus (intro w _; go_simp; (try with_reducible rfl); done)
  simp only [Act.put, List.setIfInBounds_toArray, List.set_cons_zero, List.set_cons_succ]
  refine wpAnyZ_take0 (i := 4) (oi := ⟨_, _, _, _, _, _⟩) (v := ?_) rfl (by decide +kernel) (fun _ _ _ h => h) (Or.inl ⟨by rfl, ?_⟩) (fun _ => hS) ?_
  rotate_left
  focus (intro w _; go_simp; (try with_reducible rfl); done)
  simp only [Act.put, List.setIfInBounds_toArray, List.set_cons_zero, List.set_cons_succ]
  refine wpAnyZ_take (i := 5) (oi := ⟨_, _, _, _, _, _⟩) (v := ?_) rfl (by decide +kernel) (fun _ _ _ h => h) (Or.inl ⟨by rfl, ?_⟩) hS ?_
  rotate_left
  focus (intro w hSw; (try dsimp only at hSw); (have z0 := below_cell hSw P0.out; have z1 := below_cell hSw P1.out; have z2 := below_cell hSw Q0.out; have z3 := below_cell hSw Q1.out; clear hSw); go_simp; (try with_reducible rfl); done)
  simp only [Act.put, List.setIfInBounds_toArray, List.set_cons_zero, List.set_cons_succ]
  refine wpAnyZ_take0 (i := 6) (oi := ⟨_, _, _, _, _, _⟩) (v := ?_) rfl (by decide +kernel) (fun _ _ _ h => h) (Or.inl ⟨by rfl, ?_⟩) (fun _ => hS) ?_
  rotate_left
  focus (intro w _; go_simp; (try with_reducible rfl); done)
  simp only [Act.put, List.setIfInBounds_toArray, List.set_cons_zero, List.set_cons_succ]
  refine wpAnyZ_take (i := 7) (oi := ⟨_, _, _, _, _, _⟩) (v := ?_) rfl (by decide +kernel) (fun _ _ _ h => h) (Or.inl ⟨by rfl, ?_⟩) hS ?_
  rotate_left
  focus (intro w hSw; (try dsimp only at hSw); (have z0 := below_cell hSw P0.out; have z1 := below_cell hSw P1.out; have z2 := below_cell hSw Q0.out; have z3 := below_cell hSw Q1.out; clear hSw); go_simp; (try with_reducible rfl); done)
  simp only [Act.put, List.setIfInBounds_toArray, List.set_cons_zero, List.set_cons_succ]
  refine wpAnyZ_take0 (i := 8) (oi := ⟨_, _, _, _, _, _⟩) (v := ?_) rfl (by decide +kernel) (fun _ _ _ h => h) (Or.inl ⟨by rfl, ?_⟩) (fun _ => hS) ?_
  rotate_left
  focus (intro w _; go_simp; (try with_reducible rfl); done)
  simp only [Act.put, List.setIfInBounds_toArray, List.set_cons_zero, List.set_cons_succ]
  refine wpAnyZ_take0 (i := 9) (oi := ⟨_, _, _, _, _, _⟩) (v := ?_) rfl (by decide +kernel) (fun _ _ _ h => h) (Or.inl ⟨by rfl, ?_⟩) (fun _ => hS) ?_
  rotate_left
  focus (intro w _; go_simp; (try with_reducible rfl); done)
  simp only [Act.put, List.setIfInBounds_toArray, List.set_cons_zero, List.set_cons_succ]
  refine wpAnyZ_take0 (i := 10) (oi := ⟨_, _, _, _, _, _⟩) (v := ?_) rfl (by decide +kernel) (fun _ _ _ h => h) (Or.inl ⟨by rfl, ?_⟩) (fun _ => hS) ?_
  rotate_left
  focus (intro w _; go_simp; (try with_reducible rfl); done)
  simp only [Act.put, List.setIfInBounds_toArray, List.set_cons_zero, List.set_cons_succ]
  refine wpAnyZ_take0 (i := 11) (oi := ⟨_, _, _, _, _, _⟩) (v := ?_) rfl (by decide +kernel) (fun _ _ _ h => h) (Or.inl ⟨by rfl, ?_⟩) (fun _ => hS) ?_
  rotate_left
  focus (intro w _; go_simp; (try with_reducible rfl); done)
  simp only [Act.put, List.setIfInBounds_toArray, List.set_cons_zero, List.set_cons_succ]
  refine wpAnyZ_take (i := 12) (oi := ⟨_, _, _, _, _, _⟩) (v := ?_) rfl (by decide +kernel) (fun _ _ _ h => h) (Or.inl ⟨by rfl, ?_⟩) hS ?_
  rotate_left
  focus (intro w hSw; (try dsimp only at hSw); (have z0 := below_cell hSw P0.out; have z1 := below_cell hSw P1.out; have z2 := below_cell hSw Q0.out; have z3 := below_cell hSw Q1.out; clear hSw); go_simp; (try with_reducible rfl); done)
  simp only [Act.put, List.setIfInBounds_toArray, List.set_cons_zero, List.set_cons_succ]
  refine wpAnyZ_take0 (i := 13) (oi := ⟨_, _, _, _, _, _⟩) (v := ?_) rfl (by decide +kernel) (fun _ _ _ h => h) (Or.inl ⟨by rfl, ?_⟩) (fun _ => hS) ?_
  rotate_left
  focus (intro w _; go_simp; (try with_reducible rfl); done)
  simp only [Act.put, List.setIfInBounds_toArray, List.set_cons_zero, List.set_cons_succ]
  refine wpAnyZ_take (i := 14) (oi := ⟨_, _, _, _, _, _⟩) (v := ?_) rfl (by decide +kernel) (fun _ _ _ h => h) (Or.inl ⟨by rfl, ?_⟩) hS ?_
  rotate_left
  focus (intro w hSw; (try dsimp only at hSw); (have z0 := below_cell hSw P0.out; have z1 := below_cell hSw P1.out; have z2 := below_cell hSw Q0.out; have z3 := below_cell hSw Q1.out; clear hSw); go_simp; (try with_reducible rfl); done)
  simp only [Act.put, List.setIfInBounds_toArray, List.set_cons_zero, List.set_cons_succ]
  refine wpAnyZ_take0 (i := 15) (oi := ⟨_, _, _, _, _, _⟩) (v := ?_) rfl (by decide +kernel) (fun _ _ _ h => h) (Or.inl ⟨by rfl, ?_⟩) (fun _ => hS) ?_
  rotate_left
  focus (intro w _; go_simp; (try with_reducible rfl); done)
  simp only [Act.put, List.setIfInBounds_toArray, List.set_cons_zero, List.set_cons_succ]
  refine wpAnyZ_take0 (i := 16) (oi := ⟨_, _, _, _, _, _⟩) (v := ?_) rfl (by decide +kernel) (fun _ _ _ h => h) (Or.inl ⟨by rfl, ?_⟩) (fun _ => hS) ?_
  rotate_left
  focus (intro w _; go_simp; (try with_reducible rfl); done)
  simp only [Act.put, List.setIfInBounds_toArray, List.set_cons_zero, List.set_cons_succ]
  refine wpAnyZ_take0 (i := 17) (oi := ⟨_, _, _, _, _, _⟩) (v := ?_) rfl (by decide +kernel) (fun _ _ _ h => h) (Or.inl ⟨by rfl, ?_⟩) (fun _ => hS) ?_
  rotate_left
  focus (intro w _; go_simp; (try with_reducible rfl); done)
  simp only [Act.put, List.setIfInBounds_toArray, List.set_cons_zero, List.set_cons_succ]
  refine wpAnyZ_take0 (i := 18) (oi := ⟨_, _, _, _, _, _⟩) (v := ?_) rfl (by decide +kernel) (fun _ _ _ h => h) (Or.inl ⟨by rfl, ?_⟩) (fun _ => hS) ?_
  rotate_left
  focus (intro w _; go_simp; (try with_reducible rfl); done)
  simp only [Act.put, List.setIfInBounds_toArray, List.set_cons_zero, List.set_cons_succ]
  refine wpAnyZ_take0 (i := 20) (oi := ⟨_, _, _, _, _, _⟩) (v := ?_) rfl (by decide +kernel) (fun _ _ _ h => h) (Or.inl ⟨by rfl, ?_⟩) (fun _ => hS) ?_
  rotate_left
  focus (intro w _; go_simp; (try with_reducible rfl); done)
  simp only [Act.put, List.setIfInBounds_toArray, List.set_cons_zero, List.set_cons_succ]
  have S0 := below_drew V
  refine wpAnyZ_one (i := 19) rfl (by decide +kernel) (fun K hKK => ?_)
  go_simp
  refine (behind51 gx FX s V.drew (X2.out.below S0) (by have := hI.out.small; omega)).mono ?_
  rintro e v1 ⟨P1, n1, c1, rfl, o1, d1⟩
  have S1 := S0.trans (d1.mono S0.size)
  have hl1 := OwnP.len o1
  have hn1 : n1 ≤ 1000000 := by have := hI.out.small; omega
  have hr1 := Hd.mk (Own.rd o1)
  clear hS
  have hS := S1
  refine hKK.out _ _ (fun _ => hS) ?_
  clear hKK
  clear o1 hl1 d1
  refine wpAnyZ_one (i := 21) rfl (by decide +kernel) (fun K hKK => ?_)
  go_simp
  refine (rbehind121 go FO s.rn v1 (O2.out.below S1) hRI.out).mono ?_
  rw [eb.out]
  rintro e v2 ⟨P2, n2, c2, rfl, o2, -, -, d2⟩
  have S2 := S1.trans (d2.mono S1.size)
  have hr2 := Hd.mk (Rd.below o2 d2)
  have hq2 := Hd.mk (Rd.below hr1.out d2)
  clear hS
  have hS := S2
  refine hKK.out _ _ (fun _ => hS) ?_
  clear hKK
  clear o2 d2 hr1
  refine wpAnyZ_one (i := 22) rfl (by decide +kernel) (fun K hKK => ?_)
  go_simp
  refine (same55 P1 P2 n1 c1 n2 c2 _ _ v2 hq2.out hr2.out hn1).mono ?_
  rw [show decide (s.bh = s.bh) = true from by simp]
  rintro e v3 ⟨rfl, d3⟩
  have S3 := S2.trans (d3.mono S2.size)
  clear hS
  have hS := S3
  refine hKK.out _ _ (fun _ => hS) ?_
  clear hKK
  clear d3 hr2 hq2 hn1
  refine wpAnyZ_take0 (i := 23) (oi := ⟨_, _, _, _, _, _⟩) (v := ?_) rfl (by decide +kernel) (fun _ _ _ h => h) (Or.inl ⟨by rfl, ?_⟩) (fun _ => hS) ?_
  rotate_left
  focus (intro w _; go_simp; (try with_reducible rfl); done)
  simp only [Act.put, List.setIfInBounds_toArray, List.set_cons_zero, List.set_cons_succ]
  refine wpAnyZ_take0 (i := 24) (oi := ⟨_, _, _, _, _, _⟩) (v := ?_) rfl (by decide +kernel) (fun _ _ _ h => h) (Or.inl ⟨by rfl, ?_⟩) (fun _ => hS) ?_
  rotate_left
  focus (intro w _; go_simp; (try with_reducible rfl); done)
  simp only [Act.put, List.setIfInBounds_toArray, List.set_cons_zero, List.set_cons_succ]
  refine wpAnyZ_take0 (i := 25) (oi := ⟨_, _, _, _, _, _⟩) (v := ?_) rfl (by decide +kernel) (fun _ _ _ h => h) (Or.inl ⟨by rfl, ?_⟩) (fun _ => hS) ?_
  rotate_left
  focus (intro w _; go_simp; (try with_reducible rfl); done)
  simp only [Act.put, List.setIfInBounds_toArray, List.set_cons_zero, List.set_cons_succ]
  refine wpAnyZ_take0 (i := 27) (oi := ⟨_, _, _, _, _, _⟩) (v := ?_) rfl (by decide +kernel) (fun _ _ _ h => h) (Or.inl ⟨by rfl, ?_⟩) (fun _ => hS) ?_
  rotate_left
  focus (intro w _; go_simp; (try with_reducible rfl); done)
  simp only [Act.put, List.setIfInBounds_toArray, List.set_cons_zero, List.set_cons_succ]
  refine wpAnyZ_one (i := 26) rfl (by decide +kernel) (fun K hKK => ?_)
  go_simp
  refine (ahead49 gx FX s v3 (X2.out.below S3) (by have := hI.out.small; omega)).mono ?_
  rintro e v4 ⟨P4, n4, c4, rfl, o4, d4⟩
  have S4 := S3.trans (d4.mono S3.size)
  have hl4 := OwnP.len o4
  have hn4 : n4 ≤ 1000000 := by have := hI.out.small; omega
  have hr4 := Hd.mk (Own.rd o4)
  clear hS
  have hS := S4
  refine hKK.out _ _ (fun _ => hS) ?_
  clear hKK
  clear o4 hl4 d4
  refine wpAnyZ_one (i := 28) rfl (by decide +kernel) (fun K hKK => ?_)
  go_simp
  refine (rahead122 go FO s.rn v4 (O2.out.below S4) hRI.out).mono ?_
  rw [ea.out]
  rintro e v5 ⟨P5, n5, c5, rfl, o5, -, -, d5⟩
  have S5 := S4.trans (d5.mono S4.size)
  have hr5 := Hd.mk (Rd.below o5 d5)
  have hq5 := Hd.mk (Rd.below hr4.out d5)
  clear hS
  have hS := S5
  refine hKK.out _ _ (fun _ => hS) ?_
  clear hKK
  clear o5 d5 hr4
  refine wpAnyZ_one (i := 29) rfl (by decide +kernel) (fun K hKK => ?_)
  go_simp
  refine (same55 P4 P5 n4 c4 n5 c5 _ _ v5 hq5.out hr5.out hn4).mono ?_
  rw [show decide (s.ah = s.ah) = true from by simp]
  rintro e v6 ⟨rfl, d6⟩
  have S6 := S5.trans (d6.mono S5.size)
  clear hS
  have hS := S6
  refine hKK.out _ _ (fun _ => hS) ?_
  clear hKK
  clear d6 hr5 hq5 hn4
  refine wpAnyZ_take0 (i := 30) (oi := ⟨_, _, _, _, _, _⟩) (v := ?_) rfl (by decide +kernel) (fun _ _ _ h => h) (Or.inl ⟨by rfl, ?_⟩) (fun _ => hS) ?_
  rotate_left
  focus (intro w _; go_simp; (try with_reducible rfl); done)
  simp only [Act.put, List.setIfInBounds_toArray, List.set_cons_zero, List.set_cons_succ]
  refine wpAnyZ_take0 (i := 31) (oi := ⟨_, _, _, _, _, _⟩) (v := ?_) rfl (by decide +kernel) (fun _ _ _ h => h) (Or.inl ⟨by rfl, ?_⟩) (fun _ => hS) ?_
  rotate_left
  focus (intro w _; go_simp; (try with_reducible rfl); done)
  simp only [Act.put, List.setIfInBounds_toArray, List.set_cons_zero, List.set_cons_succ]
  refine wpAnyZ_take0 (i := 32) (oi := ⟨_, _, _, _, _, _⟩) (v := ?_) rfl (by decide +kernel) (fun _ _ _ h => h) (Or.inl ⟨by rfl, ?_⟩) (fun _ => hS) ?_
  rotate_left
  focus (intro w _; go_simp; (try with_reducible rfl); done)
  simp only [Act.put, List.setIfInBounds_toArray, List.set_cons_zero, List.set_cons_succ]
  refine wpAnyZ_take0 (i := 34) (oi := ⟨_, _, _, _, _, _⟩) (v := ?_) rfl (by decide +kernel) (fun _ _ _ h => h) (Or.inl ⟨by rfl, ?_⟩) (fun _ => hS) ?_
  rotate_left
  focus (intro w _; go_simp; (try with_reducible rfl); done)
  simp only [Act.put, List.setIfInBounds_toArray, List.set_cons_zero, List.set_cons_succ]
  refine wpAnyZ_take0 (i := 35) (oi := ⟨_, _, _, _, _, _⟩) (v := ?_) rfl (by decide +kernel) (fun _ _ _ h => h) (Or.inl ⟨by rfl, ?_⟩) (fun _ => hS) ?_
  rotate_left
  focus (intro w _; go_simp; (try with_reducible rfl); done)
  simp only [Act.put, List.setIfInBounds_toArray, List.set_cons_zero, List.set_cons_succ]
  refine wpAnyZ_take0 (i := 36) (oi := ⟨_, _, _, _, _, _⟩) (v := ?_) rfl (by decide +kernel) (fun _ _ _ h => h) (Or.inl ⟨by rfl, ?_⟩) (fun _ => hS) ?_
  rotate_left
  focus (intro w _; go_simp; (try with_reducible rfl); done)
  simp only [Act.put, List.setIfInBounds_toArray, List.set_cons_zero, List.set_cons_succ]
  have hOC := O2.out
  obtain ⟨A1, n1, k1, A2, n2, k2, hC⟩ := hOC
  obtain ⟨-, -, a2', -⟩ := ref_cells hC.heap
  have A2c := Hd.mk a2'
  have hrm := Hd.mk (Own.rd hC.o2)
  clear a2' hC
  refine wpAnyZ_take (i := 37) (oi := ⟨_, _, _, _, _, _⟩) (v := ?_) rfl (by decide +kernel) (fun _ _ _ h => h) (Or.inl ⟨by rfl, ?_⟩) hS ?_
  rotate_left
  focus (intro w hSw; (try dsimp only at hSw); (have z2 := below_cell hSw A2c.out; clear hSw); go_simp; (try with_reducible rfl); done)
  simp only [Act.put, List.setIfInBounds_toArray, List.set_cons_zero, List.set_cons_succ]
  refine wpAnyZ_one (i := 33) rfl (by decide +kernel) (fun K hKK => ?_)
  go_simp
  refine (marks53 gx FX s v6 (X2.out.below S6) (by have := hI.out.small; omega)).mono ?_
  rintro e v7 ⟨P7, n7, c7, rfl, o7, d7⟩
  have S7 := S6.trans (d7.mono S6.size)
  have hl7 := OwnP.len o7
  have hn7 : n7 ≤ 1000000 := by have := hI.out.small; omega
  have hr7 := Hd.mk (Own.rd o7)
  clear hS
  have hS := S7
  refine hKK.out _ _ (fun _ => hS) ?_
  clear hKK
  clear o7 hl7 d7
  refine wpAnyZ_one (i := 38) rfl (by decide +kernel) (fun K hKK => ?_)
  go_simp
  refine (same55 P7 A2 n7 c7 n2 k2 _ _ v7 hr7.out (Rd.below hrm.out S7) hn7).mono ?_
  rw [show decide (s.mks = s.rn.m) = true from by rw [show s.rn.m = s.mks from rfl]; simp]
  rintro e v8 ⟨rfl, d8⟩
  have S8 := S7.trans (d8.mono S7.size)
  clear hS
  have hS := S8
  refine hKK.out _ _ (fun _ => hS) ?_
  clear hKK
  clear d8 hr7 hn7
  refine wpAnyZ_take0 (i := 39) (oi := ⟨_, _, _, _, _, _⟩) (v := ?_) rfl (by decide +kernel) (fun _ _ _ h => h) (Or.inl ⟨by rfl, ?_⟩) (fun _ => hS) ?_
  rotate_left
  focus (intro w _; go_simp; (try with_reducible rfl); done)
  simp only [Act.put, List.setIfInBounds_toArray, List.set_cons_zero, List.set_cons_succ]
  refine wpAnyZ_take0 (i := 40) (oi := ⟨_, _, _, _, _, _⟩) (v := ?_) rfl (by decide +kernel) (fun _ _ _ h => h) (Or.inl ⟨by rfl, ?_⟩) (fun _ => hS) ?_
  rotate_left
  focus (intro w _; go_simp; (try with_reducible rfl); done)
  simp only [Act.put, List.setIfInBounds_toArray, List.set_cons_zero, List.set_cons_succ]
  refine wpAnyZ_take0 (i := 41) (oi := ⟨_, _, _, _, _, _⟩) (v := ?_) rfl (by decide +kernel) (fun _ _ _ h => h) (Or.inl ⟨by rfl, ?_⟩) (fun _ => hS) ?_
  rotate_left
  focus (intro w _; go_simp; (try with_reducible rfl); done)
  simp only [Act.put, List.setIfInBounds_toArray, List.set_cons_zero, List.set_cons_succ]
  refine wpAnyZ_take0 (i := 44) (oi := ⟨_, _, _, _, _, _⟩) (v := ?_) rfl (by decide +kernel) (fun _ _ _ h => h) (Or.inl ⟨by rfl, ?_⟩) (fun _ => hS) ?_
  rotate_left
  focus (intro w _; go_simp; (try with_reducible rfl); done)
  simp only [Act.put, List.setIfInBounds_toArray, List.set_cons_zero, List.set_cons_succ]
  refine wpAnyZ_one (i := 42) rfl (by decide +kernel) (fun K hKK => ?_)
  go_simp
  refine (save44 gx FX s v8 (X2.out.below S8) hI.out).mono ?_
  rintro e v9 ⟨Y1, y1n, y1c, rfl, o9, d9⟩
  have hs1 := Hd.mk (Own.rd o9)
  have S9 := Hd.mk (S8.trans (d9.mono S8.size))
  clear o9 d9 hS
  refine hKK.out _ _ (fun _ => S9.out) ?_
  clear hKK
  refine wpAnyZ_less (S' := fun w' => Below v9.heap.size v9 w') (fun w h => S9.out.trans (h.mono S9.out.size)) _ _ _ _ ?_
  have hS : Below v9.heap.size v9 v9 := Below.refl _ _
  refine wpAnyZ_take (i := 43) (oi := ⟨_, _, _, _, _, _⟩) (v := ?_) rfl (by decide +kernel) (fun _ _ _ h => h) (Or.inl ⟨by rfl, ?_⟩) hS ?_
  rotate_left
  focus (intro w hSw; (try dsimp only at hSw); have hstr := run_str8 (c := y1c) (Rd.below hs1.out hSw); rw [hstr'.out] at hstr; clear hSw; go_simp; (try with_reducible rfl); done)
  simp only [Act.put, List.setIfInBounds_toArray, List.set_cons_zero, List.set_cons_succ]
  refine wpAnyZ_one (i := 45) rfl (by decide +kernel) (fun K hKK => ?_)
  go_simp
  refine (rsave123 go FO s v9 (O2.out.below S9.out) hI.out).mono ?_
  rintro e v10 ⟨Y2, y2n, y2c, rfl, o10, d10⟩
  have hs2 := Hd.mk (Own.rd o10)
  have D10 := Hd.mk d10
  have S10 := Hd.mk (S9.out.trans (d10.mono S9.out.size))
  clear o10 d10 hS
  refine hKK.out _ _ (fun _ => D10.out) ?_
  clear hKK
  refine wpAnyZ_less (S' := fun w' => Below v10.heap.size v10 w') (fun w h => D10.out.trans (h.mono D10.out.size)) _ _ _ _ ?_
  have hS : Below v10.heap.size v10 v10 := Below.refl _ _
  refine wpAnyZ_take (i := 46) (oi := ⟨_, _, _, _, _, _⟩) (v := ?_) rfl (by decide +kernel) (fun _ _ _ h => h) (Or.inl ⟨by rfl, ?_⟩) hS ?_
  rotate_left
  focus (intro w hSw; (try dsimp only at hSw); have hstr := run_str8 (c := y2c) (Rd.below hs2.out hSw); rw [hstr'.out] at hstr; clear hSw; go_simp; (try with_reducible rfl); done)
  simp only [Act.put, List.setIfInBounds_toArray, List.set_cons_zero, List.set_cons_succ]
  refine wpAnyZ_take0 (i := 47) (oi := ⟨_, _, _, _, _, _⟩) (v := ?_) rfl (by decide +kernel) (fun _ _ _ h => h) (Or.inl ⟨by rfl, ?_⟩) (fun _ => hS) ?_
  rotate_left
  focus (intro w _; go_simp; (try with_reducible rfl); done)
  simp only [Act.put, List.setIfInBounds_toArray, List.set_cons_zero, List.set_cons_succ]
  refine wpAnyZ_take0 (i := 48) (oi := ⟨_, _, _, _, _, _⟩) (v := ?_) rfl (by decide +kernel) (fun _ _ _ h => h) (Or.inl ⟨by rfl, ?_⟩) (fun _ => hS) ?_
  rotate_left
  focus (intro w _; go_simp; (try with_reducible rfl); done)
  simp only [Act.put, List.setIfInBounds_toArray, List.set_cons_zero, List.set_cons_succ]
  refine wpAnyZ_take0 (i := 49) (oi := ⟨_, _, _, _, _, _⟩) (v := ?_) rfl (by decide +kernel) (fun _ _ _ h => h) (Or.inl ⟨by rfl, ?_⟩) (fun _ => hS) ?_
  rotate_left
  focus (intro w _; go_simp; (try with_reducible rfl); done)
  simp only [Act.put, List.setIfInBounds_toArray, List.set_cons_zero, List.set_cons_succ]
  refine wpAnyZ_done (by decide +kernel) ?_
  go_wp2
  go_ret
  exact ⟨rfl, B2.out.trans (S10.out.mono B2.out.size)⟩
end Go.Proofs.Ytkgdcglnkodgnaa

