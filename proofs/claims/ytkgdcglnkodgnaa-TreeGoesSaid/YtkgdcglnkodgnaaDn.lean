/-
  The document's walk over a tree: its node (126). No condition but sizes.
-/
import Derived.Test.YtkgdcglnkodgnaaNp
import Derived.Deep.DeepCutAuto
namespace Go.Proofs.Ytkgdcglnkodgnaa
open Go.RowKit
theorem Rd8.fw {w w' : World} {A : Option Addr} {n g oc on : Nat} {l : List UInt8} {O : Option Addr} {out : List Kp} (h : Rd8 w A n l) (ht : Tch (FW g O oc) w w') (hA : 0 < n → ∀ ad, A = some ad → ad.block < g) (ho : OwnK w (g + 1) O on oc out) : Rd8 w' A n l := by
  refine ⟨h.1, fun hn => ?_⟩
  obtain ⟨ad, e, hc⟩ := h.2 hn
  refine ⟨ad, e, fun j u hu => ?_⟩
  have hb := hc j u hu
  have hlt := hA hn ad e
  rw [World.cell?_of_block (w := w) (ht.block _ (cell_lt hb) (fun hf => ?_))]
  · exact hb
  · rw [block_add] at hf
    rcases hf with hf | hf
    · omega
    · have := (Own.lt ho hf).1; omega
/-- Two operations may come next. -/
theorem wpAnyZ_twoR {P : Program} {ops : Array Oper} {Q : Exit → Act → World → Prop} {md : Region.Mode} {S : World → Prop} {Z : List Nat} {i j : Nat} {oi oj : Oper} {fuel : Nat} {listed : Array Bool} {a : Act} {w : World} (hi : ops[i]? = some oi) (hj : ops[j]? = some oj) (hr : Region.ready md ops listed = [i, j])
    (h : ∀ K' : Act → World → Prop, Shut (∀ a w, (zDone Z (listed.setIfInBounds i true) = false → S w) → wpAnyZ P md ops Q S Z fuel (listed.setIfInBounds i true) a w → K' a w) → if Region.wanted oi (yielded ops a.tmps) = true then Oper.wp P oi a w K' Q else K' (a.put oi.dst undef) w)
    (h' : ∀ K' : Act → World → Prop, Shut (∀ a w, (zDone Z (listed.setIfInBounds j true) = false → S w) → wpAnyZ P md ops Q S Z fuel (listed.setIfInBounds j true) a w → K' a w) → if Region.wanted oj (yielded ops a.tmps) = true then Oper.wp P oj a w K' Q else K' (a.put oj.dst undef) w) :
    wpAnyZ P md ops Q S Z (fuel + 1) listed a w := by
  refine ⟨fun h0 => (by rw [hr] at h0; cases h0), ?_⟩
  rw [hr]
  intro k hk
  simp only [List.mem_cons, List.not_mem_nil, or_false] at hk
  rcases hk with rfl | rfl
  · exact wpOp_step hi (fun K' hK => h K' (fun a w hS hW => hK a w ⟨hS, hW⟩))
  · exact wpOp_step hj (fun K' hK => h' K' (fun a w hS hW => hK a w ⟨hS, hW⟩))
set_option maxRecDepth 100000 in
set_option maxHeartbeats 4000000 in
theorem rnode126 (g : Nat) (A : Option Addr) (n c : Nat) (l : List UInt8) (kind : UInt8) (q : RQ) (hn : n ≤ 140737488355328) (hnc : n ≤ c) (hA : 0 < n → ∀ ad, A = some ad → ad.block < g) :
    ∀ (f : Nat) (number level : Int) (bg : Bool) (first : ByteArray) (rt : Bool) (s : RS) (O : Option Addr) (on oc : Nat) (w : World), WkO w g A n c kind q s O on oc → Rd8 w A n l → GoodR l kind s → -9223372036854775808 ≤ number → number ≤ 9223372036854775807 → (level = -1 ∧ f = 14 ∨ 0 ≤ level ∧ level < f ∧ f ≤ 13) → rt = decide (level = -1) →
      Calls Try.prog 126 #[.pointer (some ⟨g, 0, none⟩), .int .i64 number, .int .i64 level, .bool bg, .string first, .bool rt] w fun e w' =>
        e = .returned (.tuple #[]) ∧ StW w g A n c kind q (nodeR l kind q f number level bg first s) O oc w'
  | 0, _, _, _, _, _, _, _, _, _, _, _, _, _, _, _, hf, _ => absurd hf (by omega)
  | f + 1, number, level, bg, first, rt, s, O, on, oc, w, hc, h, hgood, hlo, hhi, hf, hrt => by
    have HIH := Hd.mk (rnode126 g A n c l kind q hn hnc hA f)
    have hmix := try_mixed
    have hgl := Hd.mk (Array.getElem?_eq_some_iff.1 hc.1).1
    obtain ⟨er, m, ps, hr⟩ : ∃ er m ps, Hd (readK l kind number level = (er, m, ps)) := ⟨_, _, _, ⟨rfl⟩⟩
    have HR : ∀ w : World, Rd8 w A n l → Hd (Calls Try.prog 127 #[.slice A n c, .int .u8 (kind.toNat : Int), .int .i64 number, .int .i64 level] w (RetRN w (er, m, ps))) := fun w h => ⟨by rw [← hr.out]; exact rread127 A n c l kind number level w h hn hnc hlo hhi (by omega)⟩
    have HS := Hd.mk hc
    have HD := Hd.mk h
    have HGO := Hd.mk hgood
    have HRT := Hd.mk hrt
    clear hc h hgood hrt
    go_enter Try.func126, Try.ntmps126
    go_wp2_with fail
    rename_i K0 hK0
    suffices HK : ∀ (nb pn pc : Nat) (P : Option Addr) (w4 : World), w.heap.size ≤ nb → nb < w4.heap.size → NodeAt w4 nb m P pn pc → OwnK w4 w.heap.size P pn pc ps → pn ≤ 256 → (∀ k, ownBlk P pc = some k → k ≠ nb) → Below w.heap.size w w4 → K0 { tmps := #[Value.pointer (some ⟨g, 0, none⟩), .int .i64 number, .int .i64 level, .bool bg, .string first, .bool rt, undef, undef, undef, undef, undef, undef, .pointer (some ⟨nb, 0, none⟩), .int .i64 (er : Int), undef, undef, .tuple #[.agg #[.int .i64 m, .slice P pn pc], .int .i64 (er : Int)], .pointer (some ⟨g, 0, none⟩), .pointer (some ⟨g, 0, none⟩), .pointer (some ⟨g, 0, none⟩), Value.slice A n c, .pointer (some ⟨g, 0, none⟩), .pointer (some ⟨g, 0, none⟩), .pointer (some ⟨g, 1, none⟩), .int .u8 (kind.toNat : Int), .int .i64 number, .int .i64 level, .tuple #[.agg #[.int .i64 m, .slice P pn pc], .int .i64 (er : Int)], .agg #[.int .i64 m, .slice P pn pc], .int .i64 (er : Int), undef, undef, undef, undef, undef, undef, undef, undef, undef, undef, undef, undef, undef, undef, undef, undef, undef, undef, undef, undef, undef, undef, undef, undef, undef, undef, undef, undef, undef, undef, undef, undef, undef, undef, undef, undef, undef, undef, undef, undef, undef, undef, undef, undef, undef, undef, undef, undef, undef, undef, undef, undef, undef, undef, undef, undef, undef, undef, undef, undef, undef, undef, undef, undef, undef, undef, undef, undef, undef, undef, undef, undef, undef, undef, undef, undef, undef, undef, undef, undef, undef, undef, undef, undef, undef, undef, undef, undef, undef, undef, undef], defers := [] } w4 by
      refine region_zone 17 [false, false, false, false, false, false, false, false, false, false, false, false, false, false, false, false, false] (by kernel_rfl) (by kernel_rfl) hmix (fun w' => WkR w' g A n c kind q s O on oc) [] ?_ (fun hS => ?_)
      · exact HS.out.1
      refine wpAnyZ_take0 (i := 0) (oi := ⟨_, _, _, _, _, _⟩) (v := ?_) rfl (by decide +kernel) (fun _ _ _ h => h) (Or.inl ⟨by rfl, ?_⟩) (fun _ => hS) ?_
      rotate_left
      focus (intro w _; go_simp; (try with_reducible rfl); done)
      simp only [Act.put, List.setIfInBounds_toArray, List.set_cons_zero, List.set_cons_succ]
      refine wpAnyZ_take0 (i := 1) (oi := ⟨_, _, _, _, _, _⟩) (v := ?_) rfl (by decide +kernel) (fun _ _ _ h => h) (Or.inl ⟨by rfl, ?_⟩) (fun _ => hS) ?_
      rotate_left
      focus (intro w _; go_simp; (try with_reducible rfl); done)
      simp only [Act.put, List.setIfInBounds_toArray, List.set_cons_zero, List.set_cons_succ]
      refine wpAnyZ_take0 (i := 2) (oi := ⟨_, _, _, _, _, _⟩) (v := ?_) rfl (by decide +kernel) (fun _ _ _ h => h) (Or.inl ⟨by rfl, ?_⟩) (fun _ => hS) ?_
      rotate_left
      focus (intro w _; go_simp; (try with_reducible rfl); done)
      simp only [Act.put, List.setIfInBounds_toArray, List.set_cons_zero, List.set_cons_succ]
      refine wpAnyZ_take (i := 3) (oi := ⟨_, _, _, _, _, _⟩) (v := ?_) rfl (by decide +kernel) (fun _ _ _ h => h) (Or.inl ⟨by rfl, ?_⟩) hS ?_
      rotate_left
      focus (intro w hSw; (try dsimp only at hSw); (obtain ⟨z0, z1, z2, z3, z4, z5, z6, z7, z8, z9⟩ := wkr_load hSw; clear hSw); go_simp; (try with_reducible rfl); done)
      simp only [Act.put, List.setIfInBounds_toArray, List.set_cons_zero, List.set_cons_succ]
      refine wpAnyZ_take0 (i := 4) (oi := ⟨_, _, _, _, _, _⟩) (v := ?_) rfl (by decide +kernel) (fun _ _ _ h => h) (Or.inl ⟨by rfl, ?_⟩) (fun _ => hS) ?_
      rotate_left
      focus (intro w _; go_simp; (try with_reducible rfl); done)
      simp only [Act.put, List.setIfInBounds_toArray, List.set_cons_zero, List.set_cons_succ]
      refine wpAnyZ_take0 (i := 5) (oi := ⟨_, _, _, _, _, _⟩) (v := ?_) rfl (by decide +kernel) (fun _ _ _ h => h) (Or.inl ⟨by rfl, ?_⟩) (fun _ => hS) ?_
      rotate_left
      focus (intro w _; go_simp; (try with_reducible rfl); done)
      simp only [Act.put, List.setIfInBounds_toArray, List.set_cons_zero, List.set_cons_succ]
      refine wpAnyZ_take0 (i := 6) (oi := ⟨_, _, _, _, _, _⟩) (v := ?_) rfl (by decide +kernel) (fun _ _ _ h => h) (Or.inl ⟨by rfl, ?_⟩) (fun _ => hS) ?_
      rotate_left
      focus (intro w _; go_simp; (try with_reducible rfl); done)
      simp only [Act.put, List.setIfInBounds_toArray, List.set_cons_zero, List.set_cons_succ]
      refine wpAnyZ_take (i := 7) (oi := ⟨_, _, _, _, _, _⟩) (v := ?_) rfl (by decide +kernel) (fun _ _ _ h => h) (Or.inl ⟨by rfl, ?_⟩) hS ?_
      rotate_left
      focus (intro w hSw; (try dsimp only at hSw); (obtain ⟨z0, z1, z2, z3, z4, z5, z6, z7, z8, z9⟩ := wkr_load hSw; clear hSw); go_simp; (try with_reducible rfl); done)
      simp only [Act.put, List.setIfInBounds_toArray, List.set_cons_zero, List.set_cons_succ]
      refine wpAnyZ_take0 (i := 8) (oi := ⟨_, _, _, _, _, _⟩) (v := ?_) rfl (by decide +kernel) (fun _ _ _ h => h) (Or.inl ⟨by rfl, ?_⟩) (fun _ => hS) ?_
      rotate_left
      focus (intro w _; go_simp; (try with_reducible rfl); done)
      simp only [Act.put, List.setIfInBounds_toArray, List.set_cons_zero, List.set_cons_succ]
      refine wpAnyZ_take0 (i := 9) (oi := ⟨_, _, _, _, _, _⟩) (v := ?_) rfl (by decide +kernel) (fun _ _ _ h => h) (Or.inl ⟨by rfl, ?_⟩) (fun _ => hS) ?_
      rotate_left
      focus (intro w _; go_simp; (try with_reducible rfl); done)
      simp only [Act.put, List.setIfInBounds_toArray, List.set_cons_zero, List.set_cons_succ]
      have hd1 := below_drewK w
      refine wpAnyZ_twoR (i := 10) (j := 14) rfl rfl (by decide +kernel) (fun K hKK => ?_) (fun K hKK => ?_)
      · go_simp
        refine (HR w.drew HD.out).out.mono ?_
        rintro e w1 ⟨P, pn, pc, rfl, o1, k1, b1⟩
        have S1 := Hd.mk (hd1.trans b1)
        have s1 := S1.out.size
        clear hS
        have hS := (S1.out.block g hgl.out).trans HS.out.1
        refine hKK.out _ _ (fun _ => hS) ?_
        clear hKK
        refine wpAnyZ_take0 (i := 11) (oi := ⟨_, _, _, _, _, _⟩) (v := ?_) rfl (by decide +kernel) (fun _ _ _ h => h) (Or.inl ⟨by rfl, ?_⟩) (fun _ => hS) ?_
        rotate_left
        focus (intro w _; go_simp; (try with_reducible rfl); done)
        simp only [Act.put, List.setIfInBounds_toArray, List.set_cons_zero, List.set_cons_succ]
        refine wpAnyZ_take0 (i := 12) (oi := ⟨_, _, _, _, _, _⟩) (v := ?_) rfl (by decide +kernel) (fun _ _ _ h => h) (Or.inl ⟨by rfl, ?_⟩) (fun _ => hS) ?_
        rotate_left
        focus (intro w _; go_simp; (try with_reducible rfl); done)
        simp only [Act.put, List.setIfInBounds_toArray, List.set_cons_zero, List.set_cons_succ]
        refine wpAnyZ_take0 (i := 13) (oi := ⟨_, _, _, _, _, _⟩) (v := ?_) rfl (by decide +kernel) (fun _ _ _ h => h) (Or.inl ⟨by rfl, ?_⟩) (fun _ => hS) ?_
        rotate_left
        focus (intro w _; go_simp; (try with_reducible rfl); done)
        simp only [Act.put, List.setIfInBounds_toArray, List.set_cons_zero, List.set_cons_succ]
        refine wpAnyZ_one (i := 14) rfl (by decide +kernel) (fun K hKK => ?_)
        go_simp
        clear hS
        have hS := ((S1.out.alloc s1 (.cells #[.int .i64 0, .slice none 0 0] 188)).block g hgl.out).trans HS.out.1
        refine hKK.out _ _ (fun _ => hS) ?_
        clear hKK
        refine wpAnyZ_one (i := 15) rfl (by decide +kernel) (fun K hKK => ?_)
        go_simp
        clear hS
        have hS := ((S1.out.alloc s1 (.cells #[.int .i64 m, .slice P pn pc] 188)).block g hgl.out).trans HS.out.1
        refine hKK.out _ _ (fun _ => hS) ?_
        clear hKK
        refine wpAnyZ_take0 (i := 16) (oi := ⟨_, _, _, _, _, _⟩) (v := ?_) rfl (by decide +kernel) (fun _ _ _ h => h) (Or.inl ⟨by rfl, ?_⟩) (fun _ => hS) ?_
        rotate_left
        focus (intro w _; go_simp; (try with_reducible rfl); done)
        simp only [Act.put, List.setIfInBounds_toArray, List.set_cons_zero, List.set_cons_succ]
        refine wpAnyZ_done (by decide +kernel) ?_
        exact HK w1.heap.size pn pc P _ (by omega) (by simp) (node_new w1 m P pn pc) (Own.alloc o1 _) k1 (fun k e => by have := (Own.lt o1 e).2; omega) (S1.out.alloc s1 _)
      · go_simp
        obtain ⟨Wn, hWn⟩ : ∃ Wn, Hd ((w.alloc (.cells #[.int .i64 0, .slice none 0 0] 188)).drew = Wn) := ⟨_, ⟨rfl⟩⟩
        have dn1 : Hd (Below w.heap.size w Wn) := ⟨by rw [← hWn.out]; exact ((Below.refl _ _).alloc (Nat.le_refl _) _).trans ((below_drewK _).mono (by simp))⟩
        have nd1 : Hd (NodeAt Wn w.heap.size 0 none 0 0) := ⟨by rw [← hWn.out]; exact node_new w 0 none 0 0⟩
        have sz1 : Wn.heap.size = w.heap.size + 1 := by rw [← hWn.out]; simp
        rw [hWn.out]
        clear hS
        have hS := (dn1.out.block g hgl.out).trans HS.out.1
        refine hKK.out _ _ (fun _ => hS) ?_
        clear hKK
        refine wpAnyZ_one (i := 10) rfl (by decide +kernel) (fun K hKK => ?_)
        go_simp
        refine (HR Wn (HD.out.below dn1.out)).out.mono ?_
        rintro e w1 ⟨P, pn, pc, rfl, o1, k1, b1⟩
        have S1 := Hd.mk (dn1.out.trans (b1.mono dn1.out.size))
        have nd2 := Hd.mk ((b1.block w.heap.size (by omega)).trans nd1.out)
        have nd2' : Hd (NodeAt w1 w.heap.size 0 none 0 0) := ⟨nd2.out⟩
        clear hS
        have hS := (S1.out.block g hgl.out).trans HS.out.1
        refine hKK.out _ _ (fun _ => hS) ?_
        clear hKK
        refine wpAnyZ_take0 (i := 11) (oi := ⟨_, _, _, _, _, _⟩) (v := ?_) rfl (by decide +kernel) (fun _ _ _ h => h) (Or.inl ⟨by rfl, ?_⟩) (fun _ => hS) ?_
        rotate_left
        focus (intro w _; go_simp; (try with_reducible rfl); done)
        simp only [Act.put, List.setIfInBounds_toArray, List.set_cons_zero, List.set_cons_succ]
        refine wpAnyZ_take0 (i := 12) (oi := ⟨_, _, _, _, _, _⟩) (v := ?_) rfl (by decide +kernel) (fun _ _ _ h => h) (Or.inl ⟨by rfl, ?_⟩) (fun _ => hS) ?_
        rotate_left
        focus (intro w _; go_simp; (try with_reducible rfl); done)
        simp only [Act.put, List.setIfInBounds_toArray, List.set_cons_zero, List.set_cons_succ]
        refine wpAnyZ_take0 (i := 13) (oi := ⟨_, _, _, _, _, _⟩) (v := ?_) rfl (by decide +kernel) (fun _ _ _ h => h) (Or.inl ⟨by rfl, ?_⟩) (fun _ => hS) ?_
        rotate_left
        focus (intro w _; go_simp; (try with_reducible rfl); done)
        simp only [Act.put, List.setIfInBounds_toArray, List.set_cons_zero, List.set_cons_succ]
        obtain ⟨u0, u1, u2, u3⟩ := nd2'.out.load
        refine wpAnyZ_one (i := 15) rfl (by decide +kernel) (fun K hKK => ?_)
        go_simp
        have hg1 := grown_cell (w := w1) (g := w.heap.size) (i := 0) (.int .i64 m)
        have hg2 := grown_cell (w := w1.setCell ⟨w.heap.size, 0, none⟩ (.int .i64 m)) (g := w.heap.size) (i := 1) (.slice P pn pc)
        have B4 : Below w.heap.size w ((w1.setCell ⟨w.heap.size, 0, none⟩ (.int .i64 m)).setCell ⟨w.heap.size, 1, none⟩ (.slice P pn pc)) := below_node S1.out
        clear hS
        have hS := (B4.block g hgl.out).trans HS.out.1
        refine hKK.out _ _ (fun _ => hS) ?_
        clear hKK
        refine wpAnyZ_take0 (i := 16) (oi := ⟨_, _, _, _, _, _⟩) (v := ?_) rfl (by decide +kernel) (fun _ _ _ h => h) (Or.inl ⟨by rfl, ?_⟩) (fun _ => hS) ?_
        rotate_left
        focus (intro w _; go_simp; (try with_reducible rfl); done)
        simp only [Act.put, List.setIfInBounds_toArray, List.set_cons_zero, List.set_cons_succ]
        refine wpAnyZ_done (by decide +kernel) ?_
        have s1 := S1.out.size
        have s2 := b1.size
        exact HK w.heap.size pn pc P _ (Nat.le_refl _) (by have := (Array.getElem?_eq_some_iff.1 (nd2'.out.set (m' := m) (A' := P) (n' := pn) (c' := pc))).1; exact this) nd2'.out.set
          (OwnK.mono (Own.grown (Own.grown o1 hg1 (fun x hx e => by injection e with e; have := (Own.lt o1 hx).1; omega)) hg2 (fun x hx e => by injection e with e; have := (Own.lt o1 hx).1; omega)) (by omega)) k1 (fun k e => by have := (Own.lt o1 e).1; omega) B4
    rintro nb pn pc P w4 hnb1 hnb2 HN0 HO0 hpn hnP HB0
    have HN := Hd.mk HN0
    have HO := Hd.mk HO0
    have HNP := Hd.mk hnP
    have HB := Hd.mk HB0
    have hs4 := HB0.size
    have HS4 : Hd (WkO w4 g A n c kind q s O on oc) := ⟨(HB0.block g hgl.out).trans HS.out.1, Own.below HS.out.2 HB0⟩
    have HD4 := Hd.mk (HD.out.below HB0)
    have hplen : Hd (ps.length = pn) := ⟨HO0.len⟩
    have HPG : Hd (0 < pn → ∀ ad, P = some ad → ad.block ≠ g ∧ ¬ ownBlk O oc = some ad.block) := ⟨fun hpos ad hP => by
      have h1 := Own.lt HO0 (g := ad.block) (by have := (Own.le HO0).1; simp [ownBlk, hP]; omega)
      exact ⟨by have := hgl.out; omega, fun e => by have := (Own.lt HS.out.2 e).2; omega⟩⟩
    have HL : Hd (0 < pn → LfS w w4 g A n c kind q s O on oc nb m P pn pc ps O oc) := ⟨fun hpos => ⟨HS4.out.1, HS4.out.2, HN0, hpos, Own.rd HO0, HPG.out hpos, ⟨by have := hgl.out; omega, fun e => by have := (Own.lt HS.out.2 e).2; omega⟩, Tch.of_below HB0, fun k e => .inl e⟩⟩
    have HST : Hd (∀ s' w', StW w4 g A n c kind q s' O oc w' → StW w g A n c kind q s' O oc w') := ⟨fun s' w' h => StW.then_ (Tch.of_below HB.out) (fun k e => .inl e) h⟩
    clear HN0 HO0 hnP HB0 HS HD HR
    refine hK0 _ _ ?_
    clear hK0
    by_cases he : er ≠ 0
    · have e1 : ((er : Int) != 0) = true := by simp; omega
      have hres : Hd (nodeR l kind q (f + 1) number level bg first s = { s with bad := er }) := ⟨nodeR_err hr.out he⟩
      obtain ⟨z0, z1, z2, z3, z4, z5, z6, z7, z8, z9⟩ := wkr_load HS4.out.1
      have f7 := frozen_of_row w4 g 7 _ _ HS4.out.1
      clear he HIH
      go_wp2_with fail
      refine bodyPost_ret (results_none rfl _ _ _) rfl ?_
      rw [hres.out]
      exact ⟨rfl, HST.out _ _ ⟨O, on, oc, ⟨(heap_setCell_same _ g 7 _ _ _ HS4.out.1).trans rfl, Own.grown HS4.out.2 (grown_cell (g := g) (i := 7) _) (fun x hx e => by injection e with e; have := (Own.lt HS4.out.2 hx).1; omega)⟩, Tch.setCell _ _ g 7 _ (.inl (.inl rfl)), fun k e => .inl e⟩⟩
    have he : er = 0 := by omega
    subst he
    have hok := readK_ok hr.out
    have hm0 := hok.1
    have hm12 := hok.2.1
    have hml : level = -1 ∨ m = level := hok.2.2.1
    have hsort := Hd.mk hok.2.2.2.1
    have hps := Hd.mk hok.2.2.2.2.1
    have hnil := Hd.mk hok.2.2.2.2.2.1
    clear hok
    by_cases hfi : q.whole = true ∧ level ≠ -1 ∧ headK ps ≠ first
    · obtain ⟨p, r, rfl⟩ : ∃ p r, ps = p :: r := by
        cases ps with
        | nil => exact absurd (hnil.out rfl).1 hfi.2.1
        | cons p r => exact ⟨p, r, rfl⟩
      have hres : Hd (nodeR l kind q (f + 1) number level bg first s = { s with bad := 202 }) := ⟨nodeR_first hr.out hfi⟩
      have hpn0 : 0 < pn := by have := hplen.out; simp at this; omega
      have hpn1 : (0 : Int) < (pn : Int) := by omega
      obtain ⟨z0, z1, z2, z3, z4, z5, z6, z7, z8, z9⟩ := wkr_load HS4.out.1
      rw [hfi.1] at z8
      have f7 := frozen_of_row w4 g 7 _ _ HS4.out.1
      obtain ⟨u0, u1, u2, u3⟩ := HN.out.load
      obtain ⟨ad, rfl, q0, -⟩ := RdK.get (k := 0) (p := p) (Own.rd HO.out) rfl
      have q0' : w4.cell? ad = some (.string p.1) := by simpa [Addr.add] using q0
      obtain rfl : rt = false := by rw [HRT.out]; simpa using hfi.2.1
      have e2 : (p.1.toList == first.toList) = false := by rw [beq_eq_false_iff_ne]; exact fun e => hfi.2.2 (key_ext e)
      clear hfi HIH hml hf q0
      go_wp2_with fail
      refine bodyPost_ret (results_none rfl _ _ _) rfl ?_
      rw [hres.out]
      exact ⟨rfl, HST.out _ _ ⟨O, on, oc, ⟨(heap_setCell_same _ g 7 _ _ _ HS4.out.1).trans rfl, Own.grown HS4.out.2 (grown_cell (g := g) (i := 7) _) (fun x hx e => by injection e with e; have := (Own.lt HS4.out.2 hx).1; omega)⟩, Tch.setCell _ _ g 7 _ (.inl (.inl rfl)), fun k e => .inl e⟩⟩
    have hfi' := Hd.mk hfi
    have hways : q.whole = false ∨ (q.whole = true ∧ rt = true) ∨ (q.whole = true ∧ rt = false ∧ ∃ p r, ps = p :: r ∧ p.1 = first) := by
      cases hq : q.whole
      · exact .inl rfl
      · right
        by_cases h1 : level = -1
        · left; exact ⟨rfl, by rw [HRT.out]; simpa using h1⟩
        · right
          refine ⟨rfl, by rw [HRT.out]; simpa using h1, ?_⟩
          cases ps with
          | nil => exact absurd (hnil.out rfl).1 h1
          | cons p r => exact ⟨p, r, rfl, Decidable.byContradiction fun h2 => hfi ⟨hq, h1, h2⟩⟩
    clear hfi
    go_upto_region 3 with fail
    go_cut [52] from 36 to 52 (fun v wc => v = .bool false ∧ wc = w4)
    case first =>
      obtain ⟨z0, z1, z2, z3, z4, z5, z6, z7, z8, z9⟩ := wkr_load HS4.out.1
      obtain ⟨u0, u1, u2, u3⟩ := HN.out.load
      rcases hways with hq | ⟨hq, rfl⟩ | ⟨hq, rfl, p, r, rfl, hpf⟩
      · rw [hq] at z8
        go_wp2_with fail
        go_meet
        case rel => exact ⟨rfl, rfl⟩
      · rw [hq] at z8
        go_wp2_with fail
        go_meet
        case rel => exact ⟨rfl, rfl⟩
      · rw [hq] at z8
        have hpn0 : 0 < pn := by have := hplen.out; simp at this; omega
        have hpn1 : (0 : Int) < (pn : Int) := by omega
        obtain ⟨ad, rfl, q0, -⟩ := RdK.get (k := 0) (p := p) (Own.rd HO.out) rfl
        have q0' : w4.cell? ad = some (.string p.1) := by simpa [Addr.add] using q0
        have e2 : (p.1.toList == first.toList) = true := by rw [hpf]; simp
        clear q0
        go_wp2_with fail
        go_meet
        case rel => exact ⟨rfl, rfl⟩
    case rest =>
      obtain ⟨rfl, rfl⟩ := hcut
      obtain ⟨u0, u1, u2, u3⟩ := HN.out.load
      have hbr : s.read ≤ 4194304 := HGO.out.rd.bound
      have hbm : s.many ≤ 4194304 := HGO.out.mn.bound
      have hbo : on ≤ 4194304 := by have h1 := OwnK.len HS4.out.2; have h2 := HGO.out.o; omega
      clear hways
      by_cases hmz : m = 0
      · subst hmz
        have hres : Hd (nodeR l kind q (f + 1) number level bg first s = leafR q ps s) := ⟨nodeR_leaf hr.out hfi'.out⟩
        have HLF := Hd.mk (rleaf162 g A n c kind q s O on oc 0 P pn pc ps bg wc HS4.out (Own.rd HO.out) hpn HPG.out hbr hbm hbo)
        clear HIH hml hf
        go_wp2_with fail
        refine HLF.out.mono ?_
        rintro e w6 ⟨rfl, hst⟩
        have HST6 := Hd.mk hst
        clear hst
        go_wp2_with fail
        refine bodyPost_ret (results_none rfl _ _ _) rfl ?_
        rw [hres.out]
        exact ⟨rfl, HST.out _ _ HST6.out⟩
      · obtain ⟨p, r, hpr⟩ : ∃ p r, ps = p :: r := by
          cases ps with
          | nil => exact absurd (hnil.out rfl).2 hmz
          | cons p r => exact ⟨p, r, rfl⟩
        have hpn0 : 0 < pn := by have := hplen.out; rw [hpr] at this; simp at this; omega
        have L0 := Hd.mk (HL.out hpn0)
        obtain ⟨fr, hfr⟩ : ∃ fr, Hd ((if bg = true then behindK q.key ps - 1 else 0) = fr) := ⟨_, ⟨rfl⟩⟩
        have hres : Hd (nodeR l kind q (f + 1) number level bg first s = overR q (fun n' e f' s => nodeR l kind q f n' (m - 1) e f' s) bg (ps.drop fr) s) := ⟨by rw [nodeR_over hr.out hfi'.out hmz, hfr.out]⟩
        have e5 : (m == 0) = false := by simp; omega
        have hfrn : fr ≤ pn := by
          have h1 := hfr.out
          have h2 := behindK_le q.key ps
          have := hplen.out
          split at h1 <;> omega
        clear HL HST HPG HNP
        go_upto_if 63 with fail
        go_cut [14] from 64 to 70 (fun v wd => v = .int .i64 (fr : Int) ∧ Hd (Below wc.heap.size wc wd))
        case first =>
          cases bg with
          | false =>
            obtain rfl : fr = 0 := by have := hfr.out; simpa using this.symm
            go_wp2_with fail
            go_meet
            case rel => exact ⟨rfl, ⟨Below.refl _ _⟩⟩
          | true =>
            have hfr2 : behindK q.key ps - 1 = fr := by have := hfr.out; simpa using this
            have HLA : ∀ W, Below wc.heap.size wc W → Hd (Calls Try.prog 128 #[.agg #[.int .i64 m, .slice P pn pc], .string q.key] W fun e w' => e = .returned (.int .i64 ((behindK q.key ps : Int) - 1)) ∧ w' = W.alloc (.cells #[.int .i64 m, .slice P pn pc] 188)) := fun W hW => ⟨last128 m P pn pc ps q.key W (Rd.below (Own.rd HO.out) hW) hpn hsort.out⟩
            obtain ⟨bk, hbk⟩ : ∃ bk, behindK q.key ps = bk := ⟨_, rfl⟩
            rw [hbk] at HLA hfr2
            go_wp2_with fail
            refine region_zone 8 [false, false, false, false, false, false, false, false] (by kernel_rfl) (by kernel_rfl) hmix (fun w' => LfS w w' g A n c kind q s O on oc nb m P pn pc ps O oc) [] ?_ (fun hS => ?_)
            · exact L0.out.below (below_drewK wc)
            refine wpAnyZ_take (i := 0) (oi := ⟨_, _, _, _, _, _⟩) (v := ?_) rfl (by decide +kernel) (fun _ _ _ h => h) (Or.inl ⟨by rfl, ?_⟩) hS ?_
            rotate_left
            focus (intro w hSw; (try dsimp only at hSw); (obtain ⟨z0, z1, z2, z3, z4, z5, z6, z7, z8, z9⟩ := wkr_load hSw.wk; obtain ⟨u0, u1, u2, u3⟩ := hSw.nd.load; clear hSw); go_simp; (try with_reducible rfl); done)
            simp only [Act.put, List.setIfInBounds_toArray, List.set_cons_zero, List.set_cons_succ]
            refine wpAnyZ_take0 (i := 1) (oi := ⟨_, _, _, _, _, _⟩) (v := ?_) rfl (by decide +kernel) (fun _ _ _ h => h) (Or.inl ⟨by rfl, ?_⟩) (fun _ => hS) ?_
            rotate_left
            focus (intro w _; go_simp; (try with_reducible rfl); done)
            simp only [Act.put, List.setIfInBounds_toArray, List.set_cons_zero, List.set_cons_succ]
            refine wpAnyZ_take0 (i := 2) (oi := ⟨_, _, _, _, _, _⟩) (v := ?_) rfl (by decide +kernel) (fun _ _ _ h => h) (Or.inl ⟨by rfl, ?_⟩) (fun _ => hS) ?_
            rotate_left
            focus (intro w _; go_simp; (try with_reducible rfl); done)
            simp only [Act.put, List.setIfInBounds_toArray, List.set_cons_zero, List.set_cons_succ]
            refine wpAnyZ_take0 (i := 3) (oi := ⟨_, _, _, _, _, _⟩) (v := ?_) rfl (by decide +kernel) (fun _ _ _ h => h) (Or.inl ⟨by rfl, ?_⟩) (fun _ => hS) ?_
            rotate_left
            focus (intro w _; go_simp; (try with_reducible rfl); done)
            simp only [Act.put, List.setIfInBounds_toArray, List.set_cons_zero, List.set_cons_succ]
            refine wpAnyZ_take (i := 4) (oi := ⟨_, _, _, _, _, _⟩) (v := ?_) rfl (by decide +kernel) (fun _ _ _ h => h) (Or.inl ⟨by rfl, ?_⟩) hS ?_
            rotate_left
            focus (intro w hSw; (try dsimp only at hSw); (obtain ⟨z0, z1, z2, z3, z4, z5, z6, z7, z8, z9⟩ := wkr_load hSw.wk; obtain ⟨u0, u1, u2, u3⟩ := hSw.nd.load; clear hSw); go_simp; (try with_reducible rfl); done)
            simp only [Act.put, List.setIfInBounds_toArray, List.set_cons_zero, List.set_cons_succ]
            refine wpAnyZ_one (i := 5) rfl (by decide +kernel) (fun K hKK => ?_)
            go_simp
            refine (HLA wc.drew (below_drewK wc)).out.mono ?_
            rintro e w6 ⟨rfl, hw6⟩
            have B6 : Hd (Below wc.heap.size wc w6) := ⟨by rw [hw6]; exact (below_drewK wc).alloc (Nat.le_refl _) _⟩
            clear hw6
            clear hS
            have hS := L0.out.below B6.out
            refine hKK.out _ _ (fun _ => hS) ?_
            clear hKK
            by_cases hb0 : bk = 0
            · subst hb0
              obtain rfl : fr = 0 := by omega
              refine wpAnyZ_take0 (i := 6) (oi := ⟨_, _, _, _, _, _⟩) (v := ?_) rfl (by decide +kernel) (fun _ _ _ h => h) (Or.inl ⟨by rfl, ?_⟩) (fun _ => hS) ?_
              rotate_left
              focus (intro w _; go_simp; (try with_reducible rfl); done)
              simp only [Act.put, List.setIfInBounds_toArray, List.set_cons_zero, List.set_cons_succ]
              refine wpAnyZ_take0 (i := 7) (oi := ⟨_, _, _, _, _, _⟩) (v := ?_) rfl (by decide +kernel) (fun _ _ _ h => h) (Or.inl ⟨by rfl, ?_⟩) (fun _ => hS) ?_
              rotate_left
              focus (intro w _; go_simp; (try with_reducible rfl); done)
              simp only [Act.put, List.setIfInBounds_toArray, List.set_cons_zero, List.set_cons_succ]
              refine wpAnyZ_done (by decide +kernel) ?_
              go_wp2_with fail
              go_meet
              case rel => exact ⟨rfl, B6⟩
            · obtain ⟨b', rfl⟩ : ∃ b', bk = b' + 1 := ⟨bk - 1, by omega⟩
              obtain rfl : fr = b' := by omega
              have hmx : (if 0 < fr then (fr : Int) else 0) = (fr : Int) := by split <;> omega
              refine wpAnyZ_take0 (i := 6) (oi := ⟨_, _, _, _, _, _⟩) (v := ?_) rfl (by decide +kernel) (fun _ _ _ h => h) (Or.inl ⟨by rfl, ?_⟩) (fun _ => hS) ?_
              rotate_left
              focus (intro w _; go_simp; (try with_reducible rfl); done)
              simp only [Act.put, List.setIfInBounds_toArray, List.set_cons_zero, List.set_cons_succ]
              refine wpAnyZ_take0 (i := 7) (oi := ⟨_, _, _, _, _, _⟩) (v := ?_) rfl (by decide +kernel) (fun _ _ _ h => h) (Or.inl ⟨by rfl, ?_⟩) (fun _ => hS) ?_
              rotate_left
              focus (intro w _; go_simp; (try with_reducible rfl); done)
              simp only [Act.put, List.setIfInBounds_toArray, List.set_cons_zero, List.set_cons_succ]
              refine wpAnyZ_done (by decide +kernel) ?_
              go_wp2_with fail
              go_meet
              case rel => exact ⟨rfl, B6⟩
        case rest =>
          obtain ⟨rfl, HB5⟩ := hcut
          rename_i w5
          have L1 := Hd.mk (L0.out.below HB5.out)
          have HD5 := Hd.mk (HD4.out.below HB5.out)
          have e6 : IntKind.i64.wrap (m - 1) = m - 1 := by rw [IntKind.wrap_i64]; omega
          have hf2 : m - 1 = -1 ∧ f = 14 ∨ 0 ≤ m - 1 ∧ m - 1 < f ∧ f ≤ 13 := by right; refine ⟨by omega, ?_, by omega⟩; rcases hf with h1 | h1 <;> rcases hml with h2 | h2 <;> omega
          have hm1 : m - 1 ≠ -1 := by omega
          clear u0 u1 u2 u3 hml hf hfi' hnil L0 HS4 HD4 HB5 hbr hbm hbo
          go_wp2_with fail
          go_loopw [15] (fun iv wr => ∃ (i on' oc' : Nat) (O' : Option Addr) (s' : RS), iv = .int .i64 (i : Int) ∧ fr ≤ i ∧ i ≤ pn ∧ Hd (LfS w wr g A n c kind q s' O' on' oc' nb m P pn pc ps O oc) ∧ Hd (GoodR l kind s') ∧ Hd (Rd8 wr A n l) ∧
              Hd (overR q (fun n' e f' s => nodeR l kind q f n' (m - 1) e f' s) bg (ps.drop fr) s = overR q (fun n' e f' s => nodeR l kind q f n' (m - 1) e f' s) (bg && ((i : Int) == (fr : Int))) (ps.drop i) s'))
            (fun iv _ => pn - (intOf iv).toNat)
          case atStart => exact ⟨fr, on, oc, O, s, rfl, Nat.le_refl _, hfrn, L1, HGO, HD5, ⟨by simp⟩⟩
          case round =>
            obtain ⟨i, on', oc', O', s', rfl, hfi, hin, hL, hG, hD, hov⟩ := hrel
            by_cases hlt : i < pn
            · obtain ⟨pi, hpi⟩ : ∃ pi, Hd (ps[i]? = some pi) := ⟨ps[i]'(by have := hplen.out; omega), ⟨List.getElem?_eq_getElem _⟩⟩
              have hd : Hd (ps.drop i = pi :: ps.drop (i + 1)) := ⟨by
                obtain ⟨hk, e⟩ := List.getElem?_eq_some_iff.1 hpi.out
                rw [← e]; exact List.drop_eq_getElem_cons hk⟩
              have i1 : decide ((i : Int) < (pn : Int)) = true := by simp; omega
              have i2 : (i : Int) < (pn : Int) := by omega
              have i0 : (0 : Int) ≤ (i : Int) := by omega
              have hlen : Hd (s'.out.length = on') := ⟨OwnK.len hL.out.own⟩
              by_cases hbad : s'.bad = 0
              · have c1 : ((s'.bad : Int) == 0) = true := by rw [hbad]; rfl
                by_cases hmo : (on' : Int) < q.most
                · have m1 : decide ((on' : Int) < q.most) = true := by simpa using hmo
                  have hov2 : Hd (overR q (fun n' e f' s => nodeR l kind q f n' (m - 1) e f' s) bg (ps.drop fr) s = overR q (fun n' e f' s => nodeR l kind q f n' (m - 1) e f' s) false (ps.drop (i + 1)) (nodeR l kind q f pi.2 (m - 1) (bg && ((i : Int) == (fr : Int))) pi.1 s')) := ⟨by
                    rw [hov.out, hd.out, overR, if_pos ⟨hbad, by rw [hlen.out]; exact hmo⟩]⟩
                  obtain ⟨-, hp0, hp1⟩ := hps.out pi (List.mem_of_getElem? hpi.out)
                  have QJ : ∀ {w1 : World}, RdK w1 P pn ps → ∃ ad, P = some ad ∧ w1.cell? (ad.add (i * 2)) = some (.string pi.1) ∧ w1.cell? ⟨(ad.add (i * 2)).block, (ad.add (i * 2)).off + 1, none⟩ = some (.int .i64 pi.2) := fun h => RdK.get h hpi.out
                  obtain ⟨ad, hade, -, -⟩ := QJ hL.out.rd
                  subst hade
                  clear hov hd hbad hmo
                  go_wp2_with fail
                  refine region_zone 24 [false, false, false, false, false, false, false, false, false, false, false, false, false, false, false, false, false, false, false, false, false, false, false, false] (by kernel_rfl) (by kernel_rfl) hmix (fun w' => LfS w w' g A n c kind q s' O' on' oc' nb m (some ad) pn pc ps O oc) [] ?_ (fun hS => ?_)
                  · exact hL.out.below (below_drewK wr)
                  refine wpAnyZ_take0 (i := 0) (oi := ⟨_, _, _, _, _, _⟩) (v := ?_) rfl (by decide +kernel) (fun _ _ _ h => h) (Or.inl ⟨by rfl, ?_⟩) (fun _ => hS) ?_
                  rotate_left
                  focus (intro w _; go_simp; (try with_reducible rfl); done)
                  simp only [Act.put, List.setIfInBounds_toArray, List.set_cons_zero, List.set_cons_succ]
                  refine wpAnyZ_take0 (i := 1) (oi := ⟨_, _, _, _, _, _⟩) (v := ?_) rfl (by decide +kernel) (fun _ _ _ h => h) (Or.inl ⟨by rfl, ?_⟩) (fun _ => hS) ?_
                  rotate_left
                  focus (intro w _; go_simp; (try with_reducible rfl); done)
                  simp only [Act.put, List.setIfInBounds_toArray, List.set_cons_zero, List.set_cons_succ]
                  refine wpAnyZ_take (i := 2) (oi := ⟨_, _, _, _, _, _⟩) (v := ?_) rfl (by decide +kernel) (fun _ _ _ h => h) (Or.inl ⟨by rfl, ?_⟩) hS ?_
                  rotate_left
                  focus (intro w hSw; (try dsimp only at hSw); (obtain ⟨z0, z1, z2, z3, z4, z5, z6, z7, z8, z9⟩ := wkr_load hSw.wk; obtain ⟨u0, u1, u2, u3⟩ := hSw.nd.load; clear hSw); go_simp; (try with_reducible rfl); done)
                  simp only [Act.put, List.setIfInBounds_toArray, List.set_cons_zero, List.set_cons_succ]
                  refine wpAnyZ_take0 (i := 3) (oi := ⟨_, _, _, _, _, _⟩) (v := ?_) rfl (by decide +kernel) (fun _ _ _ h => h) (Or.inl ⟨by rfl, ?_⟩) (fun _ => hS) ?_
                  rotate_left
                  focus (intro w _; go_simp; (try with_reducible rfl); done)
                  simp only [Act.put, List.setIfInBounds_toArray, List.set_cons_zero, List.set_cons_succ]
                  refine wpAnyZ_take0 (i := 4) (oi := ⟨_, _, _, _, _, _⟩) (v := ?_) rfl (by decide +kernel) (fun _ _ _ h => h) (Or.inl ⟨by rfl, ?_⟩) (fun _ => hS) ?_
                  rotate_left
                  focus (intro w _; go_simp; (try with_reducible rfl); done)
                  simp only [Act.put, List.setIfInBounds_toArray, List.set_cons_zero, List.set_cons_succ]
                  refine wpAnyZ_take0 (i := 5) (oi := ⟨_, _, _, _, _, _⟩) (v := ?_) rfl (by decide +kernel) (fun _ _ _ h => h) (Or.inl ⟨by rfl, ?_⟩) (fun _ => hS) ?_
                  rotate_left
                  focus (intro w _; go_simp; (try with_reducible rfl); done)
                  simp only [Act.put, List.setIfInBounds_toArray, List.set_cons_zero, List.set_cons_succ]
                  first
                    | (refine wpAnyZ_take0 (i := 6) (oi := ⟨_, _, _, _, _, _⟩) (v := undef) rfl (by decide +kernel) (fun _ _ _ h => h) (Or.inr ⟨by rfl, rfl⟩) (fun _ => hS) ?_)
                    | (refine wpAnyZ_take0 (i := 6) (oi := ⟨_, _, _, _, _, _⟩) (v := ?_) rfl (by decide +kernel) (fun _ _ _ h => h) (Or.inl ⟨by rfl, ?_⟩) (fun _ => hS) ?_; rotate_left; focus (intro w hSw; go_simp; (try with_reducible rfl); done))
                  simp only [Act.put, List.setIfInBounds_toArray, List.set_cons_zero, List.set_cons_succ]
                  first
                    | (refine wpAnyZ_take0 (i := 7) (oi := ⟨_, _, _, _, _, _⟩) (v := undef) rfl (by decide +kernel) (fun _ _ _ h => h) (Or.inr ⟨by rfl, rfl⟩) (fun _ => hS) ?_)
                    | (refine wpAnyZ_take0 (i := 7) (oi := ⟨_, _, _, _, _, _⟩) (v := ?_) rfl (by decide +kernel) (fun _ _ _ h => h) (Or.inl ⟨by rfl, ?_⟩) (fun _ => hS) ?_; rotate_left; focus (intro w hSw; go_simp; (try with_reducible rfl); done))
                  simp only [Act.put, List.setIfInBounds_toArray, List.set_cons_zero, List.set_cons_succ]
                  first
                    | (refine wpAnyZ_take0 (i := 8) (oi := ⟨_, _, _, _, _, _⟩) (v := undef) rfl (by decide +kernel) (fun _ _ _ h => h) (Or.inr ⟨by rfl, rfl⟩) (fun _ => hS) ?_)
                    | (refine wpAnyZ_take0 (i := 8) (oi := ⟨_, _, _, _, _, _⟩) (v := ?_) rfl (by decide +kernel) (fun _ _ _ h => h) (Or.inl ⟨by rfl, ?_⟩) (fun _ => hS) ?_; rotate_left; focus (intro w hSw; go_simp; (try with_reducible rfl); done))
                  simp only [Act.put, List.setIfInBounds_toArray, List.set_cons_zero, List.set_cons_succ]
                  first
                    | (refine wpAnyZ_take (i := 9) (oi := ⟨_, _, _, _, _, _⟩) (v := undef) rfl (by decide +kernel) (fun _ _ _ h => h) (Or.inr ⟨by rfl, rfl⟩) hS ?_)
                    | (refine wpAnyZ_take (i := 9) (oi := ⟨_, _, _, _, _, _⟩) (v := ?_) rfl (by decide +kernel) (fun _ _ _ h => h) (Or.inl ⟨by rfl, ?_⟩) hS ?_; rotate_left; focus (intro w hSw; (try dsimp only at hSw); (obtain ⟨z0, z1, z2, z3, z4, z5, z6, z7, z8, z9⟩ := wkr_load hSw.wk; obtain ⟨u0, u1, u2, u3⟩ := hSw.nd.load; clear hSw); go_simp; (try with_reducible rfl); done))
                  simp only [Act.put, List.setIfInBounds_toArray, List.set_cons_zero, List.set_cons_succ]
                  first
                    | (refine wpAnyZ_take0 (i := 10) (oi := ⟨_, _, _, _, _, _⟩) (v := undef) rfl (by decide +kernel) (fun _ _ _ h => h) (Or.inr ⟨by rfl, rfl⟩) (fun _ => hS) ?_)
                    | (refine wpAnyZ_take0 (i := 10) (oi := ⟨_, _, _, _, _, _⟩) (v := ?_) rfl (by decide +kernel) (fun _ _ _ h => h) (Or.inl ⟨by rfl, ?_⟩) (fun _ => hS) ?_; rotate_left; focus (intro w hSw; go_simp; (try with_reducible rfl); done))
                  simp only [Act.put, List.setIfInBounds_toArray, List.set_cons_zero, List.set_cons_succ]
                  refine wpAnyZ_take0 (i := 11) (oi := ⟨_, _, _, _, _, _⟩) (v := ?_) rfl (by decide +kernel) (fun _ _ _ h => h) (Or.inl ⟨by rfl, ?_⟩) (fun _ => hS) ?_
                  rotate_left
                  focus (intro w _; go_simp; (try with_reducible rfl); done)
                  simp only [Act.put, List.setIfInBounds_toArray, List.set_cons_zero, List.set_cons_succ]
                  refine wpAnyZ_take0 (i := 12) (oi := ⟨_, _, _, _, _, _⟩) (v := ?_) rfl (by decide +kernel) (fun _ _ _ h => h) (Or.inl ⟨by rfl, ?_⟩) (fun _ => hS) ?_
                  rotate_left
                  focus (intro w _; go_simp; (try with_reducible rfl); done)
                  simp only [Act.put, List.setIfInBounds_toArray, List.set_cons_zero, List.set_cons_succ]
                  first
                    | (refine wpAnyZ_take0 (i := 13) (oi := ⟨_, _, _, _, _, _⟩) (v := undef) rfl (by decide +kernel) (fun _ _ _ h => h) (Or.inr ⟨by rfl, rfl⟩) (fun _ => hS) ?_)
                    | (refine wpAnyZ_take0 (i := 13) (oi := ⟨_, _, _, _, _, _⟩) (v := ?_) rfl (by decide +kernel) (fun _ _ _ h => h) (Or.inl ⟨by rfl, ?_⟩) (fun _ => hS) ?_; rotate_left; focus (intro w hSw; go_simp; (try with_reducible rfl); done))
                  simp only [Act.put, List.setIfInBounds_toArray, List.set_cons_zero, List.set_cons_succ]
                  first
                    | (refine wpAnyZ_take0 (i := 14) (oi := ⟨_, _, _, _, _, _⟩) (v := undef) rfl (by decide +kernel) (fun _ _ _ h => h) (Or.inr ⟨by rfl, rfl⟩) (fun _ => hS) ?_)
                    | (refine wpAnyZ_take0 (i := 14) (oi := ⟨_, _, _, _, _, _⟩) (v := ?_) rfl (by decide +kernel) (fun _ _ _ h => h) (Or.inl ⟨by rfl, ?_⟩) (fun _ => hS) ?_; rotate_left; focus (intro w hSw; go_simp; (try with_reducible rfl); done))
                  simp only [Act.put, List.setIfInBounds_toArray, List.set_cons_zero, List.set_cons_succ]
                  first
                    | (refine wpAnyZ_take0 (i := 15) (oi := ⟨_, _, _, _, _, _⟩) (v := undef) rfl (by decide +kernel) (fun _ _ _ h => h) (Or.inr ⟨by rfl, rfl⟩) (fun _ => hS) ?_)
                    | (refine wpAnyZ_take0 (i := 15) (oi := ⟨_, _, _, _, _, _⟩) (v := ?_) rfl (by decide +kernel) (fun _ _ _ h => h) (Or.inl ⟨by rfl, ?_⟩) (fun _ => hS) ?_; rotate_left; focus (intro w hSw; go_simp; (try with_reducible rfl); done))
                  simp only [Act.put, List.setIfInBounds_toArray, List.set_cons_zero, List.set_cons_succ]
                  first
                    | (refine wpAnyZ_take (i := 16) (oi := ⟨_, _, _, _, _, _⟩) (v := undef) rfl (by decide +kernel) (fun _ _ _ h => h) (Or.inr ⟨by rfl, rfl⟩) hS ?_)
                    | (refine wpAnyZ_take (i := 16) (oi := ⟨_, _, _, _, _, _⟩) (v := ?_) rfl (by decide +kernel) (fun _ _ _ h => h) (Or.inl ⟨by rfl, ?_⟩) hS ?_; rotate_left; focus (intro w hSw; (try dsimp only at hSw); (obtain ⟨z0, z1, z2, z3, z4, z5, z6, z7, z8, z9⟩ := wkr_load hSw.wk; obtain ⟨u0, u1, u2, u3⟩ := hSw.nd.load; clear hSw); go_simp; (try with_reducible rfl); done))
                  simp only [Act.put, List.setIfInBounds_toArray, List.set_cons_zero, List.set_cons_succ]
                  first
                    | (refine wpAnyZ_take0 (i := 17) (oi := ⟨_, _, _, _, _, _⟩) (v := undef) rfl (by decide +kernel) (fun _ _ _ h => h) (Or.inr ⟨by rfl, rfl⟩) (fun _ => hS) ?_)
                    | (refine wpAnyZ_take0 (i := 17) (oi := ⟨_, _, _, _, _, _⟩) (v := ?_) rfl (by decide +kernel) (fun _ _ _ h => h) (Or.inl ⟨by rfl, ?_⟩) (fun _ => hS) ?_; rotate_left; focus (intro w hSw; go_simp; (try with_reducible rfl); done))
                  simp only [Act.put, List.setIfInBounds_toArray, List.set_cons_zero, List.set_cons_succ]
                  first
                    | (refine wpAnyZ_take0 (i := 18) (oi := ⟨_, _, _, _, _, _⟩) (v := undef) rfl (by decide +kernel) (fun _ _ _ h => h) (Or.inr ⟨by rfl, rfl⟩) (fun _ => hS) ?_)
                    | (refine wpAnyZ_take0 (i := 18) (oi := ⟨_, _, _, _, _, _⟩) (v := ?_) rfl (by decide +kernel) (fun _ _ _ h => h) (Or.inl ⟨by rfl, ?_⟩) (fun _ => hS) ?_; rotate_left; focus (intro w hSw; go_simp; (try with_reducible rfl); done))
                  simp only [Act.put, List.setIfInBounds_toArray, List.set_cons_zero, List.set_cons_succ]
                  first
                    | (refine wpAnyZ_take0 (i := 19) (oi := ⟨_, _, _, _, _, _⟩) (v := undef) rfl (by decide +kernel) (fun _ _ _ h => h) (Or.inr ⟨by rfl, rfl⟩) (fun _ => hS) ?_)
                    | (refine wpAnyZ_take0 (i := 19) (oi := ⟨_, _, _, _, _, _⟩) (v := ?_) rfl (by decide +kernel) (fun _ _ _ h => h) (Or.inl ⟨by rfl, ?_⟩) (fun _ => hS) ?_; rotate_left; focus (intro w hSw; go_simp; (try with_reducible rfl); done))
                  simp only [Act.put, List.setIfInBounds_toArray, List.set_cons_zero, List.set_cons_succ]
                  first
                    | (refine wpAnyZ_take0 (i := 20) (oi := ⟨_, _, _, _, _, _⟩) (v := undef) rfl (by decide +kernel) (fun _ _ _ h => h) (Or.inr ⟨by rfl, rfl⟩) (fun _ => hS) ?_)
                    | (refine wpAnyZ_take0 (i := 20) (oi := ⟨_, _, _, _, _, _⟩) (v := ?_) rfl (by decide +kernel) (fun _ _ _ h => h) (Or.inl ⟨by rfl, ?_⟩) (fun _ => hS) ?_; rotate_left; focus (intro w hSw; go_simp; (try with_reducible rfl); done))
                  simp only [Act.put, List.setIfInBounds_toArray, List.set_cons_zero, List.set_cons_succ]
                  first
                    | (refine wpAnyZ_take (i := 21) (oi := ⟨_, _, _, _, _, _⟩) (v := undef) rfl (by decide +kernel) (fun _ _ _ h => h) (Or.inr ⟨by rfl, rfl⟩) hS ?_)
                    | (refine wpAnyZ_take (i := 21) (oi := ⟨_, _, _, _, _, _⟩) (v := ?_) rfl (by decide +kernel) (fun _ _ _ h => h) (Or.inl ⟨by rfl, ?_⟩) hS ?_; rotate_left; focus (intro w hSw; (try dsimp only at hSw); (obtain ⟨z0, z1, z2, z3, z4, z5, z6, z7, z8, z9⟩ := wkr_load hSw.wk; obtain ⟨u0, u1, u2, u3⟩ := hSw.nd.load; clear hSw); go_simp; (try with_reducible rfl); done))
                  simp only [Act.put, List.setIfInBounds_toArray, List.set_cons_zero, List.set_cons_succ]
                  first
                    | (refine wpAnyZ_take0 (i := 22) (oi := ⟨_, _, _, _, _, _⟩) (v := undef) rfl (by decide +kernel) (fun _ _ _ h => h) (Or.inr ⟨by rfl, rfl⟩) (fun _ => hS) ?_)
                    | (refine wpAnyZ_take0 (i := 22) (oi := ⟨_, _, _, _, _, _⟩) (v := ?_) rfl (by decide +kernel) (fun _ _ _ h => h) (Or.inl ⟨by rfl, ?_⟩) (fun _ => hS) ?_; rotate_left; focus (intro w hSw; go_simp; (try with_reducible rfl); done))
                  simp only [Act.put, List.setIfInBounds_toArray, List.set_cons_zero, List.set_cons_succ]
                  refine wpAnyZ_take0 (i := 23) (oi := ⟨_, _, _, _, _, _⟩) (v := ?_) rfl (by decide +kernel) (fun _ _ _ h => h) (Or.inl ⟨by rfl, ?_⟩) (fun _ => hS) ?_
                  rotate_left
                  focus (intro w _; go_simp; (try with_reducible rfl); done)
                  simp only [Act.put, List.setIfInBounds_toArray, List.set_cons_zero, List.set_cons_succ]
                  refine wpAnyZ_done (by decide +kernel) ?_
                  have L6 := Hd.mk (hL.out.below (below_drewK wr))
                  have HD6 := Hd.mk (hD.out.below (below_drewK wr))
                  clear hS hL hD
                  generalize wr.drew = W6 at L6 HD6 ⊢
                  cases bg with
                  | false =>
                    rw [Bool.false_and] at hov2
                    go_wp2_with fail
                    refine region_zone 23 [false, false, false, false, false, false, false, false, false, false, false, false, false, false, false, false, false, false, false, false, false, false, false] (by kernel_rfl) (by kernel_rfl) hmix (fun w' => NodeAt w' nb m (some ad) pn pc ∧ RdK w' (some ad) pn ps) [] ?_ (fun hS => ?_)
                    · exact ⟨(L6.out.below (below_drewK W6)).nd, (L6.out.below (below_drewK W6)).rd⟩
                    refine wpAnyZ_take0 (i := 0) (oi := ⟨_, _, _, _, _, _⟩) (v := ?_) rfl (by decide +kernel) (fun _ _ _ h => h) (Or.inl ⟨by rfl, ?_⟩) (fun _ => hS) ?_
                    rotate_left
                    focus (intro w _; go_simp; (try with_reducible rfl); done)
                    simp only [Act.put, List.setIfInBounds_toArray, List.set_cons_zero, List.set_cons_succ]
                    refine wpAnyZ_take0 (i := 1) (oi := ⟨_, _, _, _, _, _⟩) (v := ?_) rfl (by decide +kernel) (fun _ _ _ h => h) (Or.inl ⟨by rfl, ?_⟩) (fun _ => hS) ?_
                    rotate_left
                    focus (intro w _; go_simp; (try with_reducible rfl); done)
                    simp only [Act.put, List.setIfInBounds_toArray, List.set_cons_zero, List.set_cons_succ]
                    refine wpAnyZ_take (i := 2) (oi := ⟨_, _, _, _, _, _⟩) (v := ?_) rfl (by decide +kernel) (fun _ _ _ h => h) (Or.inl ⟨by rfl, ?_⟩) hS ?_
                    rotate_left
                    focus (intro w hSw; (try dsimp only at hSw); (obtain ⟨hSn, hSr⟩ := hSw; obtain ⟨u0, u1, u2, u3⟩ := hSn.load; obtain ⟨ad1, hade1, y0, y1⟩ := QJ hSr; injection hade1 with hade1; subst hade1; clear hSn hSr); go_simp; (try with_reducible rfl); done)
                    simp only [Act.put, List.setIfInBounds_toArray, List.set_cons_zero, List.set_cons_succ]
                    refine wpAnyZ_take0 (i := 3) (oi := ⟨_, _, _, _, _, _⟩) (v := ?_) rfl (by decide +kernel) (fun _ _ _ h => h) (Or.inl ⟨by rfl, ?_⟩) (fun _ => hS) ?_
                    rotate_left
                    focus (intro w _; go_simp; (try with_reducible rfl); done)
                    simp only [Act.put, List.setIfInBounds_toArray, List.set_cons_zero, List.set_cons_succ]
                    refine wpAnyZ_take0 (i := 4) (oi := ⟨_, _, _, _, _, _⟩) (v := ?_) rfl (by decide +kernel) (fun _ _ _ h => h) (Or.inl ⟨by rfl, ?_⟩) (fun _ => hS) ?_
                    rotate_left
                    focus (intro w _; go_simp; (try with_reducible rfl); done)
                    simp only [Act.put, List.setIfInBounds_toArray, List.set_cons_zero, List.set_cons_succ]
                    refine wpAnyZ_take0 (i := 5) (oi := ⟨_, _, _, _, _, _⟩) (v := ?_) rfl (by decide +kernel) (fun _ _ _ h => h) (Or.inl ⟨by rfl, ?_⟩) (fun _ => hS) ?_
                    rotate_left
                    focus (intro w _; go_simp; (try with_reducible rfl); done)
                    simp only [Act.put, List.setIfInBounds_toArray, List.set_cons_zero, List.set_cons_succ]
                    refine wpAnyZ_take (i := 6) (oi := ⟨_, _, _, _, _, _⟩) (v := ?_) rfl (by decide +kernel) (fun _ _ _ h => h) (Or.inl ⟨by rfl, ?_⟩) hS ?_
                    rotate_left
                    focus (intro w hSw; (try dsimp only at hSw); (obtain ⟨hSn, hSr⟩ := hSw; obtain ⟨u0, u1, u2, u3⟩ := hSn.load; obtain ⟨ad1, hade1, y0, y1⟩ := QJ hSr; injection hade1 with hade1; subst hade1; clear hSn hSr); go_simp; (try with_reducible rfl); done)
                    simp only [Act.put, List.setIfInBounds_toArray, List.set_cons_zero, List.set_cons_succ]
                    refine wpAnyZ_take0 (i := 7) (oi := ⟨_, _, _, _, _, _⟩) (v := ?_) rfl (by decide +kernel) (fun _ _ _ h => h) (Or.inl ⟨by rfl, ?_⟩) (fun _ => hS) ?_
                    rotate_left
                    focus (intro w _; go_simp; (try with_reducible rfl); done)
                    simp only [Act.put, List.setIfInBounds_toArray, List.set_cons_zero, List.set_cons_succ]
                    refine wpAnyZ_take (i := 8) (oi := ⟨_, _, _, _, _, _⟩) (v := ?_) rfl (by decide +kernel) (fun _ _ _ h => h) (Or.inl ⟨by rfl, ?_⟩) hS ?_
                    rotate_left
                    focus (intro w hSw; (try dsimp only at hSw); (obtain ⟨hSn, hSr⟩ := hSw; obtain ⟨u0, u1, u2, u3⟩ := hSn.load; obtain ⟨ad1, hade1, y0, y1⟩ := QJ hSr; injection hade1 with hade1; subst hade1; clear hSn hSr); go_simp; (try with_reducible rfl); done)
                    simp only [Act.put, List.setIfInBounds_toArray, List.set_cons_zero, List.set_cons_succ]
                    refine wpAnyZ_take0 (i := 9) (oi := ⟨_, _, _, _, _, _⟩) (v := ?_) rfl (by decide +kernel) (fun _ _ _ h => h) (Or.inl ⟨by rfl, ?_⟩) (fun _ => hS) ?_
                    rotate_left
                    focus (intro w _; go_simp; (try with_reducible rfl); done)
                    simp only [Act.put, List.setIfInBounds_toArray, List.set_cons_zero, List.set_cons_succ]
                    refine wpAnyZ_take0 (i := 10) (oi := ⟨_, _, _, _, _, _⟩) (v := ?_) rfl (by decide +kernel) (fun _ _ _ h => h) (Or.inl ⟨by rfl, ?_⟩) (fun _ => hS) ?_
                    rotate_left
                    focus (intro w _; go_simp; (try with_reducible rfl); done)
                    simp only [Act.put, List.setIfInBounds_toArray, List.set_cons_zero, List.set_cons_succ]
                    refine wpAnyZ_take0 (i := 11) (oi := ⟨_, _, _, _, _, _⟩) (v := ?_) rfl (by decide +kernel) (fun _ _ _ h => h) (Or.inl ⟨by rfl, ?_⟩) (fun _ => hS) ?_
                    rotate_left
                    focus (intro w _; go_simp; (try with_reducible rfl); done)
                    simp only [Act.put, List.setIfInBounds_toArray, List.set_cons_zero, List.set_cons_succ]
                    first
                      | (refine wpAnyZ_take0 (i := 12) (oi := ⟨_, _, _, _, _, _⟩) (v := undef) rfl (by decide +kernel) (fun _ _ _ h => h) (Or.inr ⟨by rfl, rfl⟩) (fun _ => hS) ?_)
                      | (refine wpAnyZ_take0 (i := 12) (oi := ⟨_, _, _, _, _, _⟩) (v := ?_) rfl (by decide +kernel) (fun _ _ _ h => h) (Or.inl ⟨by rfl, ?_⟩) (fun _ => hS) ?_; rotate_left; focus (intro w hSw; go_simp; (try with_reducible rfl); done))
                    simp only [Act.put, List.setIfInBounds_toArray, List.set_cons_zero, List.set_cons_succ]
                    first
                      | (refine wpAnyZ_take0 (i := 13) (oi := ⟨_, _, _, _, _, _⟩) (v := undef) rfl (by decide +kernel) (fun _ _ _ h => h) (Or.inr ⟨by rfl, rfl⟩) (fun _ => hS) ?_)
                      | (refine wpAnyZ_take0 (i := 13) (oi := ⟨_, _, _, _, _, _⟩) (v := ?_) rfl (by decide +kernel) (fun _ _ _ h => h) (Or.inl ⟨by rfl, ?_⟩) (fun _ => hS) ?_; rotate_left; focus (intro w hSw; go_simp; (try with_reducible rfl); done))
                    simp only [Act.put, List.setIfInBounds_toArray, List.set_cons_zero, List.set_cons_succ]
                    first
                      | (refine wpAnyZ_take0 (i := 14) (oi := ⟨_, _, _, _, _, _⟩) (v := undef) rfl (by decide +kernel) (fun _ _ _ h => h) (Or.inr ⟨by rfl, rfl⟩) (fun _ => hS) ?_)
                      | (refine wpAnyZ_take0 (i := 14) (oi := ⟨_, _, _, _, _, _⟩) (v := ?_) rfl (by decide +kernel) (fun _ _ _ h => h) (Or.inl ⟨by rfl, ?_⟩) (fun _ => hS) ?_; rotate_left; focus (intro w hSw; go_simp; (try with_reducible rfl); done))
                    simp only [Act.put, List.setIfInBounds_toArray, List.set_cons_zero, List.set_cons_succ]
                    refine wpAnyZ_take0 (i := 15) (oi := ⟨_, _, _, _, _, _⟩) (v := ?_) rfl (by decide +kernel) (fun _ _ _ h => h) (Or.inl ⟨by rfl, ?_⟩) (fun _ => hS) ?_
                    rotate_left
                    focus (intro w _; go_simp; (try with_reducible rfl); done)
                    simp only [Act.put, List.setIfInBounds_toArray, List.set_cons_zero, List.set_cons_succ]
                    refine wpAnyZ_take0 (i := 16) (oi := ⟨_, _, _, _, _, _⟩) (v := ?_) rfl (by decide +kernel) (fun _ _ _ h => h) (Or.inl ⟨by rfl, ?_⟩) (fun _ => hS) ?_
                    rotate_left
                    focus (intro w _; go_simp; (try with_reducible rfl); done)
                    simp only [Act.put, List.setIfInBounds_toArray, List.set_cons_zero, List.set_cons_succ]
                    refine wpAnyZ_take (i := 17) (oi := ⟨_, _, _, _, _, _⟩) (v := ?_) rfl (by decide +kernel) (fun _ _ _ h => h) (Or.inl ⟨by rfl, ?_⟩) hS ?_
                    rotate_left
                    focus (intro w hSw; (try dsimp only at hSw); (obtain ⟨hSn, hSr⟩ := hSw; obtain ⟨u0, u1, u2, u3⟩ := hSn.load; obtain ⟨ad1, hade1, y0, y1⟩ := QJ hSr; injection hade1 with hade1; subst hade1; clear hSn hSr); go_simp; (try with_reducible rfl); done)
                    simp only [Act.put, List.setIfInBounds_toArray, List.set_cons_zero, List.set_cons_succ]
                    refine wpAnyZ_take0 (i := 18) (oi := ⟨_, _, _, _, _, _⟩) (v := ?_) rfl (by decide +kernel) (fun _ _ _ h => h) (Or.inl ⟨by rfl, ?_⟩) (fun _ => hS) ?_
                    rotate_left
                    focus (intro w _; go_simp; (try with_reducible rfl); done)
                    simp only [Act.put, List.setIfInBounds_toArray, List.set_cons_zero, List.set_cons_succ]
                    refine wpAnyZ_take0 (i := 19) (oi := ⟨_, _, _, _, _, _⟩) (v := ?_) rfl (by decide +kernel) (fun _ _ _ h => h) (Or.inl ⟨by rfl, ?_⟩) (fun _ => hS) ?_
                    rotate_left
                    focus (intro w _; go_simp; (try with_reducible rfl); done)
                    simp only [Act.put, List.setIfInBounds_toArray, List.set_cons_zero, List.set_cons_succ]
                    refine wpAnyZ_take0 (i := 20) (oi := ⟨_, _, _, _, _, _⟩) (v := ?_) rfl (by decide +kernel) (fun _ _ _ h => h) (Or.inl ⟨by rfl, ?_⟩) (fun _ => hS) ?_
                    rotate_left
                    focus (intro w _; go_simp; (try with_reducible rfl); done)
                    simp only [Act.put, List.setIfInBounds_toArray, List.set_cons_zero, List.set_cons_succ]
                    refine wpAnyZ_take (i := 21) (oi := ⟨_, _, _, _, _, _⟩) (v := ?_) rfl (by decide +kernel) (fun _ _ _ h => h) (Or.inl ⟨by rfl, ?_⟩) hS ?_
                    rotate_left
                    focus (intro w hSw; (try dsimp only at hSw); (obtain ⟨hSn, hSr⟩ := hSw; obtain ⟨u0, u1, u2, u3⟩ := hSn.load; obtain ⟨ad1, hade1, y0, y1⟩ := QJ hSr; injection hade1 with hade1; subst hade1; clear hSn hSr); go_simp; (try with_reducible rfl); done)
                    simp only [Act.put, List.setIfInBounds_toArray, List.set_cons_zero, List.set_cons_succ]
                    have L7 := Hd.mk (L6.out.below (below_drewK W6))
                    have HD7 := Hd.mk (HD6.out.below (below_drewK W6))
                    clear L6 HD6
                    generalize W6.drew = W7 at L7 HD7 hS ⊢
                    refine wpAnyZ_one (i := 22) rfl (by decide +kernel) (fun K hKK => ?_)
                    go_simp
                    refine (HIH.out pi.2 (m - 1) false pi.1 false s' O' on' oc' W7 ⟨L7.out.wk, L7.out.own⟩ HD7.out hG.out (by omega) (by omega) hf2 (by simpa using hm1)).mono ?_
                    rintro e w8 ⟨rfl, hst⟩
                    obtain ⟨O2, on2, oc2, L8⟩ := L7.out.step hst
                    have HD8 := Hd.mk (HD7.out.fw (by obtain ⟨_, _, _, _, ht, _⟩ := hst; exact ht) hA L7.out.own)
                    have HG8 := Hd.mk (nodeR_good (q := q) f pi.2 (m - 1) false pi.1 s' hG.out)
                    have HL8 := Hd.mk L8
                    clear hS
                    have hS := And.intro HL8.out.nd HL8.out.rd
                    refine hKK.out _ _ (fun _ => hS) ?_
                    clear hKK
                    refine wpAnyZ_done (by decide +kernel) ?_
                    clear hst L8 L7 HD7
                    go_wp2_with fail
                    go_roundw
                    case rel => exact ⟨i + 1, on2, oc2, O2, _, by go_num, by omega, by omega, HL8, HG8, HD8, ⟨by rw [hov2.out, Bool.false_and]⟩⟩
                    case measure => simp [intOf]; omega
                  | true =>
                    rw [Bool.true_and] at hov2
                    go_wp2_with fail
                    refine region_zone 23 [false, false, false, false, false, false, false, false, false, false, false, false, false, false, false, false, false, false, false, false, false, false, false] (by kernel_rfl) (by kernel_rfl) hmix (fun w' => NodeAt w' nb m (some ad) pn pc ∧ RdK w' (some ad) pn ps) [] ?_ (fun hS => ?_)
                    · exact ⟨(L6.out.below (below_drewK W6)).nd, (L6.out.below (below_drewK W6)).rd⟩
                    refine wpAnyZ_take0 (i := 0) (oi := ⟨_, _, _, _, _, _⟩) (v := ?_) rfl (by decide +kernel) (fun _ _ _ h => h) (Or.inl ⟨by rfl, ?_⟩) (fun _ => hS) ?_
                    rotate_left
                    focus (intro w _; go_simp; (try with_reducible rfl); done)
                    simp only [Act.put, List.setIfInBounds_toArray, List.set_cons_zero, List.set_cons_succ]
                    refine wpAnyZ_take0 (i := 1) (oi := ⟨_, _, _, _, _, _⟩) (v := ?_) rfl (by decide +kernel) (fun _ _ _ h => h) (Or.inl ⟨by rfl, ?_⟩) (fun _ => hS) ?_
                    rotate_left
                    focus (intro w _; go_simp; (try with_reducible rfl); done)
                    simp only [Act.put, List.setIfInBounds_toArray, List.set_cons_zero, List.set_cons_succ]
                    refine wpAnyZ_take (i := 2) (oi := ⟨_, _, _, _, _, _⟩) (v := ?_) rfl (by decide +kernel) (fun _ _ _ h => h) (Or.inl ⟨by rfl, ?_⟩) hS ?_
                    rotate_left
                    focus (intro w hSw; (try dsimp only at hSw); (obtain ⟨hSn, hSr⟩ := hSw; obtain ⟨u0, u1, u2, u3⟩ := hSn.load; obtain ⟨ad1, hade1, y0, y1⟩ := QJ hSr; injection hade1 with hade1; subst hade1; clear hSn hSr); go_simp; (try with_reducible rfl); done)
                    simp only [Act.put, List.setIfInBounds_toArray, List.set_cons_zero, List.set_cons_succ]
                    refine wpAnyZ_take0 (i := 3) (oi := ⟨_, _, _, _, _, _⟩) (v := ?_) rfl (by decide +kernel) (fun _ _ _ h => h) (Or.inl ⟨by rfl, ?_⟩) (fun _ => hS) ?_
                    rotate_left
                    focus (intro w _; go_simp; (try with_reducible rfl); done)
                    simp only [Act.put, List.setIfInBounds_toArray, List.set_cons_zero, List.set_cons_succ]
                    refine wpAnyZ_take0 (i := 4) (oi := ⟨_, _, _, _, _, _⟩) (v := ?_) rfl (by decide +kernel) (fun _ _ _ h => h) (Or.inl ⟨by rfl, ?_⟩) (fun _ => hS) ?_
                    rotate_left
                    focus (intro w _; go_simp; (try with_reducible rfl); done)
                    simp only [Act.put, List.setIfInBounds_toArray, List.set_cons_zero, List.set_cons_succ]
                    refine wpAnyZ_take0 (i := 5) (oi := ⟨_, _, _, _, _, _⟩) (v := ?_) rfl (by decide +kernel) (fun _ _ _ h => h) (Or.inl ⟨by rfl, ?_⟩) (fun _ => hS) ?_
                    rotate_left
                    focus (intro w _; go_simp; (try with_reducible rfl); done)
                    simp only [Act.put, List.setIfInBounds_toArray, List.set_cons_zero, List.set_cons_succ]
                    refine wpAnyZ_take (i := 6) (oi := ⟨_, _, _, _, _, _⟩) (v := ?_) rfl (by decide +kernel) (fun _ _ _ h => h) (Or.inl ⟨by rfl, ?_⟩) hS ?_
                    rotate_left
                    focus (intro w hSw; (try dsimp only at hSw); (obtain ⟨hSn, hSr⟩ := hSw; obtain ⟨u0, u1, u2, u3⟩ := hSn.load; obtain ⟨ad1, hade1, y0, y1⟩ := QJ hSr; injection hade1 with hade1; subst hade1; clear hSn hSr); go_simp; (try with_reducible rfl); done)
                    simp only [Act.put, List.setIfInBounds_toArray, List.set_cons_zero, List.set_cons_succ]
                    refine wpAnyZ_take0 (i := 7) (oi := ⟨_, _, _, _, _, _⟩) (v := ?_) rfl (by decide +kernel) (fun _ _ _ h => h) (Or.inl ⟨by rfl, ?_⟩) (fun _ => hS) ?_
                    rotate_left
                    focus (intro w _; go_simp; (try with_reducible rfl); done)
                    simp only [Act.put, List.setIfInBounds_toArray, List.set_cons_zero, List.set_cons_succ]
                    refine wpAnyZ_take (i := 8) (oi := ⟨_, _, _, _, _, _⟩) (v := ?_) rfl (by decide +kernel) (fun _ _ _ h => h) (Or.inl ⟨by rfl, ?_⟩) hS ?_
                    rotate_left
                    focus (intro w hSw; (try dsimp only at hSw); (obtain ⟨hSn, hSr⟩ := hSw; obtain ⟨u0, u1, u2, u3⟩ := hSn.load; obtain ⟨ad1, hade1, y0, y1⟩ := QJ hSr; injection hade1 with hade1; subst hade1; clear hSn hSr); go_simp; (try with_reducible rfl); done)
                    simp only [Act.put, List.setIfInBounds_toArray, List.set_cons_zero, List.set_cons_succ]
                    refine wpAnyZ_take0 (i := 9) (oi := ⟨_, _, _, _, _, _⟩) (v := ?_) rfl (by decide +kernel) (fun _ _ _ h => h) (Or.inl ⟨by rfl, ?_⟩) (fun _ => hS) ?_
                    rotate_left
                    focus (intro w _; go_simp; (try with_reducible rfl); done)
                    simp only [Act.put, List.setIfInBounds_toArray, List.set_cons_zero, List.set_cons_succ]
                    refine wpAnyZ_take0 (i := 10) (oi := ⟨_, _, _, _, _, _⟩) (v := ?_) rfl (by decide +kernel) (fun _ _ _ h => h) (Or.inl ⟨by rfl, ?_⟩) (fun _ => hS) ?_
                    rotate_left
                    focus (intro w _; go_simp; (try with_reducible rfl); done)
                    simp only [Act.put, List.setIfInBounds_toArray, List.set_cons_zero, List.set_cons_succ]
                    refine wpAnyZ_take0 (i := 11) (oi := ⟨_, _, _, _, _, _⟩) (v := ?_) rfl (by decide +kernel) (fun _ _ _ h => h) (Or.inl ⟨by rfl, ?_⟩) (fun _ => hS) ?_
                    rotate_left
                    focus (intro w _; go_simp; (try with_reducible rfl); done)
                    simp only [Act.put, List.setIfInBounds_toArray, List.set_cons_zero, List.set_cons_succ]
                    first
                      | (refine wpAnyZ_take0 (i := 12) (oi := ⟨_, _, _, _, _, _⟩) (v := undef) rfl (by decide +kernel) (fun _ _ _ h => h) (Or.inr ⟨by rfl, rfl⟩) (fun _ => hS) ?_)
                      | (refine wpAnyZ_take0 (i := 12) (oi := ⟨_, _, _, _, _, _⟩) (v := ?_) rfl (by decide +kernel) (fun _ _ _ h => h) (Or.inl ⟨by rfl, ?_⟩) (fun _ => hS) ?_; rotate_left; focus (intro w hSw; go_simp; (try with_reducible rfl); done))
                    simp only [Act.put, List.setIfInBounds_toArray, List.set_cons_zero, List.set_cons_succ]
                    first
                      | (refine wpAnyZ_take0 (i := 13) (oi := ⟨_, _, _, _, _, _⟩) (v := undef) rfl (by decide +kernel) (fun _ _ _ h => h) (Or.inr ⟨by rfl, rfl⟩) (fun _ => hS) ?_)
                      | (refine wpAnyZ_take0 (i := 13) (oi := ⟨_, _, _, _, _, _⟩) (v := ?_) rfl (by decide +kernel) (fun _ _ _ h => h) (Or.inl ⟨by rfl, ?_⟩) (fun _ => hS) ?_; rotate_left; focus (intro w hSw; go_simp; (try with_reducible rfl); done))
                    simp only [Act.put, List.setIfInBounds_toArray, List.set_cons_zero, List.set_cons_succ]
                    first
                      | (refine wpAnyZ_take0 (i := 14) (oi := ⟨_, _, _, _, _, _⟩) (v := undef) rfl (by decide +kernel) (fun _ _ _ h => h) (Or.inr ⟨by rfl, rfl⟩) (fun _ => hS) ?_)
                      | (refine wpAnyZ_take0 (i := 14) (oi := ⟨_, _, _, _, _, _⟩) (v := ?_) rfl (by decide +kernel) (fun _ _ _ h => h) (Or.inl ⟨by rfl, ?_⟩) (fun _ => hS) ?_; rotate_left; focus (intro w hSw; go_simp; (try with_reducible rfl); done))
                    simp only [Act.put, List.setIfInBounds_toArray, List.set_cons_zero, List.set_cons_succ]
                    refine wpAnyZ_take0 (i := 15) (oi := ⟨_, _, _, _, _, _⟩) (v := ?_) rfl (by decide +kernel) (fun _ _ _ h => h) (Or.inl ⟨by rfl, ?_⟩) (fun _ => hS) ?_
                    rotate_left
                    focus (intro w _; go_simp; (try with_reducible rfl); done)
                    simp only [Act.put, List.setIfInBounds_toArray, List.set_cons_zero, List.set_cons_succ]
                    refine wpAnyZ_take0 (i := 16) (oi := ⟨_, _, _, _, _, _⟩) (v := ?_) rfl (by decide +kernel) (fun _ _ _ h => h) (Or.inl ⟨by rfl, ?_⟩) (fun _ => hS) ?_
                    rotate_left
                    focus (intro w _; go_simp; (try with_reducible rfl); done)
                    simp only [Act.put, List.setIfInBounds_toArray, List.set_cons_zero, List.set_cons_succ]
                    refine wpAnyZ_take (i := 17) (oi := ⟨_, _, _, _, _, _⟩) (v := ?_) rfl (by decide +kernel) (fun _ _ _ h => h) (Or.inl ⟨by rfl, ?_⟩) hS ?_
                    rotate_left
                    focus (intro w hSw; (try dsimp only at hSw); (obtain ⟨hSn, hSr⟩ := hSw; obtain ⟨u0, u1, u2, u3⟩ := hSn.load; obtain ⟨ad1, hade1, y0, y1⟩ := QJ hSr; injection hade1 with hade1; subst hade1; clear hSn hSr); go_simp; (try with_reducible rfl); done)
                    simp only [Act.put, List.setIfInBounds_toArray, List.set_cons_zero, List.set_cons_succ]
                    refine wpAnyZ_take0 (i := 18) (oi := ⟨_, _, _, _, _, _⟩) (v := ?_) rfl (by decide +kernel) (fun _ _ _ h => h) (Or.inl ⟨by rfl, ?_⟩) (fun _ => hS) ?_
                    rotate_left
                    focus (intro w _; go_simp; (try with_reducible rfl); done)
                    simp only [Act.put, List.setIfInBounds_toArray, List.set_cons_zero, List.set_cons_succ]
                    refine wpAnyZ_take0 (i := 19) (oi := ⟨_, _, _, _, _, _⟩) (v := ?_) rfl (by decide +kernel) (fun _ _ _ h => h) (Or.inl ⟨by rfl, ?_⟩) (fun _ => hS) ?_
                    rotate_left
                    focus (intro w _; go_simp; (try with_reducible rfl); done)
                    simp only [Act.put, List.setIfInBounds_toArray, List.set_cons_zero, List.set_cons_succ]
                    refine wpAnyZ_take0 (i := 20) (oi := ⟨_, _, _, _, _, _⟩) (v := ?_) rfl (by decide +kernel) (fun _ _ _ h => h) (Or.inl ⟨by rfl, ?_⟩) (fun _ => hS) ?_
                    rotate_left
                    focus (intro w _; go_simp; (try with_reducible rfl); done)
                    simp only [Act.put, List.setIfInBounds_toArray, List.set_cons_zero, List.set_cons_succ]
                    refine wpAnyZ_take (i := 21) (oi := ⟨_, _, _, _, _, _⟩) (v := ?_) rfl (by decide +kernel) (fun _ _ _ h => h) (Or.inl ⟨by rfl, ?_⟩) hS ?_
                    rotate_left
                    focus (intro w hSw; (try dsimp only at hSw); (obtain ⟨hSn, hSr⟩ := hSw; obtain ⟨u0, u1, u2, u3⟩ := hSn.load; obtain ⟨ad1, hade1, y0, y1⟩ := QJ hSr; injection hade1 with hade1; subst hade1; clear hSn hSr); go_simp; (try with_reducible rfl); done)
                    simp only [Act.put, List.setIfInBounds_toArray, List.set_cons_zero, List.set_cons_succ]
                    have L7 := Hd.mk (L6.out.below (below_drewK W6))
                    have HD7 := Hd.mk (HD6.out.below (below_drewK W6))
                    clear L6 HD6
                    generalize W6.drew = W7 at L7 HD7 hS ⊢
                    refine wpAnyZ_one (i := 22) rfl (by decide +kernel) (fun K hKK => ?_)
                    go_simp
                    refine (HIH.out pi.2 (m - 1) ((i : Int) == (fr : Int)) pi.1 false s' O' on' oc' W7 ⟨L7.out.wk, L7.out.own⟩ HD7.out hG.out (by omega) (by omega) hf2 (by simpa using hm1)).mono ?_
                    rintro e w8 ⟨rfl, hst⟩
                    obtain ⟨O2, on2, oc2, L8⟩ := L7.out.step hst
                    have HD8 := Hd.mk (HD7.out.fw (by obtain ⟨_, _, _, _, ht, _⟩ := hst; exact ht) hA L7.out.own)
                    have HG8 := Hd.mk (nodeR_good (q := q) f pi.2 (m - 1) ((i : Int) == (fr : Int)) pi.1 s' hG.out)
                    have HL8 := Hd.mk L8
                    clear hS
                    have hS := And.intro HL8.out.nd HL8.out.rd
                    refine hKK.out _ _ (fun _ => hS) ?_
                    clear hKK
                    refine wpAnyZ_done (by decide +kernel) ?_
                    clear hst L8 L7 HD7
                    go_wp2_with fail
                    go_roundw
                    case rel => exact ⟨i + 1, on2, oc2, O2, _, by go_num, by omega, by omega, HL8, HG8, HD8, ⟨by rw [hov2.out, show ((((i + 1 : Nat) : Int) == (fr : Int)) = false) from by rw [beq_eq_false_iff_ne]; omega, Bool.true_and]⟩⟩
                    case measure => simp [intOf]; omega
                · have m1 : decide ((on' : Int) < q.most) = false := by simpa using hmo
                  have hend : Hd (overR q (fun n' e f' s => nodeR l kind q f n' (m - 1) e f' s) (bg && ((i : Int) == (fr : Int))) (ps.drop i) s' = s') := ⟨by rw [hd.out, overR, if_neg (by rw [hlen.out]; exact fun h => hmo h.2)]⟩
                  go_wp2_with fail
                  refine region_zone 24 [false, false, false, false, false, false, false, false, false, false, false, false, false, false, false, false, false, false, false, false, false, false, false, false] (by kernel_rfl) (by kernel_rfl) hmix (fun w' => LfS w w' g A n c kind q s' O' on' oc' nb m P pn pc ps O oc) [] ?_ (fun hS => ?_)
                  · exact hL.out.below (below_drewK wr)
                  refine wpAnyZ_take0 (i := 0) (oi := ⟨_, _, _, _, _, _⟩) (v := ?_) rfl (by decide +kernel) (fun _ _ _ h => h) (Or.inl ⟨by rfl, ?_⟩) (fun _ => hS) ?_
                  rotate_left
                  focus (intro w _; go_simp; (try with_reducible rfl); done)
                  simp only [Act.put, List.setIfInBounds_toArray, List.set_cons_zero, List.set_cons_succ]
                  refine wpAnyZ_take0 (i := 1) (oi := ⟨_, _, _, _, _, _⟩) (v := ?_) rfl (by decide +kernel) (fun _ _ _ h => h) (Or.inl ⟨by rfl, ?_⟩) (fun _ => hS) ?_
                  rotate_left
                  focus (intro w _; go_simp; (try with_reducible rfl); done)
                  simp only [Act.put, List.setIfInBounds_toArray, List.set_cons_zero, List.set_cons_succ]
                  refine wpAnyZ_take (i := 2) (oi := ⟨_, _, _, _, _, _⟩) (v := ?_) rfl (by decide +kernel) (fun _ _ _ h => h) (Or.inl ⟨by rfl, ?_⟩) hS ?_
                  rotate_left
                  focus (intro w hSw; (try dsimp only at hSw); (obtain ⟨z0, z1, z2, z3, z4, z5, z6, z7, z8, z9⟩ := wkr_load hSw.wk; obtain ⟨u0, u1, u2, u3⟩ := hSw.nd.load; clear hSw); go_simp; (try with_reducible rfl); done)
                  simp only [Act.put, List.setIfInBounds_toArray, List.set_cons_zero, List.set_cons_succ]
                  refine wpAnyZ_take0 (i := 3) (oi := ⟨_, _, _, _, _, _⟩) (v := ?_) rfl (by decide +kernel) (fun _ _ _ h => h) (Or.inl ⟨by rfl, ?_⟩) (fun _ => hS) ?_
                  rotate_left
                  focus (intro w _; go_simp; (try with_reducible rfl); done)
                  simp only [Act.put, List.setIfInBounds_toArray, List.set_cons_zero, List.set_cons_succ]
                  refine wpAnyZ_take0 (i := 4) (oi := ⟨_, _, _, _, _, _⟩) (v := ?_) rfl (by decide +kernel) (fun _ _ _ h => h) (Or.inl ⟨by rfl, ?_⟩) (fun _ => hS) ?_
                  rotate_left
                  focus (intro w _; go_simp; (try with_reducible rfl); done)
                  simp only [Act.put, List.setIfInBounds_toArray, List.set_cons_zero, List.set_cons_succ]
                  refine wpAnyZ_take0 (i := 5) (oi := ⟨_, _, _, _, _, _⟩) (v := ?_) rfl (by decide +kernel) (fun _ _ _ h => h) (Or.inl ⟨by rfl, ?_⟩) (fun _ => hS) ?_
                  rotate_left
                  focus (intro w _; go_simp; (try with_reducible rfl); done)
                  simp only [Act.put, List.setIfInBounds_toArray, List.set_cons_zero, List.set_cons_succ]
                  first
                    | (refine wpAnyZ_take0 (i := 6) (oi := ⟨_, _, _, _, _, _⟩) (v := undef) rfl (by decide +kernel) (fun _ _ _ h => h) (Or.inr ⟨by rfl, rfl⟩) (fun _ => hS) ?_)
                    | (refine wpAnyZ_take0 (i := 6) (oi := ⟨_, _, _, _, _, _⟩) (v := ?_) rfl (by decide +kernel) (fun _ _ _ h => h) (Or.inl ⟨by rfl, ?_⟩) (fun _ => hS) ?_; rotate_left; focus (intro w hSw; go_simp; (try with_reducible rfl); done))
                  simp only [Act.put, List.setIfInBounds_toArray, List.set_cons_zero, List.set_cons_succ]
                  first
                    | (refine wpAnyZ_take0 (i := 7) (oi := ⟨_, _, _, _, _, _⟩) (v := undef) rfl (by decide +kernel) (fun _ _ _ h => h) (Or.inr ⟨by rfl, rfl⟩) (fun _ => hS) ?_)
                    | (refine wpAnyZ_take0 (i := 7) (oi := ⟨_, _, _, _, _, _⟩) (v := ?_) rfl (by decide +kernel) (fun _ _ _ h => h) (Or.inl ⟨by rfl, ?_⟩) (fun _ => hS) ?_; rotate_left; focus (intro w hSw; go_simp; (try with_reducible rfl); done))
                  simp only [Act.put, List.setIfInBounds_toArray, List.set_cons_zero, List.set_cons_succ]
                  first
                    | (refine wpAnyZ_take0 (i := 8) (oi := ⟨_, _, _, _, _, _⟩) (v := undef) rfl (by decide +kernel) (fun _ _ _ h => h) (Or.inr ⟨by rfl, rfl⟩) (fun _ => hS) ?_)
                    | (refine wpAnyZ_take0 (i := 8) (oi := ⟨_, _, _, _, _, _⟩) (v := ?_) rfl (by decide +kernel) (fun _ _ _ h => h) (Or.inl ⟨by rfl, ?_⟩) (fun _ => hS) ?_; rotate_left; focus (intro w hSw; go_simp; (try with_reducible rfl); done))
                  simp only [Act.put, List.setIfInBounds_toArray, List.set_cons_zero, List.set_cons_succ]
                  first
                    | (refine wpAnyZ_take (i := 9) (oi := ⟨_, _, _, _, _, _⟩) (v := undef) rfl (by decide +kernel) (fun _ _ _ h => h) (Or.inr ⟨by rfl, rfl⟩) hS ?_)
                    | (refine wpAnyZ_take (i := 9) (oi := ⟨_, _, _, _, _, _⟩) (v := ?_) rfl (by decide +kernel) (fun _ _ _ h => h) (Or.inl ⟨by rfl, ?_⟩) hS ?_; rotate_left; focus (intro w hSw; (try dsimp only at hSw); (obtain ⟨z0, z1, z2, z3, z4, z5, z6, z7, z8, z9⟩ := wkr_load hSw.wk; obtain ⟨u0, u1, u2, u3⟩ := hSw.nd.load; clear hSw); go_simp; (try with_reducible rfl); done))
                  simp only [Act.put, List.setIfInBounds_toArray, List.set_cons_zero, List.set_cons_succ]
                  first
                    | (refine wpAnyZ_take0 (i := 10) (oi := ⟨_, _, _, _, _, _⟩) (v := undef) rfl (by decide +kernel) (fun _ _ _ h => h) (Or.inr ⟨by rfl, rfl⟩) (fun _ => hS) ?_)
                    | (refine wpAnyZ_take0 (i := 10) (oi := ⟨_, _, _, _, _, _⟩) (v := ?_) rfl (by decide +kernel) (fun _ _ _ h => h) (Or.inl ⟨by rfl, ?_⟩) (fun _ => hS) ?_; rotate_left; focus (intro w hSw; go_simp; (try with_reducible rfl); done))
                  simp only [Act.put, List.setIfInBounds_toArray, List.set_cons_zero, List.set_cons_succ]
                  refine wpAnyZ_take0 (i := 11) (oi := ⟨_, _, _, _, _, _⟩) (v := ?_) rfl (by decide +kernel) (fun _ _ _ h => h) (Or.inl ⟨by rfl, ?_⟩) (fun _ => hS) ?_
                  rotate_left
                  focus (intro w _; go_simp; (try with_reducible rfl); done)
                  simp only [Act.put, List.setIfInBounds_toArray, List.set_cons_zero, List.set_cons_succ]
                  refine wpAnyZ_take0 (i := 12) (oi := ⟨_, _, _, _, _, _⟩) (v := ?_) rfl (by decide +kernel) (fun _ _ _ h => h) (Or.inl ⟨by rfl, ?_⟩) (fun _ => hS) ?_
                  rotate_left
                  focus (intro w _; go_simp; (try with_reducible rfl); done)
                  simp only [Act.put, List.setIfInBounds_toArray, List.set_cons_zero, List.set_cons_succ]
                  first
                    | (refine wpAnyZ_take0 (i := 13) (oi := ⟨_, _, _, _, _, _⟩) (v := undef) rfl (by decide +kernel) (fun _ _ _ h => h) (Or.inr ⟨by rfl, rfl⟩) (fun _ => hS) ?_)
                    | (refine wpAnyZ_take0 (i := 13) (oi := ⟨_, _, _, _, _, _⟩) (v := ?_) rfl (by decide +kernel) (fun _ _ _ h => h) (Or.inl ⟨by rfl, ?_⟩) (fun _ => hS) ?_; rotate_left; focus (intro w hSw; go_simp; (try with_reducible rfl); done))
                  simp only [Act.put, List.setIfInBounds_toArray, List.set_cons_zero, List.set_cons_succ]
                  first
                    | (refine wpAnyZ_take0 (i := 14) (oi := ⟨_, _, _, _, _, _⟩) (v := undef) rfl (by decide +kernel) (fun _ _ _ h => h) (Or.inr ⟨by rfl, rfl⟩) (fun _ => hS) ?_)
                    | (refine wpAnyZ_take0 (i := 14) (oi := ⟨_, _, _, _, _, _⟩) (v := ?_) rfl (by decide +kernel) (fun _ _ _ h => h) (Or.inl ⟨by rfl, ?_⟩) (fun _ => hS) ?_; rotate_left; focus (intro w hSw; go_simp; (try with_reducible rfl); done))
                  simp only [Act.put, List.setIfInBounds_toArray, List.set_cons_zero, List.set_cons_succ]
                  first
                    | (refine wpAnyZ_take0 (i := 15) (oi := ⟨_, _, _, _, _, _⟩) (v := undef) rfl (by decide +kernel) (fun _ _ _ h => h) (Or.inr ⟨by rfl, rfl⟩) (fun _ => hS) ?_)
                    | (refine wpAnyZ_take0 (i := 15) (oi := ⟨_, _, _, _, _, _⟩) (v := ?_) rfl (by decide +kernel) (fun _ _ _ h => h) (Or.inl ⟨by rfl, ?_⟩) (fun _ => hS) ?_; rotate_left; focus (intro w hSw; go_simp; (try with_reducible rfl); done))
                  simp only [Act.put, List.setIfInBounds_toArray, List.set_cons_zero, List.set_cons_succ]
                  first
                    | (refine wpAnyZ_take (i := 16) (oi := ⟨_, _, _, _, _, _⟩) (v := undef) rfl (by decide +kernel) (fun _ _ _ h => h) (Or.inr ⟨by rfl, rfl⟩) hS ?_)
                    | (refine wpAnyZ_take (i := 16) (oi := ⟨_, _, _, _, _, _⟩) (v := ?_) rfl (by decide +kernel) (fun _ _ _ h => h) (Or.inl ⟨by rfl, ?_⟩) hS ?_; rotate_left; focus (intro w hSw; (try dsimp only at hSw); (obtain ⟨z0, z1, z2, z3, z4, z5, z6, z7, z8, z9⟩ := wkr_load hSw.wk; obtain ⟨u0, u1, u2, u3⟩ := hSw.nd.load; clear hSw); go_simp; (try with_reducible rfl); done))
                  simp only [Act.put, List.setIfInBounds_toArray, List.set_cons_zero, List.set_cons_succ]
                  first
                    | (refine wpAnyZ_take0 (i := 17) (oi := ⟨_, _, _, _, _, _⟩) (v := undef) rfl (by decide +kernel) (fun _ _ _ h => h) (Or.inr ⟨by rfl, rfl⟩) (fun _ => hS) ?_)
                    | (refine wpAnyZ_take0 (i := 17) (oi := ⟨_, _, _, _, _, _⟩) (v := ?_) rfl (by decide +kernel) (fun _ _ _ h => h) (Or.inl ⟨by rfl, ?_⟩) (fun _ => hS) ?_; rotate_left; focus (intro w hSw; go_simp; (try with_reducible rfl); done))
                  simp only [Act.put, List.setIfInBounds_toArray, List.set_cons_zero, List.set_cons_succ]
                  first
                    | (refine wpAnyZ_take0 (i := 18) (oi := ⟨_, _, _, _, _, _⟩) (v := undef) rfl (by decide +kernel) (fun _ _ _ h => h) (Or.inr ⟨by rfl, rfl⟩) (fun _ => hS) ?_)
                    | (refine wpAnyZ_take0 (i := 18) (oi := ⟨_, _, _, _, _, _⟩) (v := ?_) rfl (by decide +kernel) (fun _ _ _ h => h) (Or.inl ⟨by rfl, ?_⟩) (fun _ => hS) ?_; rotate_left; focus (intro w hSw; go_simp; (try with_reducible rfl); done))
                  simp only [Act.put, List.setIfInBounds_toArray, List.set_cons_zero, List.set_cons_succ]
                  first
                    | (refine wpAnyZ_take0 (i := 19) (oi := ⟨_, _, _, _, _, _⟩) (v := undef) rfl (by decide +kernel) (fun _ _ _ h => h) (Or.inr ⟨by rfl, rfl⟩) (fun _ => hS) ?_)
                    | (refine wpAnyZ_take0 (i := 19) (oi := ⟨_, _, _, _, _, _⟩) (v := ?_) rfl (by decide +kernel) (fun _ _ _ h => h) (Or.inl ⟨by rfl, ?_⟩) (fun _ => hS) ?_; rotate_left; focus (intro w hSw; go_simp; (try with_reducible rfl); done))
                  simp only [Act.put, List.setIfInBounds_toArray, List.set_cons_zero, List.set_cons_succ]
                  first
                    | (refine wpAnyZ_take0 (i := 20) (oi := ⟨_, _, _, _, _, _⟩) (v := undef) rfl (by decide +kernel) (fun _ _ _ h => h) (Or.inr ⟨by rfl, rfl⟩) (fun _ => hS) ?_)
                    | (refine wpAnyZ_take0 (i := 20) (oi := ⟨_, _, _, _, _, _⟩) (v := ?_) rfl (by decide +kernel) (fun _ _ _ h => h) (Or.inl ⟨by rfl, ?_⟩) (fun _ => hS) ?_; rotate_left; focus (intro w hSw; go_simp; (try with_reducible rfl); done))
                  simp only [Act.put, List.setIfInBounds_toArray, List.set_cons_zero, List.set_cons_succ]
                  first
                    | (refine wpAnyZ_take (i := 21) (oi := ⟨_, _, _, _, _, _⟩) (v := undef) rfl (by decide +kernel) (fun _ _ _ h => h) (Or.inr ⟨by rfl, rfl⟩) hS ?_)
                    | (refine wpAnyZ_take (i := 21) (oi := ⟨_, _, _, _, _, _⟩) (v := ?_) rfl (by decide +kernel) (fun _ _ _ h => h) (Or.inl ⟨by rfl, ?_⟩) hS ?_; rotate_left; focus (intro w hSw; (try dsimp only at hSw); (obtain ⟨z0, z1, z2, z3, z4, z5, z6, z7, z8, z9⟩ := wkr_load hSw.wk; obtain ⟨u0, u1, u2, u3⟩ := hSw.nd.load; clear hSw); go_simp; (try with_reducible rfl); done))
                  simp only [Act.put, List.setIfInBounds_toArray, List.set_cons_zero, List.set_cons_succ]
                  first
                    | (refine wpAnyZ_take0 (i := 22) (oi := ⟨_, _, _, _, _, _⟩) (v := undef) rfl (by decide +kernel) (fun _ _ _ h => h) (Or.inr ⟨by rfl, rfl⟩) (fun _ => hS) ?_)
                    | (refine wpAnyZ_take0 (i := 22) (oi := ⟨_, _, _, _, _, _⟩) (v := ?_) rfl (by decide +kernel) (fun _ _ _ h => h) (Or.inl ⟨by rfl, ?_⟩) (fun _ => hS) ?_; rotate_left; focus (intro w hSw; go_simp; (try with_reducible rfl); done))
                  simp only [Act.put, List.setIfInBounds_toArray, List.set_cons_zero, List.set_cons_succ]
                  refine wpAnyZ_take0 (i := 23) (oi := ⟨_, _, _, _, _, _⟩) (v := ?_) rfl (by decide +kernel) (fun _ _ _ h => h) (Or.inl ⟨by rfl, ?_⟩) (fun _ => hS) ?_
                  rotate_left
                  focus (intro w _; go_simp; (try with_reducible rfl); done)
                  simp only [Act.put, List.setIfInBounds_toArray, List.set_cons_zero, List.set_cons_succ]
                  refine wpAnyZ_done (by decide +kernel) ?_
                  have L6 := Hd.mk (hL.out.below (below_drewK wr))
                  have HD6 := Hd.mk (hD.out.below (below_drewK wr))
                  clear hS hL hD
                  generalize wr.drew = W6 at L6 HD6 ⊢
                  go_wp2_with fail
                  go_end0
                  rw [hres.out, hov.out, hend.out]
                  exact ⟨rfl, L6.out.end_⟩
              · have c1 : ((s'.bad : Int) == 0) = false := by simp; omega
                have hend : Hd (overR q (fun n' e f' s => nodeR l kind q f n' (m - 1) e f' s) (bg && ((i : Int) == (fr : Int))) (ps.drop i) s' = s') := ⟨by rw [hd.out, overR, if_neg (fun h => hbad h.1)]⟩
                go_wp2_with fail
                refine region_zone 24 [false, false, false, false, false, false, false, false, false, false, false, false, false, false, false, false, false, false, false, false, false, false, false, false] (by kernel_rfl) (by kernel_rfl) hmix (fun w' => LfS w w' g A n c kind q s' O' on' oc' nb m P pn pc ps O oc) [] ?_ (fun hS => ?_)
                · exact hL.out.below (below_drewK wr)
                refine wpAnyZ_take0 (i := 0) (oi := ⟨_, _, _, _, _, _⟩) (v := ?_) rfl (by decide +kernel) (fun _ _ _ h => h) (Or.inl ⟨by rfl, ?_⟩) (fun _ => hS) ?_
                rotate_left
                focus (intro w _; go_simp; (try with_reducible rfl); done)
                simp only [Act.put, List.setIfInBounds_toArray, List.set_cons_zero, List.set_cons_succ]
                refine wpAnyZ_take0 (i := 1) (oi := ⟨_, _, _, _, _, _⟩) (v := ?_) rfl (by decide +kernel) (fun _ _ _ h => h) (Or.inl ⟨by rfl, ?_⟩) (fun _ => hS) ?_
                rotate_left
                focus (intro w _; go_simp; (try with_reducible rfl); done)
                simp only [Act.put, List.setIfInBounds_toArray, List.set_cons_zero, List.set_cons_succ]
                refine wpAnyZ_take (i := 2) (oi := ⟨_, _, _, _, _, _⟩) (v := ?_) rfl (by decide +kernel) (fun _ _ _ h => h) (Or.inl ⟨by rfl, ?_⟩) hS ?_
                rotate_left
                focus (intro w hSw; (try dsimp only at hSw); (obtain ⟨z0, z1, z2, z3, z4, z5, z6, z7, z8, z9⟩ := wkr_load hSw.wk; obtain ⟨u0, u1, u2, u3⟩ := hSw.nd.load; clear hSw); go_simp; (try with_reducible rfl); done)
                simp only [Act.put, List.setIfInBounds_toArray, List.set_cons_zero, List.set_cons_succ]
                refine wpAnyZ_take0 (i := 3) (oi := ⟨_, _, _, _, _, _⟩) (v := ?_) rfl (by decide +kernel) (fun _ _ _ h => h) (Or.inl ⟨by rfl, ?_⟩) (fun _ => hS) ?_
                rotate_left
                focus (intro w _; go_simp; (try with_reducible rfl); done)
                simp only [Act.put, List.setIfInBounds_toArray, List.set_cons_zero, List.set_cons_succ]
                refine wpAnyZ_take0 (i := 4) (oi := ⟨_, _, _, _, _, _⟩) (v := ?_) rfl (by decide +kernel) (fun _ _ _ h => h) (Or.inl ⟨by rfl, ?_⟩) (fun _ => hS) ?_
                rotate_left
                focus (intro w _; go_simp; (try with_reducible rfl); done)
                simp only [Act.put, List.setIfInBounds_toArray, List.set_cons_zero, List.set_cons_succ]
                refine wpAnyZ_take0 (i := 5) (oi := ⟨_, _, _, _, _, _⟩) (v := ?_) rfl (by decide +kernel) (fun _ _ _ h => h) (Or.inl ⟨by rfl, ?_⟩) (fun _ => hS) ?_
                rotate_left
                focus (intro w _; go_simp; (try with_reducible rfl); done)
                simp only [Act.put, List.setIfInBounds_toArray, List.set_cons_zero, List.set_cons_succ]
                first
                  | (refine wpAnyZ_take0 (i := 6) (oi := ⟨_, _, _, _, _, _⟩) (v := undef) rfl (by decide +kernel) (fun _ _ _ h => h) (Or.inr ⟨by rfl, rfl⟩) (fun _ => hS) ?_)
                  | (refine wpAnyZ_take0 (i := 6) (oi := ⟨_, _, _, _, _, _⟩) (v := ?_) rfl (by decide +kernel) (fun _ _ _ h => h) (Or.inl ⟨by rfl, ?_⟩) (fun _ => hS) ?_; rotate_left; focus (intro w hSw; go_simp; (try with_reducible rfl); done))
                simp only [Act.put, List.setIfInBounds_toArray, List.set_cons_zero, List.set_cons_succ]
                first
                  | (refine wpAnyZ_take0 (i := 7) (oi := ⟨_, _, _, _, _, _⟩) (v := undef) rfl (by decide +kernel) (fun _ _ _ h => h) (Or.inr ⟨by rfl, rfl⟩) (fun _ => hS) ?_)
                  | (refine wpAnyZ_take0 (i := 7) (oi := ⟨_, _, _, _, _, _⟩) (v := ?_) rfl (by decide +kernel) (fun _ _ _ h => h) (Or.inl ⟨by rfl, ?_⟩) (fun _ => hS) ?_; rotate_left; focus (intro w hSw; go_simp; (try with_reducible rfl); done))
                simp only [Act.put, List.setIfInBounds_toArray, List.set_cons_zero, List.set_cons_succ]
                first
                  | (refine wpAnyZ_take0 (i := 8) (oi := ⟨_, _, _, _, _, _⟩) (v := undef) rfl (by decide +kernel) (fun _ _ _ h => h) (Or.inr ⟨by rfl, rfl⟩) (fun _ => hS) ?_)
                  | (refine wpAnyZ_take0 (i := 8) (oi := ⟨_, _, _, _, _, _⟩) (v := ?_) rfl (by decide +kernel) (fun _ _ _ h => h) (Or.inl ⟨by rfl, ?_⟩) (fun _ => hS) ?_; rotate_left; focus (intro w hSw; go_simp; (try with_reducible rfl); done))
                simp only [Act.put, List.setIfInBounds_toArray, List.set_cons_zero, List.set_cons_succ]
                first
                  | (refine wpAnyZ_take (i := 9) (oi := ⟨_, _, _, _, _, _⟩) (v := undef) rfl (by decide +kernel) (fun _ _ _ h => h) (Or.inr ⟨by rfl, rfl⟩) hS ?_)
                  | (refine wpAnyZ_take (i := 9) (oi := ⟨_, _, _, _, _, _⟩) (v := ?_) rfl (by decide +kernel) (fun _ _ _ h => h) (Or.inl ⟨by rfl, ?_⟩) hS ?_; rotate_left; focus (intro w hSw; (try dsimp only at hSw); (obtain ⟨z0, z1, z2, z3, z4, z5, z6, z7, z8, z9⟩ := wkr_load hSw.wk; obtain ⟨u0, u1, u2, u3⟩ := hSw.nd.load; clear hSw); go_simp; (try with_reducible rfl); done))
                simp only [Act.put, List.setIfInBounds_toArray, List.set_cons_zero, List.set_cons_succ]
                first
                  | (refine wpAnyZ_take0 (i := 10) (oi := ⟨_, _, _, _, _, _⟩) (v := undef) rfl (by decide +kernel) (fun _ _ _ h => h) (Or.inr ⟨by rfl, rfl⟩) (fun _ => hS) ?_)
                  | (refine wpAnyZ_take0 (i := 10) (oi := ⟨_, _, _, _, _, _⟩) (v := ?_) rfl (by decide +kernel) (fun _ _ _ h => h) (Or.inl ⟨by rfl, ?_⟩) (fun _ => hS) ?_; rotate_left; focus (intro w hSw; go_simp; (try with_reducible rfl); done))
                simp only [Act.put, List.setIfInBounds_toArray, List.set_cons_zero, List.set_cons_succ]
                refine wpAnyZ_take0 (i := 11) (oi := ⟨_, _, _, _, _, _⟩) (v := ?_) rfl (by decide +kernel) (fun _ _ _ h => h) (Or.inl ⟨by rfl, ?_⟩) (fun _ => hS) ?_
                rotate_left
                focus (intro w _; go_simp; (try with_reducible rfl); done)
                simp only [Act.put, List.setIfInBounds_toArray, List.set_cons_zero, List.set_cons_succ]
                refine wpAnyZ_take0 (i := 12) (oi := ⟨_, _, _, _, _, _⟩) (v := ?_) rfl (by decide +kernel) (fun _ _ _ h => h) (Or.inl ⟨by rfl, ?_⟩) (fun _ => hS) ?_
                rotate_left
                focus (intro w _; go_simp; (try with_reducible rfl); done)
                simp only [Act.put, List.setIfInBounds_toArray, List.set_cons_zero, List.set_cons_succ]
                first
                  | (refine wpAnyZ_take0 (i := 13) (oi := ⟨_, _, _, _, _, _⟩) (v := undef) rfl (by decide +kernel) (fun _ _ _ h => h) (Or.inr ⟨by rfl, rfl⟩) (fun _ => hS) ?_)
                  | (refine wpAnyZ_take0 (i := 13) (oi := ⟨_, _, _, _, _, _⟩) (v := ?_) rfl (by decide +kernel) (fun _ _ _ h => h) (Or.inl ⟨by rfl, ?_⟩) (fun _ => hS) ?_; rotate_left; focus (intro w hSw; go_simp; (try with_reducible rfl); done))
                simp only [Act.put, List.setIfInBounds_toArray, List.set_cons_zero, List.set_cons_succ]
                first
                  | (refine wpAnyZ_take0 (i := 14) (oi := ⟨_, _, _, _, _, _⟩) (v := undef) rfl (by decide +kernel) (fun _ _ _ h => h) (Or.inr ⟨by rfl, rfl⟩) (fun _ => hS) ?_)
                  | (refine wpAnyZ_take0 (i := 14) (oi := ⟨_, _, _, _, _, _⟩) (v := ?_) rfl (by decide +kernel) (fun _ _ _ h => h) (Or.inl ⟨by rfl, ?_⟩) (fun _ => hS) ?_; rotate_left; focus (intro w hSw; go_simp; (try with_reducible rfl); done))
                simp only [Act.put, List.setIfInBounds_toArray, List.set_cons_zero, List.set_cons_succ]
                first
                  | (refine wpAnyZ_take0 (i := 15) (oi := ⟨_, _, _, _, _, _⟩) (v := undef) rfl (by decide +kernel) (fun _ _ _ h => h) (Or.inr ⟨by rfl, rfl⟩) (fun _ => hS) ?_)
                  | (refine wpAnyZ_take0 (i := 15) (oi := ⟨_, _, _, _, _, _⟩) (v := ?_) rfl (by decide +kernel) (fun _ _ _ h => h) (Or.inl ⟨by rfl, ?_⟩) (fun _ => hS) ?_; rotate_left; focus (intro w hSw; go_simp; (try with_reducible rfl); done))
                simp only [Act.put, List.setIfInBounds_toArray, List.set_cons_zero, List.set_cons_succ]
                first
                  | (refine wpAnyZ_take (i := 16) (oi := ⟨_, _, _, _, _, _⟩) (v := undef) rfl (by decide +kernel) (fun _ _ _ h => h) (Or.inr ⟨by rfl, rfl⟩) hS ?_)
                  | (refine wpAnyZ_take (i := 16) (oi := ⟨_, _, _, _, _, _⟩) (v := ?_) rfl (by decide +kernel) (fun _ _ _ h => h) (Or.inl ⟨by rfl, ?_⟩) hS ?_; rotate_left; focus (intro w hSw; (try dsimp only at hSw); (obtain ⟨z0, z1, z2, z3, z4, z5, z6, z7, z8, z9⟩ := wkr_load hSw.wk; obtain ⟨u0, u1, u2, u3⟩ := hSw.nd.load; clear hSw); go_simp; (try with_reducible rfl); done))
                simp only [Act.put, List.setIfInBounds_toArray, List.set_cons_zero, List.set_cons_succ]
                first
                  | (refine wpAnyZ_take0 (i := 17) (oi := ⟨_, _, _, _, _, _⟩) (v := undef) rfl (by decide +kernel) (fun _ _ _ h => h) (Or.inr ⟨by rfl, rfl⟩) (fun _ => hS) ?_)
                  | (refine wpAnyZ_take0 (i := 17) (oi := ⟨_, _, _, _, _, _⟩) (v := ?_) rfl (by decide +kernel) (fun _ _ _ h => h) (Or.inl ⟨by rfl, ?_⟩) (fun _ => hS) ?_; rotate_left; focus (intro w hSw; go_simp; (try with_reducible rfl); done))
                simp only [Act.put, List.setIfInBounds_toArray, List.set_cons_zero, List.set_cons_succ]
                first
                  | (refine wpAnyZ_take0 (i := 18) (oi := ⟨_, _, _, _, _, _⟩) (v := undef) rfl (by decide +kernel) (fun _ _ _ h => h) (Or.inr ⟨by rfl, rfl⟩) (fun _ => hS) ?_)
                  | (refine wpAnyZ_take0 (i := 18) (oi := ⟨_, _, _, _, _, _⟩) (v := ?_) rfl (by decide +kernel) (fun _ _ _ h => h) (Or.inl ⟨by rfl, ?_⟩) (fun _ => hS) ?_; rotate_left; focus (intro w hSw; go_simp; (try with_reducible rfl); done))
                simp only [Act.put, List.setIfInBounds_toArray, List.set_cons_zero, List.set_cons_succ]
                first
                  | (refine wpAnyZ_take0 (i := 19) (oi := ⟨_, _, _, _, _, _⟩) (v := undef) rfl (by decide +kernel) (fun _ _ _ h => h) (Or.inr ⟨by rfl, rfl⟩) (fun _ => hS) ?_)
                  | (refine wpAnyZ_take0 (i := 19) (oi := ⟨_, _, _, _, _, _⟩) (v := ?_) rfl (by decide +kernel) (fun _ _ _ h => h) (Or.inl ⟨by rfl, ?_⟩) (fun _ => hS) ?_; rotate_left; focus (intro w hSw; go_simp; (try with_reducible rfl); done))
                simp only [Act.put, List.setIfInBounds_toArray, List.set_cons_zero, List.set_cons_succ]
                first
                  | (refine wpAnyZ_take0 (i := 20) (oi := ⟨_, _, _, _, _, _⟩) (v := undef) rfl (by decide +kernel) (fun _ _ _ h => h) (Or.inr ⟨by rfl, rfl⟩) (fun _ => hS) ?_)
                  | (refine wpAnyZ_take0 (i := 20) (oi := ⟨_, _, _, _, _, _⟩) (v := ?_) rfl (by decide +kernel) (fun _ _ _ h => h) (Or.inl ⟨by rfl, ?_⟩) (fun _ => hS) ?_; rotate_left; focus (intro w hSw; go_simp; (try with_reducible rfl); done))
                simp only [Act.put, List.setIfInBounds_toArray, List.set_cons_zero, List.set_cons_succ]
                first
                  | (refine wpAnyZ_take (i := 21) (oi := ⟨_, _, _, _, _, _⟩) (v := undef) rfl (by decide +kernel) (fun _ _ _ h => h) (Or.inr ⟨by rfl, rfl⟩) hS ?_)
                  | (refine wpAnyZ_take (i := 21) (oi := ⟨_, _, _, _, _, _⟩) (v := ?_) rfl (by decide +kernel) (fun _ _ _ h => h) (Or.inl ⟨by rfl, ?_⟩) hS ?_; rotate_left; focus (intro w hSw; (try dsimp only at hSw); (obtain ⟨z0, z1, z2, z3, z4, z5, z6, z7, z8, z9⟩ := wkr_load hSw.wk; obtain ⟨u0, u1, u2, u3⟩ := hSw.nd.load; clear hSw); go_simp; (try with_reducible rfl); done))
                simp only [Act.put, List.setIfInBounds_toArray, List.set_cons_zero, List.set_cons_succ]
                first
                  | (refine wpAnyZ_take0 (i := 22) (oi := ⟨_, _, _, _, _, _⟩) (v := undef) rfl (by decide +kernel) (fun _ _ _ h => h) (Or.inr ⟨by rfl, rfl⟩) (fun _ => hS) ?_)
                  | (refine wpAnyZ_take0 (i := 22) (oi := ⟨_, _, _, _, _, _⟩) (v := ?_) rfl (by decide +kernel) (fun _ _ _ h => h) (Or.inl ⟨by rfl, ?_⟩) (fun _ => hS) ?_; rotate_left; focus (intro w hSw; go_simp; (try with_reducible rfl); done))
                simp only [Act.put, List.setIfInBounds_toArray, List.set_cons_zero, List.set_cons_succ]
                refine wpAnyZ_take0 (i := 23) (oi := ⟨_, _, _, _, _, _⟩) (v := ?_) rfl (by decide +kernel) (fun _ _ _ h => h) (Or.inl ⟨by rfl, ?_⟩) (fun _ => hS) ?_
                rotate_left
                focus (intro w _; go_simp; (try with_reducible rfl); done)
                simp only [Act.put, List.setIfInBounds_toArray, List.set_cons_zero, List.set_cons_succ]
                refine wpAnyZ_done (by decide +kernel) ?_
                have L6 := Hd.mk (hL.out.below (below_drewK wr))
                have HD6 := Hd.mk (hD.out.below (below_drewK wr))
                clear hS hL hD
                generalize wr.drew = W6 at L6 HD6 ⊢
                go_wp2_with fail
                go_end0
                rw [hres.out, hov.out, hend.out]
                exact ⟨rfl, L6.out.end_⟩
            · obtain rfl : i = pn := by omega
              have i1 : decide ((i : Int) < (i : Int)) = false := by simp
              have i2 : ¬ ((i : Int) < (i : Int)) := by omega
              have hend : Hd (overR q (fun n' e f' s => nodeR l kind q f n' (m - 1) e f' s) (bg && ((i : Int) == (fr : Int))) (ps.drop i) s' = s') := ⟨by rw [List.drop_of_length_le (by rw [hplen.out]; exact Nat.le_refl _), overR]⟩
              go_wp2_with fail
              refine region_zone 24 [false, false, false, false, false, false, false, false, false, false, false, false, false, false, false, false, false, false, false, false, false, false, false, false] (by kernel_rfl) (by kernel_rfl) hmix (fun w' => LfS w w' g A n c kind q s' O' on' oc' nb m P i pc ps O oc) [] ?_ (fun hS => ?_)
              · exact hL.out.below (below_drewK wr)
              refine wpAnyZ_take0 (i := 0) (oi := ⟨_, _, _, _, _, _⟩) (v := ?_) rfl (by decide +kernel) (fun _ _ _ h => h) (Or.inl ⟨by rfl, ?_⟩) (fun _ => hS) ?_
              rotate_left
              focus (intro w _; go_simp; (try with_reducible rfl); done)
              simp only [Act.put, List.setIfInBounds_toArray, List.set_cons_zero, List.set_cons_succ]
              refine wpAnyZ_take0 (i := 1) (oi := ⟨_, _, _, _, _, _⟩) (v := ?_) rfl (by decide +kernel) (fun _ _ _ h => h) (Or.inl ⟨by rfl, ?_⟩) (fun _ => hS) ?_
              rotate_left
              focus (intro w _; go_simp; (try with_reducible rfl); done)
              simp only [Act.put, List.setIfInBounds_toArray, List.set_cons_zero, List.set_cons_succ]
              refine wpAnyZ_take (i := 2) (oi := ⟨_, _, _, _, _, _⟩) (v := ?_) rfl (by decide +kernel) (fun _ _ _ h => h) (Or.inl ⟨by rfl, ?_⟩) hS ?_
              rotate_left
              focus (intro w hSw; (try dsimp only at hSw); (obtain ⟨z0, z1, z2, z3, z4, z5, z6, z7, z8, z9⟩ := wkr_load hSw.wk; obtain ⟨u0, u1, u2, u3⟩ := hSw.nd.load; clear hSw); go_simp; (try with_reducible rfl); done)
              simp only [Act.put, List.setIfInBounds_toArray, List.set_cons_zero, List.set_cons_succ]
              refine wpAnyZ_take0 (i := 3) (oi := ⟨_, _, _, _, _, _⟩) (v := ?_) rfl (by decide +kernel) (fun _ _ _ h => h) (Or.inl ⟨by rfl, ?_⟩) (fun _ => hS) ?_
              rotate_left
              focus (intro w _; go_simp; (try with_reducible rfl); done)
              simp only [Act.put, List.setIfInBounds_toArray, List.set_cons_zero, List.set_cons_succ]
              refine wpAnyZ_take0 (i := 4) (oi := ⟨_, _, _, _, _, _⟩) (v := ?_) rfl (by decide +kernel) (fun _ _ _ h => h) (Or.inl ⟨by rfl, ?_⟩) (fun _ => hS) ?_
              rotate_left
              focus (intro w _; go_simp; (try with_reducible rfl); done)
              simp only [Act.put, List.setIfInBounds_toArray, List.set_cons_zero, List.set_cons_succ]
              refine wpAnyZ_take0 (i := 5) (oi := ⟨_, _, _, _, _, _⟩) (v := ?_) rfl (by decide +kernel) (fun _ _ _ h => h) (Or.inl ⟨by rfl, ?_⟩) (fun _ => hS) ?_
              rotate_left
              focus (intro w _; go_simp; (try with_reducible rfl); done)
              simp only [Act.put, List.setIfInBounds_toArray, List.set_cons_zero, List.set_cons_succ]
              first
                | (refine wpAnyZ_take0 (i := 6) (oi := ⟨_, _, _, _, _, _⟩) (v := undef) rfl (by decide +kernel) (fun _ _ _ h => h) (Or.inr ⟨by rfl, rfl⟩) (fun _ => hS) ?_)
                | (refine wpAnyZ_take0 (i := 6) (oi := ⟨_, _, _, _, _, _⟩) (v := ?_) rfl (by decide +kernel) (fun _ _ _ h => h) (Or.inl ⟨by rfl, ?_⟩) (fun _ => hS) ?_; rotate_left; focus (intro w hSw; go_simp; (try with_reducible rfl); done))
              simp only [Act.put, List.setIfInBounds_toArray, List.set_cons_zero, List.set_cons_succ]
              first
                | (refine wpAnyZ_take0 (i := 7) (oi := ⟨_, _, _, _, _, _⟩) (v := undef) rfl (by decide +kernel) (fun _ _ _ h => h) (Or.inr ⟨by rfl, rfl⟩) (fun _ => hS) ?_)
                | (refine wpAnyZ_take0 (i := 7) (oi := ⟨_, _, _, _, _, _⟩) (v := ?_) rfl (by decide +kernel) (fun _ _ _ h => h) (Or.inl ⟨by rfl, ?_⟩) (fun _ => hS) ?_; rotate_left; focus (intro w hSw; go_simp; (try with_reducible rfl); done))
              simp only [Act.put, List.setIfInBounds_toArray, List.set_cons_zero, List.set_cons_succ]
              first
                | (refine wpAnyZ_take0 (i := 8) (oi := ⟨_, _, _, _, _, _⟩) (v := undef) rfl (by decide +kernel) (fun _ _ _ h => h) (Or.inr ⟨by rfl, rfl⟩) (fun _ => hS) ?_)
                | (refine wpAnyZ_take0 (i := 8) (oi := ⟨_, _, _, _, _, _⟩) (v := ?_) rfl (by decide +kernel) (fun _ _ _ h => h) (Or.inl ⟨by rfl, ?_⟩) (fun _ => hS) ?_; rotate_left; focus (intro w hSw; go_simp; (try with_reducible rfl); done))
              simp only [Act.put, List.setIfInBounds_toArray, List.set_cons_zero, List.set_cons_succ]
              first
                | (refine wpAnyZ_take (i := 9) (oi := ⟨_, _, _, _, _, _⟩) (v := undef) rfl (by decide +kernel) (fun _ _ _ h => h) (Or.inr ⟨by rfl, rfl⟩) hS ?_)
                | (refine wpAnyZ_take (i := 9) (oi := ⟨_, _, _, _, _, _⟩) (v := ?_) rfl (by decide +kernel) (fun _ _ _ h => h) (Or.inl ⟨by rfl, ?_⟩) hS ?_; rotate_left; focus (intro w hSw; (try dsimp only at hSw); (obtain ⟨z0, z1, z2, z3, z4, z5, z6, z7, z8, z9⟩ := wkr_load hSw.wk; obtain ⟨u0, u1, u2, u3⟩ := hSw.nd.load; clear hSw); go_simp; (try with_reducible rfl); done))
              simp only [Act.put, List.setIfInBounds_toArray, List.set_cons_zero, List.set_cons_succ]
              first
                | (refine wpAnyZ_take0 (i := 10) (oi := ⟨_, _, _, _, _, _⟩) (v := undef) rfl (by decide +kernel) (fun _ _ _ h => h) (Or.inr ⟨by rfl, rfl⟩) (fun _ => hS) ?_)
                | (refine wpAnyZ_take0 (i := 10) (oi := ⟨_, _, _, _, _, _⟩) (v := ?_) rfl (by decide +kernel) (fun _ _ _ h => h) (Or.inl ⟨by rfl, ?_⟩) (fun _ => hS) ?_; rotate_left; focus (intro w hSw; go_simp; (try with_reducible rfl); done))
              simp only [Act.put, List.setIfInBounds_toArray, List.set_cons_zero, List.set_cons_succ]
              refine wpAnyZ_take0 (i := 11) (oi := ⟨_, _, _, _, _, _⟩) (v := ?_) rfl (by decide +kernel) (fun _ _ _ h => h) (Or.inl ⟨by rfl, ?_⟩) (fun _ => hS) ?_
              rotate_left
              focus (intro w _; go_simp; (try with_reducible rfl); done)
              simp only [Act.put, List.setIfInBounds_toArray, List.set_cons_zero, List.set_cons_succ]
              refine wpAnyZ_take0 (i := 12) (oi := ⟨_, _, _, _, _, _⟩) (v := ?_) rfl (by decide +kernel) (fun _ _ _ h => h) (Or.inl ⟨by rfl, ?_⟩) (fun _ => hS) ?_
              rotate_left
              focus (intro w _; go_simp; (try with_reducible rfl); done)
              simp only [Act.put, List.setIfInBounds_toArray, List.set_cons_zero, List.set_cons_succ]
              first
                | (refine wpAnyZ_take0 (i := 13) (oi := ⟨_, _, _, _, _, _⟩) (v := undef) rfl (by decide +kernel) (fun _ _ _ h => h) (Or.inr ⟨by rfl, rfl⟩) (fun _ => hS) ?_)
                | (refine wpAnyZ_take0 (i := 13) (oi := ⟨_, _, _, _, _, _⟩) (v := ?_) rfl (by decide +kernel) (fun _ _ _ h => h) (Or.inl ⟨by rfl, ?_⟩) (fun _ => hS) ?_; rotate_left; focus (intro w hSw; go_simp; (try with_reducible rfl); done))
              simp only [Act.put, List.setIfInBounds_toArray, List.set_cons_zero, List.set_cons_succ]
              first
                | (refine wpAnyZ_take0 (i := 14) (oi := ⟨_, _, _, _, _, _⟩) (v := undef) rfl (by decide +kernel) (fun _ _ _ h => h) (Or.inr ⟨by rfl, rfl⟩) (fun _ => hS) ?_)
                | (refine wpAnyZ_take0 (i := 14) (oi := ⟨_, _, _, _, _, _⟩) (v := ?_) rfl (by decide +kernel) (fun _ _ _ h => h) (Or.inl ⟨by rfl, ?_⟩) (fun _ => hS) ?_; rotate_left; focus (intro w hSw; go_simp; (try with_reducible rfl); done))
              simp only [Act.put, List.setIfInBounds_toArray, List.set_cons_zero, List.set_cons_succ]
              first
                | (refine wpAnyZ_take0 (i := 15) (oi := ⟨_, _, _, _, _, _⟩) (v := undef) rfl (by decide +kernel) (fun _ _ _ h => h) (Or.inr ⟨by rfl, rfl⟩) (fun _ => hS) ?_)
                | (refine wpAnyZ_take0 (i := 15) (oi := ⟨_, _, _, _, _, _⟩) (v := ?_) rfl (by decide +kernel) (fun _ _ _ h => h) (Or.inl ⟨by rfl, ?_⟩) (fun _ => hS) ?_; rotate_left; focus (intro w hSw; go_simp; (try with_reducible rfl); done))
              simp only [Act.put, List.setIfInBounds_toArray, List.set_cons_zero, List.set_cons_succ]
              first
                | (refine wpAnyZ_take (i := 16) (oi := ⟨_, _, _, _, _, _⟩) (v := undef) rfl (by decide +kernel) (fun _ _ _ h => h) (Or.inr ⟨by rfl, rfl⟩) hS ?_)
                | (refine wpAnyZ_take (i := 16) (oi := ⟨_, _, _, _, _, _⟩) (v := ?_) rfl (by decide +kernel) (fun _ _ _ h => h) (Or.inl ⟨by rfl, ?_⟩) hS ?_; rotate_left; focus (intro w hSw; (try dsimp only at hSw); (obtain ⟨z0, z1, z2, z3, z4, z5, z6, z7, z8, z9⟩ := wkr_load hSw.wk; obtain ⟨u0, u1, u2, u3⟩ := hSw.nd.load; clear hSw); go_simp; (try with_reducible rfl); done))
              simp only [Act.put, List.setIfInBounds_toArray, List.set_cons_zero, List.set_cons_succ]
              first
                | (refine wpAnyZ_take0 (i := 17) (oi := ⟨_, _, _, _, _, _⟩) (v := undef) rfl (by decide +kernel) (fun _ _ _ h => h) (Or.inr ⟨by rfl, rfl⟩) (fun _ => hS) ?_)
                | (refine wpAnyZ_take0 (i := 17) (oi := ⟨_, _, _, _, _, _⟩) (v := ?_) rfl (by decide +kernel) (fun _ _ _ h => h) (Or.inl ⟨by rfl, ?_⟩) (fun _ => hS) ?_; rotate_left; focus (intro w hSw; go_simp; (try with_reducible rfl); done))
              simp only [Act.put, List.setIfInBounds_toArray, List.set_cons_zero, List.set_cons_succ]
              first
                | (refine wpAnyZ_take0 (i := 18) (oi := ⟨_, _, _, _, _, _⟩) (v := undef) rfl (by decide +kernel) (fun _ _ _ h => h) (Or.inr ⟨by rfl, rfl⟩) (fun _ => hS) ?_)
                | (refine wpAnyZ_take0 (i := 18) (oi := ⟨_, _, _, _, _, _⟩) (v := ?_) rfl (by decide +kernel) (fun _ _ _ h => h) (Or.inl ⟨by rfl, ?_⟩) (fun _ => hS) ?_; rotate_left; focus (intro w hSw; go_simp; (try with_reducible rfl); done))
              simp only [Act.put, List.setIfInBounds_toArray, List.set_cons_zero, List.set_cons_succ]
              first
                | (refine wpAnyZ_take0 (i := 19) (oi := ⟨_, _, _, _, _, _⟩) (v := undef) rfl (by decide +kernel) (fun _ _ _ h => h) (Or.inr ⟨by rfl, rfl⟩) (fun _ => hS) ?_)
                | (refine wpAnyZ_take0 (i := 19) (oi := ⟨_, _, _, _, _, _⟩) (v := ?_) rfl (by decide +kernel) (fun _ _ _ h => h) (Or.inl ⟨by rfl, ?_⟩) (fun _ => hS) ?_; rotate_left; focus (intro w hSw; go_simp; (try with_reducible rfl); done))
              simp only [Act.put, List.setIfInBounds_toArray, List.set_cons_zero, List.set_cons_succ]
              first
                | (refine wpAnyZ_take0 (i := 20) (oi := ⟨_, _, _, _, _, _⟩) (v := undef) rfl (by decide +kernel) (fun _ _ _ h => h) (Or.inr ⟨by rfl, rfl⟩) (fun _ => hS) ?_)
                | (refine wpAnyZ_take0 (i := 20) (oi := ⟨_, _, _, _, _, _⟩) (v := ?_) rfl (by decide +kernel) (fun _ _ _ h => h) (Or.inl ⟨by rfl, ?_⟩) (fun _ => hS) ?_; rotate_left; focus (intro w hSw; go_simp; (try with_reducible rfl); done))
              simp only [Act.put, List.setIfInBounds_toArray, List.set_cons_zero, List.set_cons_succ]
              first
                | (refine wpAnyZ_take (i := 21) (oi := ⟨_, _, _, _, _, _⟩) (v := undef) rfl (by decide +kernel) (fun _ _ _ h => h) (Or.inr ⟨by rfl, rfl⟩) hS ?_)
                | (refine wpAnyZ_take (i := 21) (oi := ⟨_, _, _, _, _, _⟩) (v := ?_) rfl (by decide +kernel) (fun _ _ _ h => h) (Or.inl ⟨by rfl, ?_⟩) hS ?_; rotate_left; focus (intro w hSw; (try dsimp only at hSw); (obtain ⟨z0, z1, z2, z3, z4, z5, z6, z7, z8, z9⟩ := wkr_load hSw.wk; obtain ⟨u0, u1, u2, u3⟩ := hSw.nd.load; clear hSw); go_simp; (try with_reducible rfl); done))
              simp only [Act.put, List.setIfInBounds_toArray, List.set_cons_zero, List.set_cons_succ]
              first
                | (refine wpAnyZ_take0 (i := 22) (oi := ⟨_, _, _, _, _, _⟩) (v := undef) rfl (by decide +kernel) (fun _ _ _ h => h) (Or.inr ⟨by rfl, rfl⟩) (fun _ => hS) ?_)
                | (refine wpAnyZ_take0 (i := 22) (oi := ⟨_, _, _, _, _, _⟩) (v := ?_) rfl (by decide +kernel) (fun _ _ _ h => h) (Or.inl ⟨by rfl, ?_⟩) (fun _ => hS) ?_; rotate_left; focus (intro w hSw; go_simp; (try with_reducible rfl); done))
              simp only [Act.put, List.setIfInBounds_toArray, List.set_cons_zero, List.set_cons_succ]
              refine wpAnyZ_take0 (i := 23) (oi := ⟨_, _, _, _, _, _⟩) (v := ?_) rfl (by decide +kernel) (fun _ _ _ h => h) (Or.inl ⟨by rfl, ?_⟩) (fun _ => hS) ?_
              rotate_left
              focus (intro w _; go_simp; (try with_reducible rfl); done)
              simp only [Act.put, List.setIfInBounds_toArray, List.set_cons_zero, List.set_cons_succ]
              refine wpAnyZ_done (by decide +kernel) ?_
              have L6 := Hd.mk (hL.out.below (below_drewK wr))
              have HD6 := Hd.mk (hD.out.below (below_drewK wr))
              clear hS hL hD
              generalize wr.drew = W6 at L6 HD6 ⊢
              go_wp2_with fail
              go_end0
              rw [hres.out, hov.out, hend.out]
              exact ⟨rfl, L6.out.end_⟩
end Go.Proofs.Ytkgdcglnkodgnaa

