/-
  tree's builder: a node's page laid (the inner function of level). No condition but sizes.
-/
import Derived.Test.YtkgdcglnkodgnaaTreeB
import Derived.Test.YtkgdcglnkodgnaaNavM
import Derived.Test.YtkgdcglnkodgnaaZone
namespace Go.Proofs.Ytkgdcglnkodgnaa
open Go.RowKit
/-- A builder in block g, its pages. -/
structure BldC (w : World) (g : Nat) (kind : UInt8) (next : Int) (P : Option Addr) (pn pc : Nat) (pgs : List UInt8) : Prop where
  heap : w.heap[g]? = some (.cells #[.int .u8 (kind.toNat : Int), .int .i64 next, .slice P pn pc] 154 (0, 0))
  own : Own8 w 0 P pn pc pgs
/-- The blocks that it may write. -/
def FB (g : Nat) (P : Option Addr) (pc : Nat) : Nat → Prop := fun k => k = g ∨ ownBlk P pc = some k
theorem own_type {w : World} {base e size n c k : Nat} {A : Option Addr} {xs : List Value} (h : Own w base e size A n c xs) (hk : ownBlk A c = some k) : ∃ cs, w.heap[k]? = some (.cells cs e (0, 0)) := by
  rcases h.2.2.2 with h0 | ⟨g', off, cur, h1, _, h3, _⟩
  · simp [ownBlk, h0] at hk
  · unfold ownBlk at hk
    split at hk
    · cases hk
    · simp [h1] at hk
      subst hk
      exact ⟨cur, h3⟩
theorem own_ne {w : World} {base e size n c k T : Nat} {A : Option Addr} {xs : List Value} {cs : Array Value} (h : Own w base e size A n c xs) (hk : w.heap[k]? = some (.cells cs T (0, 0))) (hT : T ≠ e) : ownBlk A c ≠ some k := by
  intro e1
  obtain ⟨cs', h1⟩ := own_type h e1
  rw [hk] at h1
  injection h1 with h1
  injection h1 with _ h1
  exact hT h1
section
variable {w w' : World} {g : Nat} {kind : UInt8} {next : Int} {P : Option Addr} {pn pc : Nat} {pgs : List UInt8}
theorem BldC.notFB (h : BldC w g kind next P pn pc pgs) {k T : Nat} {cs : Array Value} (hk : w.heap[k]? = some (.cells cs T (0, 0))) (h1 : T ≠ 154) (h2 : T ≠ 5) : ¬ FB g P pc k := by
  rintro (rfl | e)
  · rw [h.heap] at hk
    injection hk with hk
    injection hk with _ hk
    exact h1 hk.symm
  · exact own_ne h.own hk h2 e
theorem BldC.ltF (h : BldC w g kind next P pn pc pgs) {k : Nat} (hk : FB g P pc k) : k < w.heap.size := by
  rcases hk with rfl | e
  · exact (Array.getElem?_eq_some_iff.1 h.heap).1
  · exact (Own.lt h.own e).2
theorem BldC.below (h : BldC w g kind next P pn pc pgs) (hb : Below w.heap.size w w') : BldC w' g kind next P pn pc pgs :=
  ⟨(hb.block g (h.ltF (.inl rfl))).trans h.heap, Own.below h.own hb⟩
theorem BldC.keep (h : BldC w g kind next P pn pc pgs) {G : Nat → Prop} (ht : Tch G w w') (hG : ∀ k, FB g P pc k → ¬ G k) : BldC w' g kind next P pn pc pgs :=
  ⟨(ht.block g (h.ltF (.inl rfl)) (hG g (.inl rfl))).trans h.heap, Own.keep h.own fun k e _ _ => ht.block k (h.ltF (.inr e)) (hG k (.inr e))⟩
theorem bld_load {a b c : Value} (h : w.heap[g]? = some (.cells #[a, b, c] 154 (0, 0))) : w.cell? ⟨g, 0, none⟩ = some a ∧ w.cell? ⟨g, 1, none⟩ = some b ∧ w.cell? ⟨g, 2, none⟩ = some c :=
  ⟨(cell_of_row _ _ 0 _ _ _ h).trans rfl, (cell_of_row _ _ 1 _ _ _ h).trans rfl, (cell_of_row _ _ 2 _ _ _ h).trans rfl⟩
theorem one_load {T : Nat} {a : Value} (h : w.heap[g]? = some (.cells #[a] T (0, 0))) : w.cell? ⟨g, 0, none⟩ = some a := (cell_of_row _ _ 0 _ _ _ h).trans rfl
end
theorem Rd8.tch {w w' : World} {A : Option Addr} {n : Nat} {l : List UInt8} {F : Nat → Prop} (h : Rd8 w A n l) (ht : Tch F w w') (hne : ∀ ad, A = some ad → ¬ F ad.block) : Rd8 w' A n l := by
  refine ⟨h.1, fun hn => ?_⟩
  obtain ⟨ad, hA, hc⟩ := h.2 hn
  refine ⟨ad, hA, fun j u hu => (World.cell?_of_block ?_).trans (hc j u hu)⟩
  have := cell_lt (hc j u hu)
  rw [block_add] at this ⊢
  exact ht.block _ this (hne ad hA)
/-- What the inner function answers. -/
def RetFl (w : World) (g : Nat) (kind : UInt8) (next : Int) (P : Option Addr) (pc : Nat) (pgs data : List UInt8) (e : Ending) (w' : World) : Prop :=
  if next < 0 ∨ 16384 ≤ next then e = .returned (.int .i64 1) ∧ Tch (FB g P pc) w w'
  else e = .returned (.int .i64 0) ∧ ∃ P' pn' pc', BldC w' g kind (next + 1) P' pn' pc' (pgs ++ mkPage kind next.toNat data) ∧ Tch (FB g P pc) w w' ∧ ∀ k, ownBlk P' pc' = some k → ownBlk P pc = some k ∨ w.heap.size ≤ k
set_option maxRecDepth 100000 in
set_option maxHeartbeats 2000000 in
theorem flush149 (gx gd g : Nat) (kind : UInt8) (next : Int) (P : Option Addr) (pn pc : Nat) (pgs data : List UInt8) (D : Option Addr) (dn dc : Nat) (w : World) (hb : BldC w g kind next P pn pc pgs)
    (hgx : w.heap[gx]? = some (.cells #[.pointer (some ⟨g, 0, none⟩)] 152 (0, 0))) (hgd : w.heap[gd]? = some (.cells #[.slice D dn dc] 22 (0, 0))) (hd : Rd8 w D dn data) (hdl : data.length ≤ 246) (hpl : pn ≤ 4194304) :
    Calls Try.prog 149 #[.pointer (some ⟨gx, 0, none⟩), .pointer (some ⟨gd, 0, none⟩)] w (RetFl w g kind next P pc pgs data) := by
  have hmix := try_mixed
  have HM := Hd.mk (make25 kind next D dn dc data w.drew hd.drew)
  have H1 := Hd.mk hgx
  have H2 := Hd.mk hgd
  have H3 := Hd.mk hb.heap
  have HO := Hd.mk hb.own
  have HBC := Hd.mk hb
  clear hb hgx hgd hd
  go_enter Try.func149, Try.ntmps149
  go_wp2_with fail
  refine region_zone 15 [false, false, false, false, false, false, false, false, false, false, false, false, false, false, false] (by kernel_rfl) (by kernel_rfl) hmix (fun w' => w'.heap[gx]? = some (.cells #[.pointer (some ⟨g, 0, none⟩)] 152 (0, 0)) ∧ w'.heap[gd]? = some (.cells #[.slice D dn dc] 22 (0, 0)) ∧ w'.heap[g]? = some (.cells #[.int .u8 (kind.toNat : Int), .int .i64 next, .slice P pn pc] 154 (0, 0))) [] ?_ (fun hS => ?_)
  · exact ⟨H1.out, H2.out, H3.out⟩
  refine wpAnyZ_take (i := 0) (oi := ⟨_, _, _, _, _, _⟩) (v := ?_) rfl (by decide +kernel) (fun _ _ _ h => h) (Or.inl ⟨by rfl, ?_⟩) hS ?_
  rotate_left
  focus (intro w hSw; (try dsimp only at hSw); (obtain ⟨y1, y2, y3⟩ := hSw; have x1 := one_load y1; have x2 := one_load y2; obtain ⟨z0, z1, z2⟩ := bld_load y3; clear y1 y2 y3); go_simp; (try with_reducible rfl); done)
  simp only [Act.put, List.setIfInBounds_toArray, List.set_cons_zero, List.set_cons_succ]
  refine wpAnyZ_take0 (i := 1) (oi := ⟨_, _, _, _, _, _⟩) (v := ?_) rfl (by decide +kernel) (fun _ _ _ h => h) (Or.inl ⟨by rfl, ?_⟩) (fun _ => hS) ?_
  rotate_left
  focus (intro w _; go_simp; (try with_reducible rfl); done)
  simp only [Act.put, List.setIfInBounds_toArray, List.set_cons_zero, List.set_cons_succ]
  refine wpAnyZ_take0 (i := 2) (oi := ⟨_, _, _, _, _, _⟩) (v := ?_) rfl (by decide +kernel) (fun _ _ _ h => h) (Or.inl ⟨by rfl, ?_⟩) (fun _ => hS) ?_
  rotate_left
  focus (intro w _; go_simp; (try with_reducible rfl); done)
  simp only [Act.put, List.setIfInBounds_toArray, List.set_cons_zero, List.set_cons_succ]
  refine wpAnyZ_take (i := 3) (oi := ⟨_, _, _, _, _, _⟩) (v := ?_) rfl (by decide +kernel) (fun _ _ _ h => h) (Or.inl ⟨by rfl, ?_⟩) hS ?_
  rotate_left
  focus (intro w hSw; (try dsimp only at hSw); (obtain ⟨y1, y2, y3⟩ := hSw; have x1 := one_load y1; have x2 := one_load y2; obtain ⟨z0, z1, z2⟩ := bld_load y3; clear y1 y2 y3); go_simp; (try with_reducible rfl); done)
  simp only [Act.put, List.setIfInBounds_toArray, List.set_cons_zero, List.set_cons_succ]
  refine wpAnyZ_take (i := 4) (oi := ⟨_, _, _, _, _, _⟩) (v := ?_) rfl (by decide +kernel) (fun _ _ _ h => h) (Or.inl ⟨by rfl, ?_⟩) hS ?_
  rotate_left
  focus (intro w hSw; (try dsimp only at hSw); (obtain ⟨y1, y2, y3⟩ := hSw; have x1 := one_load y1; have x2 := one_load y2; obtain ⟨z0, z1, z2⟩ := bld_load y3; clear y1 y2 y3); go_simp; (try with_reducible rfl); done)
  simp only [Act.put, List.setIfInBounds_toArray, List.set_cons_zero, List.set_cons_succ]
  refine wpAnyZ_take0 (i := 5) (oi := ⟨_, _, _, _, _, _⟩) (v := ?_) rfl (by decide +kernel) (fun _ _ _ h => h) (Or.inl ⟨by rfl, ?_⟩) (fun _ => hS) ?_
  rotate_left
  focus (intro w _; go_simp; (try with_reducible rfl); done)
  simp only [Act.put, List.setIfInBounds_toArray, List.set_cons_zero, List.set_cons_succ]
  refine wpAnyZ_take0 (i := 6) (oi := ⟨_, _, _, _, _, _⟩) (v := ?_) rfl (by decide +kernel) (fun _ _ _ h => h) (Or.inl ⟨by rfl, ?_⟩) (fun _ => hS) ?_
  rotate_left
  focus (intro w _; go_simp; (try with_reducible rfl); done)
  simp only [Act.put, List.setIfInBounds_toArray, List.set_cons_zero, List.set_cons_succ]
  refine wpAnyZ_take (i := 7) (oi := ⟨_, _, _, _, _, _⟩) (v := ?_) rfl (by decide +kernel) (fun _ _ _ h => h) (Or.inl ⟨by rfl, ?_⟩) hS ?_
  rotate_left
  focus (intro w hSw; (try dsimp only at hSw); (obtain ⟨y1, y2, y3⟩ := hSw; have x1 := one_load y1; have x2 := one_load y2; obtain ⟨z0, z1, z2⟩ := bld_load y3; clear y1 y2 y3); go_simp; (try with_reducible rfl); done)
  simp only [Act.put, List.setIfInBounds_toArray, List.set_cons_zero, List.set_cons_succ]
  refine wpAnyZ_take (i := 8) (oi := ⟨_, _, _, _, _, _⟩) (v := ?_) rfl (by decide +kernel) (fun _ _ _ h => h) (Or.inl ⟨by rfl, ?_⟩) hS ?_
  rotate_left
  focus (intro w hSw; (try dsimp only at hSw); (obtain ⟨y1, y2, y3⟩ := hSw; have x1 := one_load y1; have x2 := one_load y2; obtain ⟨z0, z1, z2⟩ := bld_load y3; clear y1 y2 y3); go_simp; (try with_reducible rfl); done)
  simp only [Act.put, List.setIfInBounds_toArray, List.set_cons_zero, List.set_cons_succ]
  refine wpAnyZ_one (i := 9) rfl (by decide +kernel) (fun K hKK => ?_)
  go_simp
  refine HM.out.mono ?_
  rintro e w1 ⟨A1, n1, c1, rfl, o1, b1⟩
  have B1 := (below_drew w).trans b1
  have hT : w1.heap[gx]? = some (.cells #[.pointer (some ⟨g, 0, none⟩)] 152 (0, 0)) ∧ w1.heap[gd]? = some (.cells #[.slice D dn dc] 22 (0, 0)) ∧ w1.heap[g]? = some (.cells #[.int .u8 (kind.toNat : Int), .int .i64 next, .slice P pn pc] 154 (0, 0)) := ⟨(B1.block gx (Array.getElem?_eq_some_iff.1 H1.out).1).trans H1.out, (B1.block gd (Array.getElem?_eq_some_iff.1 H2.out).1).trans H2.out, (B1.block g (Array.getElem?_eq_some_iff.1 H3.out).1).trans H3.out⟩
  clear hS
  have hS := hT
  refine hKK.out _ _ (fun _ => hS) ?_
  clear hKK
  refine wpAnyZ_take0 (i := 10) (oi := ⟨_, _, _, _, _, _⟩) (v := ?_) rfl (by decide +kernel) (fun _ _ _ h => h) (Or.inl ⟨by rfl, ?_⟩) (fun _ => hS) ?_
  rotate_left
  focus (intro w _; go_simp; (try with_reducible rfl); done)
  simp only [Act.put, List.setIfInBounds_toArray, List.set_cons_zero, List.set_cons_succ]
  refine wpAnyZ_take0 (i := 11) (oi := ⟨_, _, _, _, _, _⟩) (v := ?_) rfl (by decide +kernel) (fun _ _ _ h => h) (Or.inl ⟨by rfl, ?_⟩) (fun _ => hS) ?_
  rotate_left
  focus (intro w _; go_simp; (try with_reducible rfl); done)
  simp only [Act.put, List.setIfInBounds_toArray, List.set_cons_zero, List.set_cons_succ]
  refine wpAnyZ_take0 (i := 12) (oi := ⟨_, _, _, _, _, _⟩) (v := ?_) rfl (by decide +kernel) (fun _ _ _ h => h) (Or.inl ⟨by rfl, ?_⟩) (fun _ => hS) ?_
  rotate_left
  focus (intro w _; go_simp; (try with_reducible rfl); done)
  simp only [Act.put, List.setIfInBounds_toArray, List.set_cons_zero, List.set_cons_succ]
  refine wpAnyZ_take0 (i := 13) (oi := ⟨_, _, _, _, _, _⟩) (v := ?_) rfl (by decide +kernel) (fun _ _ _ h => h) (Or.inl ⟨by rfl, ?_⟩) (fun _ => hS) ?_
  rotate_left
  focus (intro w _; go_simp; (try with_reducible rfl); done)
  simp only [Act.put, List.setIfInBounds_toArray, List.set_cons_zero, List.set_cons_succ]
  refine wpAnyZ_take0 (i := 14) (oi := ⟨_, _, _, _, _, _⟩) (v := ?_) rfl (by decide +kernel) (fun _ _ _ h => h) (Or.inl ⟨by rfl, ?_⟩) (fun _ => hS) ?_
  rotate_left
  focus (intro w _; go_simp; (try with_reducible rfl); done)
  simp only [Act.put, List.setIfInBounds_toArray, List.set_cons_zero, List.set_cons_succ]
  refine wpAnyZ_done (by decide +kernel) ?_
  have HB1 := Hd.mk B1
  have HO1 := Hd.mk (show Own8 w1 w.heap.size A1 n1 c1 _ from o1)
  have HS := Hd.mk hT
  have HC1 := Hd.mk (HBC.out.below B1)
  clear hS hT B1 b1 o1 H1 H2 H3 HM HO
  by_cases hbad : next < 0 ∨ 16384 ≤ next
  · have hm : make kind next data = ([], 1) := if_pos hbad
    rw [hm]
    go_wp2_with fail
    go_ret
    unfold RetFl
    rw [if_pos hbad]
    exact ⟨rfl, Tch.of_below HB1.out⟩
  · have hm : make kind next data = (mkPage kind next.toNat data, 0) := by unfold make; rw [if_neg hbad, if_neg (by omega)]
    rw [hm] at HO1 ⊢
    have hr : Hd (∀ e w', RetFl w g kind next P pc pgs data e w' ↔ e = .returned (.int .i64 0) ∧ ∃ P' pn' pc', BldC w' g kind (next + 1) P' pn' pc' (pgs ++ mkPage kind next.toNat data) ∧ Tch (FB g P pc) w w' ∧ ∀ k, ownBlk P' pc' = some k → ownBlk P pc = some k ∨ w.heap.size ≤ k) := ⟨fun e w' => by unfold RetFl; rw [if_neg hbad]⟩
    have hn1 : n1 = 256 := by have := HO1.out.len; rw [mkPage_length _ _ _ hdl] at this; exact this.symm
    subst hn1
    have hnw : IntKind.i64.wrap (next + 1) = next + 1 := by rw [IntKind.wrap_i64]; omega
    have hgP : Hd (ownBlk P pc ≠ some g) := ⟨own_ne HC1.out.own HC1.out.heap (by decide)⟩
    have hxg : Hd (gx ≠ g) := ⟨fun e => by have h1 := HS.out.1; have h2 := HS.out.2.2; rw [e, h2] at h1; injection h1 with h1; injection h1 with _ h1; cases h1⟩
    clear hbad hm
    go_wp2_with fail
    refine region_zone 10 [false, false, false, false, false, false, false, false, false, false] (by kernel_rfl) (by kernel_rfl) hmix (fun w' => w'.heap[gx]? = some (.cells #[.pointer (some ⟨g, 0, none⟩)] 152 (0, 0)) ∧ w'.heap[gd]? = some (.cells #[.slice D dn dc] 22 (0, 0)) ∧ w'.heap[g]? = some (.cells #[.int .u8 (kind.toNat : Int), .int .i64 next, .slice P pn pc] 154 (0, 0))) [9] ?_ (fun hS => ?_)
    · exact HS.out
    refine wpAnyZ_take (i := 0) (oi := ⟨_, _, _, _, _, _⟩) (v := ?_) rfl (by decide +kernel) (fun _ _ _ h => h) (Or.inl ⟨by rfl, ?_⟩) hS ?_
    rotate_left
    focus (intro w hSw; (try dsimp only at hSw); (obtain ⟨y1, y2, y3⟩ := hSw; have x1 := one_load y1; have x2 := one_load y2; obtain ⟨z0, z1, z2⟩ := bld_load y3; clear y1 y2 y3); go_simp; (try with_reducible rfl); done)
    simp only [Act.put, List.setIfInBounds_toArray, List.set_cons_zero, List.set_cons_succ]
    refine wpAnyZ_take (i := 1) (oi := ⟨_, _, _, _, _, _⟩) (v := ?_) rfl (by decide +kernel) (fun _ _ _ h => h) (Or.inl ⟨by rfl, ?_⟩) hS ?_
    rotate_left
    focus (intro w hSw; (try dsimp only at hSw); (obtain ⟨y1, y2, y3⟩ := hSw; have x1 := one_load y1; have x2 := one_load y2; obtain ⟨z0, z1, z2⟩ := bld_load y3; clear y1 y2 y3); go_simp; (try with_reducible rfl); done)
    simp only [Act.put, List.setIfInBounds_toArray, List.set_cons_zero, List.set_cons_succ]
    refine wpAnyZ_take0 (i := 2) (oi := ⟨_, _, _, _, _, _⟩) (v := ?_) rfl (by decide +kernel) (fun _ _ _ h => h) (Or.inl ⟨by rfl, ?_⟩) (fun _ => hS) ?_
    rotate_left
    focus (intro w _; go_simp; (try with_reducible rfl); done)
    simp only [Act.put, List.setIfInBounds_toArray, List.set_cons_zero, List.set_cons_succ]
    refine wpAnyZ_take0 (i := 3) (oi := ⟨_, _, _, _, _, _⟩) (v := ?_) rfl (by decide +kernel) (fun _ _ _ h => h) (Or.inl ⟨by rfl, ?_⟩) (fun _ => hS) ?_
    rotate_left
    focus (intro w _; go_simp; (try with_reducible rfl); done)
    simp only [Act.put, List.setIfInBounds_toArray, List.set_cons_zero, List.set_cons_succ]
    refine wpAnyZ_take (i := 4) (oi := ⟨_, _, _, _, _, _⟩) (v := ?_) rfl (by decide +kernel) (fun _ _ _ h => h) (Or.inl ⟨by rfl, ?_⟩) hS ?_
    rotate_left
    focus (intro w hSw; (try dsimp only at hSw); (obtain ⟨y1, y2, y3⟩ := hSw; have x1 := one_load y1; have x2 := one_load y2; obtain ⟨z0, z1, z2⟩ := bld_load y3; clear y1 y2 y3); go_simp; (try with_reducible rfl); done)
    simp only [Act.put, List.setIfInBounds_toArray, List.set_cons_zero, List.set_cons_succ]
    refine wpAnyZ_take0 (i := 5) (oi := ⟨_, _, _, _, _, _⟩) (v := ?_) rfl (by decide +kernel) (fun _ _ _ h => h) (Or.inl ⟨by rfl, ?_⟩) (fun _ => hS) ?_
    rotate_left
    focus (intro w _; go_simp; (try with_reducible rfl); done)
    simp only [Act.put, List.setIfInBounds_toArray, List.set_cons_zero, List.set_cons_succ]
    refine wpAnyZ_one (i := 6) rfl (by decide +kernel) (fun K hKK => ?_)
    refine st_app8 (by rfl) (.tmp 25) (.tmp 26) (by rfl) (by rfl) (by rfl) (base := 0) HC1.out.own.drew (Own.rd HO1.out) (by omega) (Nat.zero_le _) ?_
    rintro v w2 ⟨P2, pc2, rfl, o2, g2, hP2⟩
    have hk2 : ∀ (k : Nat) (T : TypeId) (cs : Array Value), T ≠ 5 → w1.heap[k]? = some (.cells cs T (0, 0)) → w2.heap[k]? = some (.cells cs T (0, 0)) := fun k T cs hT h => (g2.block k (Array.getElem?_eq_some_iff.1 h).1 (fun e => own_ne HC1.out.own h hT e.symm)).trans h
    have hT2 : w2.heap[gx]? = some (.cells #[.pointer (some ⟨g, 0, none⟩)] 152 (0, 0)) ∧ w2.heap[gd]? = some (.cells #[.slice D dn dc] 22 (0, 0)) ∧ w2.heap[g]? = some (.cells #[.int .u8 (kind.toNat : Int), .int .i64 next, .slice P pn pc] 154 (0, 0)) := ⟨hk2 _ _ _ (by decide) HS.out.1, hk2 _ _ _ (by decide) HS.out.2.1, hk2 _ _ _ (by decide) HS.out.2.2⟩
    clear hS
    have hS := hT2
    refine hKK.out _ _ (fun _ => hS) ?_
    clear hKK
    change wpAnyZ _ _ _ _ _ _ _ _ (Act.put _ (some 27) _) _
    simp only [Act.put, List.setIfInBounds_toArray, List.set_cons_zero, List.set_cons_succ]
    refine wpAnyZ_take0 (i := 7) (oi := ⟨_, _, _, _, _, _⟩) (v := ?_) rfl (by decide +kernel) (fun _ _ _ h => h) (Or.inl ⟨by rfl, ?_⟩) (fun _ => hS) ?_
    rotate_left
    focus (intro w _; go_simp; (try with_reducible rfl); done)
    simp only [Act.put, List.setIfInBounds_toArray, List.set_cons_zero, List.set_cons_succ]
    refine wpAnyZ_take0 (i := 8) (oi := ⟨_, _, _, _, _, _⟩) (v := ?_) rfl (by decide +kernel) (fun _ _ _ h => h) (Or.inl ⟨by rfl, ?_⟩) (fun _ => hS) ?_
    rotate_left
    focus (intro w _; go_simp; (try with_reducible rfl); done)
    simp only [Act.put, List.setIfInBounds_toArray, List.set_cons_zero, List.set_cons_succ]
    have f2 := frozen_of_row w2 g 2 _ _ hT2.2.2
    refine wpAnyZ_one (i := 9) rfl (by decide +kernel) (fun K hKK => ?_)
    obtain ⟨b0, b1, b2⟩ := bld_load hT2.2.2
    go_simp
    clear b0 b1 b2
    refine hKK.out _ _ (fun hz => absurd hz (by decide +kernel)) ?_
    clear hKK
    refine wpAnyZ_done (by decide +kernel) ?_
    have h3 := heap_setCell_same w2 g 2 _ _ (.slice P2 (pn + 256) pc2) hT2.2.2
    have h3x := (heap_setCell_other w2 ⟨g, 2, none⟩ gx (.slice P2 (pn + 256) pc2) (fun e => hxg.out e)).trans hT2.1
    have ho3 : Hd (Own8 (w2.setCell ⟨g, 2, none⟩ (.slice P2 (pn + 256) pc2)) 0 P2 (pn + 256) pc2 (pgs ++ mkPage kind next.toNat data)) :=
      ⟨Own.keep o2 fun k e _ _ => heap_setCell_other w2 ⟨g, 2, none⟩ k _ (fun e' => by subst e'; exact own_ne o2 hT2.2.2 (by decide) e)⟩
    have ht3 : Hd (Tch (FB g P pc) w (w2.setCell ⟨g, 2, none⟩ (.slice P2 (pn + 256) pc2))) :=
      ⟨((Tch.of_below HB1.out).trans (Tch.of_grown (w := w1) (w' := w2) ⟨g2.os, g2.tape, g2.output, g2.size, g2.block⟩ (fun k e => .inl (.inl (.inr e))))).trans (Tch.setCell _ _ _ _ _ (.inl (.inl (.inl rfl))))⟩
    have hp3 : Hd (∀ k, ownBlk P2 pc2 = some k → ownBlk P pc = some k ∨ w.heap.size ≤ k) := ⟨fun k e => by
      rcases hP2 with ⟨e1, e2, _⟩ | e1
      · left; rw [← e1, ← e2]; exact e
      · right
        unfold ownBlk at e
        split at e
        · cases e
        · rw [e1] at e; simp at e; have := HB1.out.size; omega⟩
    generalize w2.setCell ⟨g, 2, none⟩ (.slice P2 (pn + 256) pc2) = w3 at h3 h3x ho3 ht3 ⊢
    have h3' : w3.heap[g]? = some (.cells #[.int .u8 (kind.toNat : Int), .int .i64 next, .slice P2 (pn + 256) pc2] 154 (0, 0)) := h3.trans rfl
    have h3c := Hd.mk h3'
    have x1 := one_load h3x
    obtain ⟨b0, b1, b2⟩ := bld_load h3'
    have f1 := frozen_of_row w3 g 1 _ _ h3'
    clear hS hT2 f2 hk2 hP2 g2 o2 HS h3 h3' h3x
    go_wp2_with fail
    go_ret
    refine (hr.out _ _).2 ⟨rfl, P2, pn + 256, pc2, ⟨(heap_setCell_same w3 g 1 _ _ _ h3c.out).trans rfl, ?_⟩, ht3.out.trans (Tch.setCell _ _ _ _ _ (.inl (.inl (.inl rfl)))), hp3.out⟩
    exact Own.keep ho3.out fun k e _ _ => heap_setCell_other w3 ⟨g, 1, none⟩ k _ (fun e' => by subst e'; exact own_ne ho3.out h3c.out (by decide) e)
end Go.Proofs.Ytkgdcglnkodgnaa

