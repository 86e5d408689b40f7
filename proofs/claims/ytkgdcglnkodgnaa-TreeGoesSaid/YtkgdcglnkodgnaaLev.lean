/-
  tree's builder: a level laid. No condition but sizes.
-/
import Derived.Test.YtkgdcglnkodgnaaFl
import Derived.Test.YtkgdcglnkodgnaaPairb
namespace Go.Proofs.Ytkgdcglnkodgnaa
open Go.RowKit
theorem layK_ok {kind n : UInt8} {next : Int} {c : List Kp} {r : List (List Kp)} (h : ¬ (next < 0 ∨ 16384 ≤ next)) :
    layK kind n next (c :: r) = (mkPage kind next.toNat (n :: pairsB c) ++ (layK kind n (next + 1) r).1, (headK c, next) :: (layK kind n (next + 1) r).2.1, (layK kind n (next + 1) r).2.2) := by
  rw [layK, if_neg h]
theorem layK_bad {kind n : UInt8} {next : Int} {c : List Kp} {r : List (List Kp)} (h : next < 0 ∨ 16384 ≤ next) : layK kind n next (c :: r) = ([], [], 1) := by
  rw [layK, if_pos h]
theorem chunkK_add {n : Nat} {cur : List Kp} {p : Kp} {r : List Kp} (h : ¬ (cur ≠ [] ∧ 246 < n + (pairB p).length)) : chunkK n cur (p :: r) = chunkK (n + (pairB p).length) (cur ++ [p]) r := by
  rw [chunkK, if_neg h]
theorem chunkK_new {n : Nat} {cur : List Kp} {p : Kp} {r : List Kp} (h : cur ≠ [] ∧ 246 < n + (pairB p).length) : chunkK n cur (p :: r) = cur :: chunkK (1 + (pairB p).length) [p] r := by
  rw [chunkK, if_pos h]
theorem headK_snoc {cur : List Kp} {p : Kp} (h : cur ≠ []) : headK (cur ++ [p]) = headK cur := by
  cases cur with
  | nil => exact absurd rfl h
  | cons _ _ => rfl
theorem RdK.tch {w w' : World} {A : Option Addr} {n : Nat} {l : List Kp} {F : Nat → Prop} (h : RdK w A n l) (ht : Tch F w w') (hne : 0 < n → ∀ ad, A = some ad → ¬ F ad.block) : RdK w' A n l := by
  refine ⟨h.1, fun hn => ?_⟩
  obtain ⟨ad, hA, hc⟩ := h.2 hn
  refine ⟨ad, hA, fun j u hu => (World.cell?_of_block ?_).trans (hc j u hu)⟩
  have := cell_lt (hc j u hu)
  rw [block_add] at this ⊢
  exact ht.block _ this (hne hn ad hA)
/-- What a level's call has at hand at a pair. -/
structure LevM (w0 : World) (g gx gd : Nat) (kind n : UInt8) (P0 : Option Addr) (pc0 : Nat) (A : Option Addr) (m : Nat) (l : List Kp) (w : World) (next : Int) (P : Option Addr) (pn pc : Nat) (pgs : List UInt8)
    (D : Option Addr) (dn dc : Nat) (cur : List Kp) (N : Option Addr) (nn nc : Nat) (nd : List Kp) : Prop where
  xg : w0.heap.size ≤ gx
  dg : w0.heap.size ≤ gd
  hx : w.heap[gx]? = some (.cells #[.pointer (some ⟨g, 0, none⟩)] 152 (0, 0))
  hd : w.heap[gd]? = some (.cells #[.slice D dn dc] 22 (0, 0))
  b : BldC w g kind next P pn pc pgs
  d : Own8 w w0.heap.size D dn dc (n :: pairsB cur)
  dp : ∀ k, ownBlk D dc = some k → ownBlk P pc ≠ some k
  n : OwnK w w0.heap.size N nn nc nd
  l : RdK w A m l
  t : Tch (FB g P0 pc0) w0 w
  p : ∀ k, ownBlk P pc = some k → ownBlk P0 pc0 = some k ∨ w0.heap.size ≤ k
section
variable {w0 w w' : World} {g gx gd : Nat} {kind n : UInt8} {P0 : Option Addr} {pc0 : Nat} {A : Option Addr} {m : Nat} {l : List Kp} {next : Int} {P : Option Addr} {pn pc : Nat} {pgs : List UInt8}
  {D : Option Addr} {dn dc : Nat} {cur : List Kp} {N : Option Addr} {nn nc : Nat} {nd : List Kp}
theorem LevM.below (h : LevM w0 g gx gd kind n P0 pc0 A m l w next P pn pc pgs D dn dc cur N nn nc nd) (hb : Below w.heap.size w w') : LevM w0 g gx gd kind n P0 pc0 A m l w' next P pn pc pgs D dn dc cur N nn nc nd :=
  ⟨h.xg, h.dg, (hb.block gx (Array.getElem?_eq_some_iff.1 h.hx).1).trans h.hx, (hb.block gd (Array.getElem?_eq_some_iff.1 h.hd).1).trans h.hd, h.b.below hb, Own.below h.d hb, h.dp, Own.below h.n hb, Rd.below h.l hb, h.t.trans (Tch.of_below hb), h.p⟩
/-- A page was laid. -/
theorem LevM.flush (h : LevM w0 g gx gd kind n P0 pc0 A m l w next P pn pc pgs D dn dc cur N nn nc nd) (hA : 0 < m → ∀ ad, A = some ad → ¬ FB g P0 pc0 ad.block ∧ ad.block < w0.heap.size)
    {next' : Int} {P' : Option Addr} {pn' pc' : Nat} {pgs' : List UInt8} (hb : BldC w' g kind next' P' pn' pc' pgs') (ht : Tch (FB g P pc) w w') (hp : ∀ k, ownBlk P' pc' = some k → ownBlk P pc = some k ∨ w.heap.size ≤ k) :
    LevM w0 g gx gd kind n P0 pc0 A m l w' next' P' pn' pc' pgs' D dn dc cur N nn nc nd := by
  refine ⟨h.xg, h.dg, (ht.block gx (Array.getElem?_eq_some_iff.1 h.hx).1 (h.b.notFB h.hx (by decide) (by decide))).trans h.hx, (ht.block gd (Array.getElem?_eq_some_iff.1 h.hd).1 (h.b.notFB h.hd (by decide) (by decide))).trans h.hd, hb,
    Own.keep h.d fun k e _ hk => ht.block k hk ?_, fun k e e' => ?_, Own.keep h.n fun k e _ hk => ht.block k hk ?_, RdK.tch h.l ht fun hm0 ad had hF => ?_, h.t.trans (ht.mono fun k hk hF => ?_), fun k e => ?_⟩
  · rintro (rfl | e')
    · exact own_ne h.d h.b.heap (by decide) e
    · exact h.dp k e e'
  · rcases hp k e' with h1 | h1
    · exact h.dp k e h1
    · have := (Own.lt h.d e).2; omega
  · obtain ⟨cs, hcs⟩ := own_type h.n e
    exact h.b.notFB hcs (by decide) (by decide)
  · obtain ⟨h1, h2⟩ := hA hm0 ad had
    rcases hF with e | e
    · exact h1 (.inl e)
    · rcases h.p _ e with e | e
      · exact h1 (.inr e)
      · omega
  · rcases hF with e | e
    · exact .inl (.inl e)
    · rcases h.p k e with e | e
      · exact .inl (.inr e)
      · exact .inr ⟨e, hk⟩
  · rcases hp k e with h1 | h1
    · exact h.p k h1
    · have := h.t.size; right; omega
/-- The data grown. -/
theorem LevM.data (h : LevM w0 g gx gd kind n P0 pc0 A m l w next P pn pc pgs D dn dc cur N nn nc nd) (hA : 0 < m → ∀ ad, A = some ad → ¬ FB g P0 pc0 ad.block ∧ ad.block < w0.heap.size) {b : List UInt8} {v : Value} {p : Kp} (hb : b = pairB p)
    {k : Nat} (ha : App8 w w0.heap.size D dc (dn + k) ((n :: pairsB cur) ++ b) v w') :
    ∃ D' dc', v = .slice D' (dn + k) dc' ∧ w'.heap[gd]? = some (.cells #[.slice D dn dc] 22 (0, 0)) ∧ LevM w0 g gx gd kind n P0 pc0 A m l (w'.setCell ⟨gd, 0, none⟩ v) next P pn pc pgs D' (dn + k) dc' (cur ++ [p]) N nn nc nd := by
  obtain ⟨D', dc', rfl, o, g2, hcase⟩ := ha
  have hgd : w'.heap[gd]? = some (.cells #[.slice D dn dc] 22 (0, 0)) := (g2.block gd (Array.getElem?_eq_some_iff.1 h.hd).1 (fun e => own_ne h.d h.hd (by decide) e.symm)).trans h.hd
  have hdg : gd ≠ gx := fun e => by have h1 := h.hd; rw [e, h.hx] at h1; injection h1 with h1; injection h1 with _ h1; cases h1
  have hdg' : gd ≠ g := fun e => by have h1 := h.hd; rw [e, h.b.heap] at h1; injection h1 with h1; injection h1 with _ h1; cases h1
  have hset : ∀ k, k ≠ gd → (w'.setCell ⟨gd, 0, none⟩ (.slice D' (dn + k) dc')).heap[k]? = w'.heap[k]? := fun k hk => heap_setCell_other w' ⟨gd, 0, none⟩ k _ hk
  have hk1 : ∀ q, q < w.heap.size → ownBlk D dc ≠ some q → q ≠ gd → (w'.setCell ⟨gd, 0, none⟩ (.slice D' (dn + k) dc')).heap[q]? = w.heap[q]? := fun q hq h1 h2 => (heap_setCell_other w' ⟨gd, 0, none⟩ q _ h2).trans (g2.block q hq (fun e => h1 e.symm))
  have ho' : Own8 (w'.setCell ⟨gd, 0, none⟩ (.slice D' (dn + k) dc')) w0.heap.size D' (dn + k) dc' (n :: pairsB (cur ++ [p])) := by
    rw [pairsB_append, pairsB_one, ← hb]
    exact Own.keep o fun q e _ _ => heap_setCell_other w' ⟨gd, 0, none⟩ q _ (fun e' => by subst e'; exact own_ne o hgd (by decide) e)
  have hgrow : Tch (fun q => q = gd ∨ ownBlk D dc = some q) w (w'.setCell ⟨gd, 0, none⟩ (.slice D' (dn + k) dc')) :=
    (Tch.of_grown g2 (fun q e => .inl (.inr e))).trans (Tch.setCell _ _ _ _ _ (.inl (.inl (.inl rfl))))
  refine ⟨D', dc', rfl, hgd, ⟨h.xg, h.dg, (hk1 gx (Array.getElem?_eq_some_iff.1 h.hx).1 (own_ne h.d h.hx (by decide)) (fun e => hdg e.symm)).trans h.hx, (heap_setCell_same w' gd 0 _ _ _ hgd).trans rfl,
    ⟨(hk1 g (h.b.ltF (.inl rfl)) (own_ne h.d h.b.heap (by decide)) (fun e => hdg' e.symm)).trans h.b.heap, Own.keep h.b.own fun q e _ hq => hk1 q hq (fun e' => h.dp q e' e) (fun e' => by subst e'; exact own_ne h.b.own h.hd (by decide) e)⟩,
    ho', fun q e e' => ?_, Own.keep h.n fun q e _ hq => ?_, ?_, ?_, h.p⟩⟩
  · have h1 := (Own.lt h.b.own e').2
    rcases hcase with ⟨e1, e2, _⟩ | e1
    · exact h.dp q (by rw [← e1, ← e2]; exact e) e'
    · unfold ownBlk at e
      split at e
      · cases e
      · rw [e1] at e; simp at e; omega
  · obtain ⟨cs, hcs⟩ := own_type h.n e
    refine hk1 q hq (fun e' => own_ne h.d hcs (by decide) e') (fun e' => ?_)
    subst e'
    rw [h.hd] at hcs; injection hcs with h1; injection h1 with _ h1; cases h1
  · refine RdK.tch h.l hgrow fun hm0 ad had hF => ?_
    obtain ⟨_, h2⟩ := hA hm0 ad had
    rcases hF with e | e
    · have := h.dg; omega
    · have := (Own.lt h.d e).1; omega
  · refine h.t.trans (hgrow.mono fun q hq hF => .inr ⟨?_, hq⟩)
    rcases hF with e | e
    · rw [e]; exact h.dg
    · exact (Own.lt h.d e).1
/-- A node told. -/
theorem LevM.node (h : LevM w0 g gx gd kind n P0 pc0 A m l w next P pn pc pgs D dn dc cur N nn nc nd) (hA : 0 < m → ∀ ad, A = some ad → ¬ FB g P0 pc0 ad.block ∧ ad.block < w0.heap.size) {p : Kp} {v : Value}
    (ha : AppK w w0.heap.size N nc (nn + 1) (nd ++ [p]) v w') :
    ∃ N' nc', v = .slice N' (nn + 1) nc' ∧ LevM w0 g gx gd kind n P0 pc0 A m l w' next P pn pc pgs D dn dc cur N' (nn + 1) nc' (nd ++ [p]) := by
  obtain ⟨N', nc', rfl, o, g2, hcase⟩ := ha
  have hk1 : ∀ q, q < w.heap.size → ownBlk N nc ≠ some q → w'.heap[q]? = w.heap[q]? := fun q hq h1 => g2.block q hq (fun e => h1 e.symm)
  have hne : ∀ {q base size a c T : Nat} {B : Option Addr} {xs : List Value}, T ≠ 113 → Own w base T size B a c xs → ownBlk B c = some q → ownBlk N nc ≠ some q := fun hT ho e e' => by
    obtain ⟨cs, hcs⟩ := own_type ho e
    exact own_ne h.n hcs hT e'
  refine ⟨N', nc', rfl, h.xg, h.dg, (hk1 gx (Array.getElem?_eq_some_iff.1 h.hx).1 (own_ne h.n h.hx (by decide))).trans h.hx, (hk1 gd (Array.getElem?_eq_some_iff.1 h.hd).1 (own_ne h.n h.hd (by decide))).trans h.hd,
    ⟨(hk1 g (h.b.ltF (.inl rfl)) (own_ne h.n h.b.heap (by decide))).trans h.b.heap, Own.keep h.b.own fun q e _ hq => hk1 q hq (hne (by decide) h.b.own e)⟩, Own.keep h.d fun q e _ hq => hk1 q hq (hne (by decide) h.d e), h.dp, o, ?_, ?_, h.p⟩
  · refine RdK.tch h.l (Tch.of_grown (F := fun q => ownBlk N nc = some q) g2 (fun q e => .inl e)) fun hm0 ad had hF => ?_
    obtain ⟨_, h2⟩ := hA hm0 ad had
    have := (Own.lt h.n hF).1; omega
  · exact h.t.trans (Tch.of_grown g2 (fun q e => .inl (.inr ⟨(Own.lt h.n e).1, (Own.lt h.n e).2⟩)))
/-- New data. -/
theorem LevM.reset (h : LevM w0 g gx gd kind n P0 pc0 A m l w next P pn pc pgs D dn dc cur N nn nc nd) (hA : 0 < m → ∀ ad, A = some ad → ¬ FB g P0 pc0 ad.block ∧ ad.block < w0.heap.size) :
    LevM w0 g gx gd kind n P0 pc0 A m l ((w.alloc (.cells #[.int .u8 (n.toNat : Int)] 5)).setCell ⟨gd, 0, none⟩ (.slice (some ⟨w.heap.size, 0, none⟩) 1 1)) next P pn pc pgs (some ⟨w.heap.size, 0, none⟩) 1 1 [] N nn nc nd := by
  have hlt := (Array.getElem?_eq_some_iff.1 h.hd).1
  have hsz := h.t.size
  have ho := Own8.new w [n] (cell1 n) (m := 1) (base := w0.heap.size) rfl hsz (by unfold maxLen; omega)
  have h1 := h.below (w' := w.alloc (.cells #[.int .u8 (n.toNat : Int)] 5)) ((Below.refl _ _).alloc (Nat.le_refl _) _)
  generalize hw1 : w.alloc (.cells #[.int .u8 (n.toNat : Int)] 5) = w1 at ho h1 ⊢
  have hs1 : w1.heap.size = w.heap.size + 1 := by rw [← hw1]; simp
  have hdg : gd ≠ gx := fun e => by have h2 := h.hd; rw [e, h.hx] at h2; injection h2 with h2; injection h2 with _ h2; cases h2
  have hdg' : gd ≠ g := fun e => by have h2 := h.hd; rw [e, h.b.heap] at h2; injection h2 with h2; injection h2 with _ h2; cases h2
  have hset : ∀ q, q ≠ gd → (w1.setCell ⟨gd, 0, none⟩ (.slice (some ⟨w.heap.size, 0, none⟩) 1 1)).heap[q]? = w1.heap[q]? := fun q hq => heap_setCell_other w1 ⟨gd, 0, none⟩ q _ hq
  have hgrow : Tch (fun q => q = gd) w1 (w1.setCell ⟨gd, 0, none⟩ (.slice (some ⟨w.heap.size, 0, none⟩) 1 1)) := Tch.setCell _ _ _ _ _ (.inl rfl)
  refine ⟨h.xg, h.dg, (hset gx (fun e => hdg e.symm)).trans h1.hx, (heap_setCell_same w1 gd 0 _ _ _ h1.hd).trans rfl,
    ⟨(hset g (fun e => hdg' e.symm)).trans h1.b.heap, Own.keep h1.b.own fun q e _ hq => hset q (fun e' => by subst e'; exact own_ne h1.b.own h1.hd (by decide) e)⟩,
    Own.keep ho fun q e _ hq => hset q (fun e' => by subst e'; exact own_ne ho h1.hd (by decide) e), fun q e e' => ?_, Own.keep h1.n fun q e _ hq => hset q (fun e' => by subst e'; exact own_ne h1.n h1.hd (by decide) e), ?_, ?_, h.p⟩
  · have h2 := (Own.lt h.b.own e').2
    simp [ownBlk] at e
    omega
  · refine RdK.tch h1.l hgrow fun hm0 ad had hF => ?_
    obtain ⟨_, h2⟩ := hA hm0 ad had
    have := h.dg; omega
  · exact h1.t.trans (hgrow.mono fun q hq hF => .inr ⟨by rw [hF]; exact h.dg, hq⟩)
end
end Go.Proofs.Ytkgdcglnkodgnaa
