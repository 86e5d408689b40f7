/-
  tree's builder: level walked. No condition but sizes.
-/
import Derived.Test.YtkgdcglnkodgnaaLev
namespace Go.Proofs.Ytkgdcglnkodgnaa
open Go.RowKit
theorem lev_start {w : World} {g : Nat} {kind n : UInt8} {next : Int} {P0 : Option Addr} {pn0 pc0 : Nat} {pgs : List UInt8} {A : Option Addr} {m : Nat} {l : List Kp} (hb : BldC w g kind next P0 pn0 pc0 pgs) (hl : RdK w A m l) :
    LevM w g w.heap.size (w.heap.size + 1 + 1) kind n P0 pc0 A m l (((w.alloc (.cells #[.pointer (some ⟨g, 0, none⟩)] 152)).alloc (.cells #[.int .u8 (n.toNat : Int)] 5)).alloc (.cells #[.slice (some ⟨w.heap.size + 1, 0, none⟩) 1 1] 22)) next P0 pn0 pc0 pgs
      (some ⟨w.heap.size + 1, 0, none⟩) 1 1 [] none 0 0 [] := by
  obtain ⟨w1, hw1⟩ : ∃ w1, w.alloc (.cells #[.pointer (some ⟨g, 0, none⟩)] 152) = w1 := ⟨_, rfl⟩
  have s1 : w1.heap.size = w.heap.size + 1 := by rw [← hw1]; simp
  have b1 : Below w.heap.size w w1 := by rw [← hw1]; exact (Below.refl _ _).alloc (Nat.le_refl _) _
  have x1 : w1.heap[w.heap.size]? = some (.cells #[.pointer (some ⟨g, 0, none⟩)] 152 (0, 0)) := by rw [← hw1]; exact heap_alloc_new w _
  rw [hw1]
  obtain ⟨w2, hw2⟩ : ∃ w2, w1.alloc (.cells #[.int .u8 (n.toNat : Int)] 5) = w2 := ⟨_, rfl⟩
  have s2 : w2.heap.size = w.heap.size + 2 := by rw [← hw2]; simp; omega
  have b2 : Below w1.heap.size w1 w2 := by rw [← hw2]; exact (Below.refl _ _).alloc (Nat.le_refl _) _
  have o2 := Own8.new w1 [n] (cell1 n) (m := 1) (base := w.heap.size) rfl (by omega) (by unfold maxLen; omega)
  rw [hw2, s1] at o2
  rw [hw2]
  have b3 : Below w2.heap.size w2 (w2.alloc (.cells #[.slice (some ⟨w.heap.size + 1, 0, none⟩) 1 1] 22)) := (Below.refl _ _).alloc (Nat.le_refl _) _
  have x3 := heap_alloc_new w2 (.cells #[.slice (some ⟨w.heap.size + 1, 0, none⟩) 1 1] 22)
  rw [s2] at x3
  generalize w2.alloc (.cells #[.slice (some ⟨w.heap.size + 1, 0, none⟩) 1 1] 22) = w3 at b3 x3 ⊢
  have b13 : Below w1.heap.size w1 w3 := b2.trans (b3.mono (by omega))
  have b03 : Below w.heap.size w w3 := b1.trans (b13.mono (by omega))
  refine ⟨Nat.le_refl _, by omega, (b13.block _ (by omega)).trans x1, x3, hb.below b03, Own.below o2 b3, fun k e e' => ?_, OwnK.nil_ _ _ _, Rd.below hl b03, Tch.of_below b03, fun k e => .inl e⟩
  have := (Own.lt hb.own e').2
  simp [ownBlk] at e
  omega
/-- What a level answers. -/
def RetLev (w : World) (g : Nat) (kind n : UInt8) (next : Int) (P0 : Option Addr) (pc0 : Nat) (pgs : List UInt8) (l : List Kp) (e : Ending) (w' : World) : Prop :=
  if (layK kind n next (chunks l)).2.2 ≠ 0 then e = .returned (.tuple #[.slice none 0 0, .int .i64 ((layK kind n next (chunks l)).2.2 : Int)]) ∧ Tch (FB g P0 pc0) w w'
  else ∃ N nn nc P' pn' pc', e = .returned (.tuple #[.slice N nn nc, .int .i64 0]) ∧ OwnK w' w.heap.size N nn nc (if l = [] then [] else (layK kind n next (chunks l)).2.1) ∧
    BldC w' g kind (next + (chunks l).length) P' pn' pc' (pgs ++ (layK kind n next (chunks l)).1) ∧ Tch (FB g P0 pc0) w w' ∧ ∀ k, ownBlk P' pc' = some k → ownBlk P0 pc0 = some k ∨ w.heap.size ≤ k
/-- What was laid, what is left. -/
def LevI (kind n : UInt8) (next0 : Int) (l : List Kp) (next : Int) (pg : List UInt8) (nd cur r : List Kp) : Prop :=
  layK kind n next0 (chunks l) = (pg ++ (layK kind n next (chunkK (1 + (pairsB cur).length) cur r)).1, nd ++ (layK kind n next (chunkK (1 + (pairsB cur).length) cur r)).2.1, (layK kind n next (chunkK (1 + (pairsB cur).length) cur r)).2.2) ∧
    next0 + (chunks l).length = next + (chunkK (1 + (pairsB cur).length) cur r).length
section
variable {kind n : UInt8} {next0 : Int} {l : List Kp} {next : Int} {pg : List UInt8} {nd cur r : List Kp} {p : Kp}
theorem LevI.start (kind n : UInt8) (next0 : Int) (l : List Kp) : LevI kind n next0 l next0 [] [] [] l := by
  unfold LevI chunks
  simp [pairsB]
theorem LevI.add (h : LevI kind n next0 l next pg nd cur (p :: r)) (hc : ¬ (cur ≠ [] ∧ 246 < 1 + (pairsB cur).length + (pairB p).length)) : LevI kind n next0 l next pg nd (cur ++ [p]) r := by
  unfold LevI at h ⊢
  rw [chunkK_add hc] at h
  rw [pairsB_append, pairsB_one, List.length_append, ← Nat.add_assoc]
  exact h
theorem LevI.new (h : LevI kind n next0 l next pg nd cur (p :: r)) (hc : cur ≠ [] ∧ 246 < 1 + (pairsB cur).length + (pairB p).length) (hn : ¬ (next < 0 ∨ 16384 ≤ next)) :
    LevI kind n next0 l (next + 1) (pg ++ mkPage kind next.toNat (n :: pairsB cur)) (nd ++ [(headK cur, next)]) [p] r := by
  unfold LevI at h ⊢
  rw [chunkK_new hc, layK_ok hn] at h
  rw [pairsB_one]
  obtain ⟨h1, h2⟩ := h
  refine ⟨by rw [h1]; simp, ?_⟩
  rw [h2, List.length_cons]
  omega
theorem LevI.newBad (h : LevI kind n next0 l next pg nd cur (p :: r)) (hc : cur ≠ [] ∧ 246 < 1 + (pairsB cur).length + (pairB p).length) (hn : next < 0 ∨ 16384 ≤ next) : (layK kind n next0 (chunks l)).2.2 = 1 := by
  unfold LevI at h
  rw [chunkK_new hc, layK_bad hn] at h
  rw [h.1]
theorem LevI.endBad (h : LevI kind n next0 l next pg nd cur []) (hn : next < 0 ∨ 16384 ≤ next) : (layK kind n next0 (chunks l)).2.2 = 1 := by
  unfold LevI at h
  rw [chunkK, layK_bad hn] at h
  rw [h.1]
theorem LevI.end_ (h : LevI kind n next0 l next pg nd cur []) (hn : ¬ (next < 0 ∨ 16384 ≤ next)) :
    layK kind n next0 (chunks l) = (pg ++ mkPage kind next.toNat (n :: pairsB cur), nd ++ [(headK cur, next)], 0) ∧ next0 + (chunks l).length = next + 1 := by
  unfold LevI at h
  rw [chunkK, layK_ok hn] at h
  obtain ⟨h1, h2⟩ := h
  refine ⟨by rw [h1]; simp [layK], by simpa using h2⟩
end
set_option maxRecDepth 100000 in
set_option maxHeartbeats 4000000 in
theorem level109 (g : Nat) (kind n : UInt8) (next0 : Int) (P0 : Option Addr) (pn0 pc0 : Nat) (pgs : List UInt8) (A : Option Addr) (m c : Nat) (l : List Kp) (w : World) (hb : BldC w g kind next0 P0 pn0 pc0 pgs) (hl : RdK w A m l) (hm : m ≤ 20000)
    (hA : 0 < m → ∀ ad, A = some ad → ¬ FB g P0 pc0 ad.block ∧ ad.block < w.heap.size) (hok : ∀ p ∈ l, p.1.size ≤ 64 ∧ 0 ≤ p.2 ∧ p.2 ≤ 2147483647) (hlo : -9223372036854775808 ≤ next0) (hhi : next0 ≤ 9223372036854775807)
    (hpg : pgs = [] ∨ 0 ≤ next0 ∧ next0 ≤ 16384 ∧ (pgs.length : Int) ≤ 256 * next0) :
    Calls Try.prog 109 #[.pointer (some ⟨g, 0, none⟩), .int .u8 (n.toNat : Int), .slice A m c] w (RetLev w g kind n next0 P0 pc0 pgs l) := by
  have hmix := try_mixed
  have hmf : ∀ (fn : Fn) (first cap : Array Value) (w : World), (Instr.makeFunc fn first cap).run Try.prog w = .ok (.func fn first cap) w := fun _ _ _ _ => rfl
  have HL0 := Hd.mk (lev_start (n := n) hb hl)
  have hll := Hd.mk hl.len
  have hok' := Hd.mk hok
  have hA' := Hd.mk hA
  clear hb hl hok hA
  go_enter Try.func109, Try.ntmps109
  go_wp2_with fail
  obtain ⟨W0, hW0⟩ : ∃ W0, Hd ((((w.alloc (.cells #[.pointer (some ⟨g, 0, none⟩)] 152)).alloc (.cells #[.int .u8 (n.toNat : Int)] 5)).alloc (.cells #[.slice (some ⟨w.heap.size + 1, 0, none⟩) 1 1] 22)) = W0) := ⟨_, ⟨rfl⟩⟩
  rw [hW0.out] at HL0 ⊢
  go_loopw [21, 9, 11, 12, 13, 14] (fun iv nv _ _ _ _ wr => ∃ (i : Nat) (next : Int) (P : Option Addr) (pn pc : Nat) (pg : List UInt8) (D : Option Addr) (dn dc : Nat) (cur : List Kp) (N : Option Addr) (nn nc : Nat) (nd nl : List Kp),
      iv = .int .i64 (i : Int) ∧ nv = .slice N nn nc ∧ i ≤ m ∧ Hd (LevM w g w.heap.size (w.heap.size + 1 + 1) kind n P0 pc0 A m l wr next P pn pc (pgs ++ pg) D dn dc cur N nn nc nl) ∧ Hd (nl = nd ++ if cur = [] then [] else [(headK cur, next)]) ∧
      Hd (LevI kind n next0 l next pg nd cur (l.drop i)) ∧ Hd (i = 0 ↔ cur = []) ∧ -9223372036854775808 ≤ next ∧ next ≤ 9223372036854775807 ∧ Hd (pgs ++ pg = [] ∨ 0 ≤ next ∧ next ≤ 16384 ∧ ((pgs ++ pg).length : Int) ≤ 256 * next) ∧ dn ≤ 246 ∧ nn ≤ i)
    (fun iv _ _ _ _ _ _ => m - (intOf iv).toNat)
  case atStart => exact ⟨0, next0, P0, pn0, pc0, [], _, 1, 1, [], none, 0, 0, [], [], rfl, rfl, by omega, by simpa using HL0, ⟨rfl⟩, ⟨by simpa using LevI.start kind n next0 l⟩, ⟨by simp⟩, hlo, hhi, ⟨by simpa using hpg⟩, by omega, by omega⟩
  case round =>
    obtain ⟨i, next, P, pn, pc, pg, D, dn, dc, cur, N, nn, nc, nd, nl, rfl, rfl, hi, HL, HNL, HI, hi0, hlo', hhi', hpg', hdn, hnn⟩ := hrel
    clear HL0 hW0 hpg hlo hhi
    have HSZ := Hd.mk HL.out.t.size
    have hdl := Hd.mk HL.out.d.len
    have hpl := Hd.mk HL.out.b.own.len
    have hplen : Hd (pn ≤ 4194304) := ⟨by
      have h1 := hpl.out
      rcases hpg'.out with h2 | ⟨h2, h3, h4⟩
      · rw [h2] at h1; simp at h1; omega
      · omega⟩
    have hdata : Hd ((n :: pairsB cur).length ≤ 246) := ⟨by have := hdl.out; omega⟩
    by_cases hlt : i < m
    · obtain ⟨p, hp⟩ : ∃ p, Hd (l[i]? = some p) := ⟨l[i]'(by have := hll.out; omega), ⟨List.getElem?_eq_getElem _⟩⟩
      have hd : Hd (l.drop i = p :: l.drop (i + 1)) := ⟨by
        obtain ⟨hk, e⟩ := List.getElem?_eq_some_iff.1 hp.out
        rw [← e]; exact List.drop_eq_getElem_cons hk⟩
      have HI1 := Hd.mk HI.out
      rw [hd.out] at HI1
      obtain ⟨ad, rfl, q0, q1⟩ := RdK.get HL.out.l hp.out
      have hpo := Hd.mk (hok'.out p (List.mem_of_getElem? hp.out))
      have HPB := Hd.mk (pairBytes150 p (wr.alloc (.cells #[.string p.1, .int .i64 p.2] 113)) (by have := hpo.out.1; omega) hpo.out.2.1 (by have := hpo.out.2.2; omega))
      have hbl := Hd.mk (pairB_len p hpo.out)
      have hlti : (i : Int) < (m : Int) := by omega
      have hi00 : (0 : Int) ≤ (i : Int) := by omega
      have W1B := Hd.mk (show Below wr.heap.size wr (wr.alloc (.cells #[.string p.1, .int .i64 p.2] 113)) from (Below.refl _ _).alloc (Nat.le_refl _) _)
      have GP1 := Hd.mk (heap_alloc_new wr (.cells #[.string p.1, .int .i64 p.2] 113))
      have hFP : Hd (∀ k, ownBlk P pc = some k → k < wr.heap.size) := ⟨fun k e => (Own.lt HL.out.b.own e).2⟩
      have hNg : Hd (ownBlk N nc ≠ some wr.heap.size) := ⟨fun e => by have := (Own.lt HL.out.n e).2; omega⟩
      obtain ⟨bl, hbl'⟩ : ∃ bl, Hd ((pairB p).length = bl) := ⟨_, ⟨rfl⟩⟩
      rw [hbl'.out] at hbl
      have hb1 := hbl.out.1
      have hb2 := hbl.out.2
      have wr1 : wrap64 ((dn : Int) + (bl : Int)) = (dn : Int) + (bl : Int) := by unfold wrap64; omega
      have wr2 : IntKind.i64.wrap ((dn : Int) + (bl : Int)) = (dn : Int) + (bl : Int) := by rw [IntKind.wrap_i64]; omega
      clear HI hd hbl
      by_cases hc0 : i = 0
      · have hcur : cur = [] := hi0.out.1 hc0
        subst hc0; subst hcur
        obtain rfl : dn = 1 := by have := hdl.out; simpa [pairsB] using this.symm
        obtain rfl : nl = nd := by rw [HNL.out]; simp
        have e1 : ¬ (((0 : Nat) : Int) > 0) := by omega
        have q0' : wr.cell? ad = some (.string p.1) := by simpa [Addr.add] using q0
        have q1' : wr.cell? ⟨ad.block, ad.off + 1, none⟩ = some (.int .i64 p.2) := by simpa [Addr.add] using q1
        have HI2 := Hd.mk (HI1.out.add (by simp))
        clear HI1
        go_wp2_with (go_at_call 150; refine HPB.out.mono ?_; rintro e w2 ⟨A2, n2, c2, rfl, o2, b2⟩; obtain rfl : n2 = bl := (by rw [← hbl'.out]; exact o2.len.symm); have HL2 := Hd.mk (HL.out.below (W1B.out.trans (b2.mono (by simp)))); have GP2 := Hd.mk ((b2.block wr.heap.size (by simp)).trans GP1.out); have x2 := one_load HL2.out.hd; have HO2 := Hd.mk o2; have HB2 := Hd.mk b2; have HF2 := Hd.mk (flush149 w.heap.size (w.heap.size + 1 + 1) g kind next P pn pc _ _ D _ dc w2 HL2.out.b HL2.out.hx HL2.out.hd (Own.rd HL2.out.d) hdata.out hplen.out); clear o2 b2 HL GP1 W1B)
        refine region_zone 11 [false, false, false, false, false, false, false, false, false, false, false] (by kernel_rfl) (by kernel_rfl) hmix (fun w' => w'.heap[wr.heap.size]? = some (.cells #[.string p.1, .int .i64 p.2] 113 (0, 0)) ∧ w'.heap[w.heap.size]? = some (.cells #[.pointer (some ⟨g, 0, none⟩)] 152 (0, 0)) ∧ w'.heap[g]? = some (.cells #[.int .u8 (kind.toNat : Int), .int .i64 next, .slice P pn pc] 154 (0, 0))) [] ?_ (fun hS => ?_)
        · exact ⟨GP2.out, HL2.out.hx, HL2.out.b.heap⟩
        refine wpAnyZ_take0 (i := 0) (oi := ⟨_, _, _, _, _, _⟩) (v := ?_) rfl (by decide +kernel) (fun _ _ _ h => h) (Or.inl ⟨by rfl, ?_⟩) (fun _ => hS) ?_
        rotate_left
        focus (intro w _; go_simp; (try with_reducible rfl); done)
        simp only [Act.put, List.setIfInBounds_toArray, List.set_cons_zero, List.set_cons_succ]
        refine wpAnyZ_take0 (i := 1) (oi := ⟨_, _, _, _, _, _⟩) (v := ?_) rfl (by decide +kernel) (fun _ _ _ h => h) (Or.inl ⟨by rfl, ?_⟩) (fun _ => hS) ?_
        rotate_left
        focus (intro w _; go_simp; (try with_reducible rfl); done)
        simp only [Act.put, List.setIfInBounds_toArray, List.set_cons_zero, List.set_cons_succ]
        refine wpAnyZ_take (i := 2) (oi := ⟨_, _, _, _, _, _⟩) (v := ?_) rfl (by decide +kernel) (fun _ _ _ h => h) (Or.inl ⟨by rfl, ?_⟩) hS ?_
        rotate_left
        focus (intro w hSw; (try dsimp only at hSw); (obtain ⟨y1, y2, y3⟩ := hSw; obtain ⟨k0, k1⟩ := box_loadK y1; have k2 := one_load y2; obtain ⟨z0, z1, z2⟩ := bld_load y3; clear y1 y2 y3); go_simp; (try with_reducible rfl); done)
        simp only [Act.put, List.setIfInBounds_toArray, List.set_cons_zero, List.set_cons_succ]
        refine wpAnyZ_take (i := 3) (oi := ⟨_, _, _, _, _, _⟩) (v := ?_) rfl (by decide +kernel) (fun _ _ _ h => h) (Or.inl ⟨by rfl, ?_⟩) hS ?_
        rotate_left
        focus (intro w hSw; (try dsimp only at hSw); (obtain ⟨y1, y2, y3⟩ := hSw; obtain ⟨k0, k1⟩ := box_loadK y1; have k2 := one_load y2; obtain ⟨z0, z1, z2⟩ := bld_load y3; clear y1 y2 y3); go_simp; (try with_reducible rfl); done)
        simp only [Act.put, List.setIfInBounds_toArray, List.set_cons_zero, List.set_cons_succ]
        refine wpAnyZ_take0 (i := 4) (oi := ⟨_, _, _, _, _, _⟩) (v := ?_) rfl (by decide +kernel) (fun _ _ _ h => h) (Or.inl ⟨by rfl, ?_⟩) (fun _ => hS) ?_
        rotate_left
        focus (intro w _; go_simp; (try with_reducible rfl); done)
        simp only [Act.put, List.setIfInBounds_toArray, List.set_cons_zero, List.set_cons_succ]
        refine wpAnyZ_take0 (i := 5) (oi := ⟨_, _, _, _, _, _⟩) (v := ?_) rfl (by decide +kernel) (fun _ _ _ h => h) (Or.inl ⟨by rfl, ?_⟩) (fun _ => hS) ?_
        rotate_left
        focus (intro w _; go_simp; (try with_reducible rfl); done)
        simp only [Act.put, List.setIfInBounds_toArray, List.set_cons_zero, List.set_cons_succ]
        refine wpAnyZ_take (i := 6) (oi := ⟨_, _, _, _, _, _⟩) (v := ?_) rfl (by decide +kernel) (fun _ _ _ h => h) (Or.inl ⟨by rfl, ?_⟩) hS ?_
        rotate_left
        focus (intro w hSw; (try dsimp only at hSw); (obtain ⟨y1, y2, y3⟩ := hSw; obtain ⟨k0, k1⟩ := box_loadK y1; have k2 := one_load y2; obtain ⟨z0, z1, z2⟩ := bld_load y3; clear y1 y2 y3); go_simp; (try with_reducible rfl); done)
        simp only [Act.put, List.setIfInBounds_toArray, List.set_cons_zero, List.set_cons_succ]
        refine wpAnyZ_take0 (i := 7) (oi := ⟨_, _, _, _, _, _⟩) (v := ?_) rfl (by decide +kernel) (fun _ _ _ h => h) (Or.inl ⟨by rfl, ?_⟩) (fun _ => hS) ?_
        rotate_left
        focus (intro w _; go_simp; (try with_reducible rfl); done)
        simp only [Act.put, List.setIfInBounds_toArray, List.set_cons_zero, List.set_cons_succ]
        refine wpAnyZ_one (i := 8) rfl (by decide +kernel) (fun K hKK => ?_)
        go_simp
        have ha1 : Below w2.heap.size w2 (w2.drew.alloc (.cells #[.string p.1, .int .i64 (next)] 113)) := (below_drew w2).trans (below_alloc w2.drew _)
        have HL3 := Hd.mk (HL2.out.below ha1)
        have hT : _ ∧ _ ∧ _ := ⟨(ha1.block wr.heap.size (Array.getElem?_eq_some_iff.1 GP2.out).1).trans GP2.out, HL3.out.hx, HL3.out.b.heap⟩
        clear hS
        have hS := hT
        refine hKK.out _ _ (fun _ => hS) ?_
        clear hKK
        refine wpAnyZ_one (i := 9) rfl (by decide +kernel) (fun K hKK => ?_)
        refine st_appK (by rfl) (.tmp 48) (.tmp 56) (by rfl) (by rfl) (by rfl) (m := 1) HL3.out.n (RdK.newAt w2.drew [(p.1, next)] rfl rfl rfl) (by omega) HL3.out.t.size ?_
        intro v w4 ha
        have hg4 : World.grownBy _ w4 (ownBlk N nc) := (by obtain ⟨_, _, _, _, h, _⟩ := ha; exact h)
        obtain ⟨N4, nc4, rfl, HL4⟩ := LevM.node HL3.out hA'.out (p := (p.1, next)) ha
        have HL4' := Hd.mk HL4
        have hT4 : _ ∧ _ ∧ _ := ⟨(hg4.block wr.heap.size (Array.getElem?_eq_some_iff.1 hT.1).1 (fun e => hNg.out e.symm)).trans hT.1, HL4.hx, HL4.b.heap⟩
        have HO4 : Hd (Own8 w4 (wr.alloc (.cells #[.string p.1, .int .i64 p.2] 113)).heap.size A2 n2 c2 (pairB p)) := ⟨Own.keep (Own.below HO2.out ha1) fun k e _ hk => hg4.block k hk (fun e' => by
          obtain ⟨cs, hcs⟩ := own_type (Own.below HO2.out ha1) e
          exact own_ne HL3.out.n hcs (by decide) e'.symm)⟩
        have x4 := Hd.mk (one_load HL4.hd)
        clear ha HL4
        clear hS
        have hS := hT4
        refine hKK.out _ _ (fun _ => hS) ?_
        clear hKK
        change wpAnyZ _ _ _ _ _ _ _ _ (Act.put _ (some 57) _) _
        simp only [Act.put, List.setIfInBounds_toArray, List.set_cons_zero, List.set_cons_succ]
        refine wpAnyZ_take0 (i := 10) (oi := ⟨_, _, _, _, _, _⟩) (v := ?_) rfl (by decide +kernel) (fun _ _ _ h => h) (Or.inl ⟨by rfl, ?_⟩) (fun _ => hS) ?_
        rotate_left
        focus (intro w _; go_simp; (try with_reducible rfl); done)
        simp only [Act.put, List.setIfInBounds_toArray, List.set_cons_zero, List.set_cons_succ]
        refine wpAnyZ_done (by decide +kernel) ?_
        have x4' := x4.out
        clear hS hT hT4 hg4 ha1
        go_wp2_with (at_builtin; refine wl_app8 rfl (.tmp 58) (.tmp 59) rfl rfl rfl HL4'.out.d (Own.rd HO4.out) (by omega) HL4'.out.t.size ?_; intro v w5 ha; obtain ⟨D5, dc5, rfl, hgd5, HL5⟩ := LevM.data HL4'.out hA'.out (p := p) rfl ha; have x5 := one_load hgd5; have f5 := frozen_of_row w5 _ 0 _ _ hgd5; have HL5' := Hd.mk HL5; clear HL5 ha hgd5)
        go_roundw
        case rel =>
          exact ⟨1, next, P, pn, pc, pg, D5, 1 + n2, dc5, [p], N4, nn + 1, nc4, nl, nl ++ [(p.1, next)], by go_num, rfl, by omega, by simpa using HL5', ⟨by simp [headK]⟩, by simpa using HI2, ⟨by simp⟩, hlo', hhi', hpg', by omega, by omega⟩
        case measure => simp [intOf]; omega
      · have hcur : cur ≠ [] := fun e => hc0 (hi0.out.2 e)
        obtain ⟨q, r, hqr⟩ : ∃ q r, cur = q :: r := by
          cases cur with
          | nil => exact absurd rfl hcur
          | cons q r => exact ⟨q, r, rfl⟩
        have HNL1 : Hd (nl = nd ++ [(headK cur, next)]) := ⟨by rw [HNL.out, if_neg hcur]⟩
        have HDN : Hd (dn = 1 + (pairsB cur).length) := ⟨by have := hdl.out; simp only [List.length_cons] at this; omega⟩
        have e1 : (i : Int) > 0 := by omega
        have hdn1 : Hd (1 < dn) := ⟨by
          have h1 := HDN.out
          have h2 : 0 < (pairsB cur).length := by
            rw [hqr]
            have e : pairsB (q :: r) = pairB q ++ pairsB r := by simp [pairsB]
            rw [e, List.length_append]
            have := putU_posK q.1.size
            unfold pairB
            simp only [List.length_append]
            omega
          omega⟩
        clear hqr HNL
        by_cases hov : 246 < dn + bl
        · have HOV : Hd (cur ≠ [] ∧ 246 < 1 + (pairsB cur).length + (pairB p).length) := ⟨hcur, by rw [hbl'.out, ← HDN.out]; exact hov⟩
          have e2 : (dn : Int) + (bl : Int) > 246 := by omega
          by_cases hbad : next < 0 ∨ 16384 ≤ next
          · have hres : Hd ((layK kind n next0 (chunks l)).2.2 = 1) := ⟨HI1.out.newBad HOV.out hbad⟩
            clear HI1
            go_wp2_with (go_at_call 150; refine HPB.out.mono ?_; rintro e w2 ⟨A2, n2, c2, rfl, o2, b2⟩; obtain rfl : n2 = bl := (by rw [← hbl'.out]; exact o2.len.symm); have HL2 := Hd.mk (HL.out.below (W1B.out.trans (b2.mono (by simp)))); have GP2 := Hd.mk ((b2.block wr.heap.size (by simp)).trans GP1.out); have x2 := one_load HL2.out.hd; have HO2 := Hd.mk o2; have HB2 := Hd.mk b2; have HF2 := Hd.mk (flush149 w.heap.size (w.heap.size + 1 + 1) g kind next P pn pc _ _ D _ dc w2 HL2.out.b HL2.out.hx HL2.out.hd (Own.rd HL2.out.d) hdata.out hplen.out); clear o2 b2 HL GP1 W1B)
            refine HF2.out.mono ?_
            intro e w3 hr
            unfold RetFl at hr
            rw [if_pos hbad] at hr
            obtain ⟨rfl, ht3⟩ := hr
            have HT3 := Hd.mk ht3
            have hFB : Hd (Tch (FB g P0 pc0) w w3) := ⟨HL2.out.t.trans (ht3.mono fun k hk hF => by
              rcases hF with e | e
              · exact .inl (.inl e)
              · rcases HL2.out.p k e with e | e
                · exact .inl (.inr e)
                · exact .inr ⟨e, hk⟩)⟩
            clear hbad ht3
            go_wp2_with fail
            go_ret2
            unfold RetLev
            rw [hres.out, if_pos (by simp)]
            exact ⟨rfl, hFB.out⟩
          · have HI2 := Hd.mk (HI1.out.new HOV.out hbad)
            have hn1 : next + 1 ≤ 9223372036854775807 := by omega
            have hpg2 : Hd (pgs ++ (pg ++ mkPage kind next.toNat (n :: pairsB cur)) = [] ∨ 0 ≤ next + 1 ∧ next + 1 ≤ 16384 ∧ ((pgs ++ (pg ++ mkPage kind next.toNat (n :: pairsB cur))).length : Int) ≤ 256 * (next + 1)) := ⟨.inr ⟨by omega, by omega, by
              rw [← List.append_assoc, List.length_append, mkPage_length _ _ _ hdata.out]
              rcases hpg'.out with h2 | ⟨h2, h3, h4⟩
              · rw [h2]; simp; omega
              · omega⟩⟩
            clear HI1
            go_wp2_with (go_at_call 150; refine HPB.out.mono ?_; rintro e w2 ⟨A2, n2, c2, rfl, o2, b2⟩; obtain rfl : n2 = bl := (by rw [← hbl'.out]; exact o2.len.symm); have HL2 := Hd.mk (HL.out.below (W1B.out.trans (b2.mono (by simp)))); have GP2 := Hd.mk ((b2.block wr.heap.size (by simp)).trans GP1.out); have x2 := one_load HL2.out.hd; have HO2 := Hd.mk o2; have HB2 := Hd.mk b2; have HF2 := Hd.mk (flush149 w.heap.size (w.heap.size + 1 + 1) g kind next P pn pc _ _ D _ dc w2 HL2.out.b HL2.out.hx HL2.out.hd (Own.rd HL2.out.d) hdata.out hplen.out); clear o2 b2 HL GP1 W1B)
            refine HF2.out.mono ?_
            intro e w3 hr
            unfold RetFl at hr
            rw [if_neg hbad] at hr
            obtain ⟨rfl, P3, pn3, pc3, hb3, ht3, hp3⟩ := hr
            have HL3a := Hd.mk (HL2.out.flush hA'.out hb3 ht3 hp3)
            have GP3a : w3.heap[wr.heap.size]? = some (.cells #[.string p.1, .int .i64 p.2] 113 (0, 0)) := (ht3.block _ (Array.getElem?_eq_some_iff.1 GP2.out).1 (HL2.out.b.notFB GP2.out (by decide) (by decide))).trans GP2.out
            have HO3a : Hd (Own8 w3 (wr.alloc (.cells #[.string p.1, .int .i64 p.2] 113)).heap.size A2 n2 c2 (pairB p)) := ⟨Own.keep HO2.out fun k e hb hk => ht3.block k hk (fun hF => by
              rcases hF with e' | e'
              · exact own_ne HO2.out HL2.out.b.heap (by decide) (by rw [← e']; exact e)
              · have := hFP.out k e'; simp at hb; omega)⟩
            have HLr := Hd.mk (HL3a.out.reset hA'.out)
            have hgdr := HL3a.out.hd
            have GPr : (w3.alloc (.cells #[.int .u8 (n.toNat : Int)] 5)).heap[wr.heap.size]? = some (.cells #[.string p.1, .int .i64 p.2] 113 (0, 0)) := (((Below.refl w3.heap.size w3).alloc (Nat.le_refl _) _).block _ (Array.getElem?_eq_some_iff.1 GP3a).1).trans GP3a
            have GPr2 : ((w3.alloc (.cells #[.int .u8 (n.toNat : Int)] 5)).setCell ⟨w.heap.size + 1 + 1, 0, none⟩ (.slice (some ⟨w3.heap.size, 0, none⟩) 1 1)).heap[wr.heap.size]? = some (.cells #[.string p.1, .int .i64 p.2] 113 (0, 0)) :=
              (heap_setCell_other _ ⟨w.heap.size + 1 + 1, 0, none⟩ wr.heap.size _ (fun e => by rw [e, HL2.out.hd] at GP2; have h1 := GP2.out; injection h1 with h1; injection h1 with _ h1; cases h1)).trans GPr
            have HOr : Hd (Own8 ((w3.alloc (.cells #[.int .u8 (n.toNat : Int)] 5)).setCell ⟨w.heap.size + 1 + 1, 0, none⟩ (.slice (some ⟨w3.heap.size, 0, none⟩) 1 1)) (wr.alloc (.cells #[.string p.1, .int .i64 p.2] 113)).heap.size A2 n2 c2 (pairB p)) :=
              ⟨Own.keep (Own.alloc HO3a.out (.cells #[.int .u8 (n.toNat : Int)] 5)) fun k e _ hk => heap_setCell_other _ ⟨w.heap.size + 1 + 1, 0, none⟩ k _ (fun e' => by
                subst e'
                exact own_ne HO3a.out HL3a.out.hd (by decide) e)⟩
            have hgdr' : (w3.alloc (.cells #[.int .u8 (n.toNat : Int)] 5)).heap[w.heap.size + 1 + 1]? = _ := (((Below.refl w3.heap.size w3).alloc (Nat.le_refl _) _).block _ (Array.getElem?_eq_some_iff.1 hgdr).1).trans hgdr
            have y5 := one_load hgdr'
            have y6 := frozen_of_row _ _ 0 _ _ hgdr'
            have y7 := one_load HLr.out.hd
            have HGPr := Hd.mk GPr2
            have hNg' := hNg
            clear hbad hb3 ht3 hp3 GP3a GPr GPr2 hgdr hgdr' x2 HF2 GP2 HL2 HO2 HO3a
            go_wp2_with fail
            obtain ⟨Wr, hWr⟩ : ∃ Wr, Hd (((w3.alloc (.cells #[.int .u8 (n.toNat : Int)] 5)).setCell ⟨w.heap.size + 1 + 1, 0, none⟩ (.slice (some ⟨w3.heap.size, 0, none⟩) 1 1)) = Wr) := ⟨_, ⟨rfl⟩⟩
            rw [hWr.out] at HLr HOr HGPr ⊢
            clear hWr y5 y6 y7
            refine region_zone 11 [false, false, false, false, false, false, false, false, false, false, false] (by kernel_rfl) (by kernel_rfl) hmix (fun w' => w'.heap[wr.heap.size]? = some (.cells #[.string p.1, .int .i64 p.2] 113 (0, 0)) ∧ w'.heap[w.heap.size]? = some (.cells #[.pointer (some ⟨g, 0, none⟩)] 152 (0, 0)) ∧ w'.heap[g]? = some (.cells #[.int .u8 (kind.toNat : Int), .int .i64 (next + 1), .slice P3 pn3 pc3] 154 (0, 0))) [] ?_ (fun hS => ?_)
            · exact ⟨HGPr.out, HLr.out.hx, HLr.out.b.heap⟩
            refine wpAnyZ_take0 (i := 0) (oi := ⟨_, _, _, _, _, _⟩) (v := ?_) rfl (by decide +kernel) (fun _ _ _ h => h) (Or.inl ⟨by rfl, ?_⟩) (fun _ => hS) ?_
            rotate_left
            focus (intro w _; go_simp; (try with_reducible rfl); done)
            simp only [Act.put, List.setIfInBounds_toArray, List.set_cons_zero, List.set_cons_succ]
            refine wpAnyZ_take0 (i := 1) (oi := ⟨_, _, _, _, _, _⟩) (v := ?_) rfl (by decide +kernel) (fun _ _ _ h => h) (Or.inl ⟨by rfl, ?_⟩) (fun _ => hS) ?_
            rotate_left
            focus (intro w _; go_simp; (try with_reducible rfl); done)
            simp only [Act.put, List.setIfInBounds_toArray, List.set_cons_zero, List.set_cons_succ]
            refine wpAnyZ_take (i := 2) (oi := ⟨_, _, _, _, _, _⟩) (v := ?_) rfl (by decide +kernel) (fun _ _ _ h => h) (Or.inl ⟨by rfl, ?_⟩) hS ?_
            rotate_left
            focus (intro w hSw; (try dsimp only at hSw); (obtain ⟨y1, y2, y3⟩ := hSw; obtain ⟨k0, k1⟩ := box_loadK y1; have k2 := one_load y2; obtain ⟨z0, z1, z2⟩ := bld_load y3; clear y1 y2 y3); go_simp; (try with_reducible rfl); done)
            simp only [Act.put, List.setIfInBounds_toArray, List.set_cons_zero, List.set_cons_succ]
            refine wpAnyZ_take (i := 3) (oi := ⟨_, _, _, _, _, _⟩) (v := ?_) rfl (by decide +kernel) (fun _ _ _ h => h) (Or.inl ⟨by rfl, ?_⟩) hS ?_
            rotate_left
            focus (intro w hSw; (try dsimp only at hSw); (obtain ⟨y1, y2, y3⟩ := hSw; obtain ⟨k0, k1⟩ := box_loadK y1; have k2 := one_load y2; obtain ⟨z0, z1, z2⟩ := bld_load y3; clear y1 y2 y3); go_simp; (try with_reducible rfl); done)
            simp only [Act.put, List.setIfInBounds_toArray, List.set_cons_zero, List.set_cons_succ]
            refine wpAnyZ_take0 (i := 4) (oi := ⟨_, _, _, _, _, _⟩) (v := ?_) rfl (by decide +kernel) (fun _ _ _ h => h) (Or.inl ⟨by rfl, ?_⟩) (fun _ => hS) ?_
            rotate_left
            focus (intro w _; go_simp; (try with_reducible rfl); done)
            simp only [Act.put, List.setIfInBounds_toArray, List.set_cons_zero, List.set_cons_succ]
            refine wpAnyZ_take0 (i := 5) (oi := ⟨_, _, _, _, _, _⟩) (v := ?_) rfl (by decide +kernel) (fun _ _ _ h => h) (Or.inl ⟨by rfl, ?_⟩) (fun _ => hS) ?_
            rotate_left
            focus (intro w _; go_simp; (try with_reducible rfl); done)
            simp only [Act.put, List.setIfInBounds_toArray, List.set_cons_zero, List.set_cons_succ]
            refine wpAnyZ_take (i := 6) (oi := ⟨_, _, _, _, _, _⟩) (v := ?_) rfl (by decide +kernel) (fun _ _ _ h => h) (Or.inl ⟨by rfl, ?_⟩) hS ?_
            rotate_left
            focus (intro w hSw; (try dsimp only at hSw); (obtain ⟨y1, y2, y3⟩ := hSw; obtain ⟨k0, k1⟩ := box_loadK y1; have k2 := one_load y2; obtain ⟨z0, z1, z2⟩ := bld_load y3; clear y1 y2 y3); go_simp; (try with_reducible rfl); done)
            simp only [Act.put, List.setIfInBounds_toArray, List.set_cons_zero, List.set_cons_succ]
            refine wpAnyZ_take0 (i := 7) (oi := ⟨_, _, _, _, _, _⟩) (v := ?_) rfl (by decide +kernel) (fun _ _ _ h => h) (Or.inl ⟨by rfl, ?_⟩) (fun _ => hS) ?_
            rotate_left
            focus (intro w _; go_simp; (try with_reducible rfl); done)
            simp only [Act.put, List.setIfInBounds_toArray, List.set_cons_zero, List.set_cons_succ]
            refine wpAnyZ_one (i := 8) rfl (by decide +kernel) (fun K hKK => ?_)
            go_simp
            have ha1 : Below Wr.heap.size Wr (Wr.drew.alloc (.cells #[.string p.1, .int .i64 ((next + 1))] 113)) := (below_drew Wr).trans (below_alloc Wr.drew _)
            have HL3 := Hd.mk (HLr.out.below ha1)
            have hT : _ ∧ _ ∧ _ := ⟨(ha1.block wr.heap.size (Array.getElem?_eq_some_iff.1 HGPr.out).1).trans HGPr.out, HL3.out.hx, HL3.out.b.heap⟩
            clear hS
            have hS := hT
            refine hKK.out _ _ (fun _ => hS) ?_
            clear hKK
            refine wpAnyZ_one (i := 9) rfl (by decide +kernel) (fun K hKK => ?_)
            refine st_appK (by rfl) (.tmp 48) (.tmp 56) (by rfl) (by rfl) (by rfl) (m := 1) HL3.out.n (RdK.newAt Wr.drew [(p.1, (next + 1))] rfl rfl rfl) (by omega) HL3.out.t.size ?_
            intro v w4 ha
            have hg4 : World.grownBy _ w4 (ownBlk N nc) := (by obtain ⟨_, _, _, _, h, _⟩ := ha; exact h)
            obtain ⟨N4, nc4, rfl, HL4⟩ := LevM.node HL3.out hA'.out (p := (p.1, (next + 1))) ha
            have HL4' := Hd.mk HL4
            have hT4 : _ ∧ _ ∧ _ := ⟨(hg4.block wr.heap.size (Array.getElem?_eq_some_iff.1 hT.1).1 (fun e => hNg.out e.symm)).trans hT.1, HL4.hx, HL4.b.heap⟩
            have HO4 : Hd (Own8 w4 (wr.alloc (.cells #[.string p.1, .int .i64 p.2] 113)).heap.size A2 n2 c2 (pairB p)) := ⟨Own.keep (Own.below HOr.out ha1) fun k e _ hk => hg4.block k hk (fun e' => by
              obtain ⟨cs, hcs⟩ := own_type (Own.below HOr.out ha1) e
              exact own_ne HL3.out.n hcs (by decide) e'.symm)⟩
            have x4 := Hd.mk (one_load HL4.hd)
            clear ha HL4
            clear hS
            have hS := hT4
            refine hKK.out _ _ (fun _ => hS) ?_
            clear hKK
            change wpAnyZ _ _ _ _ _ _ _ _ (Act.put _ (some 57) _) _
            simp only [Act.put, List.setIfInBounds_toArray, List.set_cons_zero, List.set_cons_succ]
            refine wpAnyZ_take0 (i := 10) (oi := ⟨_, _, _, _, _, _⟩) (v := ?_) rfl (by decide +kernel) (fun _ _ _ h => h) (Or.inl ⟨by rfl, ?_⟩) (fun _ => hS) ?_
            rotate_left
            focus (intro w _; go_simp; (try with_reducible rfl); done)
            simp only [Act.put, List.setIfInBounds_toArray, List.set_cons_zero, List.set_cons_succ]
            refine wpAnyZ_done (by decide +kernel) ?_
            have x4' := x4.out
            clear hS hT hT4 hg4 ha1
            go_wp2_with (at_builtin; refine wl_app8 rfl (.tmp 58) (.tmp 59) rfl rfl rfl HL4'.out.d (Own.rd HO4.out) (by omega) HL4'.out.t.size ?_; intro v w5 ha; obtain ⟨D5, dc5, rfl, hgd5, HL5⟩ := LevM.data HL4'.out hA'.out (p := p) rfl ha; have x5 := one_load hgd5; have f5 := frozen_of_row w5 _ 0 _ _ hgd5; have HL5' := Hd.mk HL5; clear HL5 ha hgd5)
            go_roundw
            case rel =>
              exact ⟨i + 1, next + 1, P3, pn3, pc3, pg ++ mkPage kind next.toNat (n :: pairsB cur), D5, 1 + n2, dc5, [p], N4, nn + 1, nc4, nd ++ [(headK cur, next)], nl ++ [(p.1, next + 1)], by go_num, rfl, by omega, by rw [← List.append_assoc]; simpa using HL5', ⟨by rw [HNL1.out]; simp [headK]⟩, HI2, ⟨by simp⟩, by omega, hn1, hpg2, by omega, by omega⟩
            case measure => simp [intOf]; omega
        · have HI2 := Hd.mk (HI1.out.add (by rw [hbl'.out, ← HDN.out]; exact fun h => hov h.2))
          have e2 : ¬ ((dn : Int) + (bl : Int) > 246) := by omega
          have e3 : ((dn : Int) == 1) = false := by have := hdn1.out; simp; omega
          clear HI1
          go_wp2_with (first
            | (go_at_call 150; refine HPB.out.mono ?_; rintro e w2 ⟨A2, n2, c2, rfl, o2, b2⟩; obtain rfl : n2 = bl := (by rw [← hbl'.out]; exact o2.len.symm); have HL2 := Hd.mk (HL.out.below (W1B.out.trans (b2.mono (by simp)))); have GP2 := Hd.mk ((b2.block wr.heap.size (by simp)).trans GP1.out); have x2 := one_load HL2.out.hd; have HO2 := Hd.mk o2; have HB2 := Hd.mk b2; have HF2 := Hd.mk (flush149 w.heap.size (w.heap.size + 1 + 1) g kind next P pn pc _ _ D _ dc w2 HL2.out.b HL2.out.hx HL2.out.hd (Own.rd HL2.out.d) hdata.out hplen.out); clear o2 b2 HL GP1 W1B)
            | (at_builtin; refine wl_app8 rfl (.tmp 58) (.tmp 59) rfl rfl rfl HL2.out.d (Own.rd HO2.out) (by omega) HL2.out.t.size ?_; intro v w5 ha; obtain ⟨D5, dc5, rfl, hgd5, HL5⟩ := LevM.data HL2.out hA'.out (p := p) rfl ha; have x5 := one_load hgd5; have f5 := frozen_of_row w5 _ 0 _ _ hgd5; have HL5' := Hd.mk HL5; clear HL5 ha hgd5))
          go_roundw
          case rel =>
            exact ⟨i + 1, next, P, pn, pc, pg, D5, dn + n2, dc5, cur ++ [p], N, nn, nc, nd, nl, by go_num, rfl, by omega, HL5', ⟨by rw [HNL1.out, if_neg (by simp), headK_snoc hcur]⟩, HI2, ⟨by simp⟩, hlo', hhi', hpg', by omega, by omega⟩
          case measure => simp [intOf]; omega
    · obtain rfl : i = m := by omega
      have HI1 := Hd.mk HI.out
      rw [List.drop_of_length_le (by rw [hll.out]; exact Nat.le_refl _)] at HI1
      have hlti : ¬ ((i : Int) < (i : Int)) := by omega
      have HF := Hd.mk (flush149 w.heap.size (w.heap.size + 1 + 1) g kind next P pn pc _ _ D _ dc wr HL.out.b HL.out.hx HL.out.hd (Own.rd HL.out.d) hdata.out hplen.out)
      by_cases hbad : next < 0 ∨ 16384 ≤ next
      · have hres : Hd ((layK kind n next0 (chunks l)).2.2 = 1) := ⟨HI1.out.endBad hbad⟩
        clear HI1
        go_wp2_with fail
        refine HF.out.mono ?_
        intro e w3 hr
        unfold RetFl at hr
        rw [if_pos hbad] at hr
        obtain ⟨rfl, ht3⟩ := hr
        have hFB : Hd (Tch (FB g P0 pc0) w w3) := ⟨HL.out.t.trans (ht3.mono fun k hk hF => by
          rcases hF with e | e
          · exact .inl (.inl e)
          · rcases HL.out.p k e with e | e
            · exact .inl (.inr e)
            · exact .inr ⟨e, hk⟩)⟩
        clear hbad ht3
        go_wp2_with fail
        go_ret2
        unfold RetLev
        rw [hres.out, if_pos (by simp)]
        exact ⟨rfl, hFB.out⟩
      · have hres := Hd.mk (HI1.out.end_ hbad)
        clear HI1
        go_wp2_with fail
        refine HF.out.mono ?_
        intro e w3 hr
        unfold RetFl at hr
        rw [if_neg hbad] at hr
        obtain ⟨rfl, P3, pn3, pc3, hb3, ht3, hp3⟩ := hr
        have HL3 := Hd.mk (HL.out.flush hA'.out hb3 ht3 hp3)
        clear hbad ht3 hb3 hp3
        go_wp2_with fail
        go_ret2
        unfold RetLev
        rw [hres.out.1, if_neg (by simp)]
        have hnl : (if l = [] then [] else nd ++ [(headK cur, next)]) = nl := by
          by_cases hl0 : l = []
          · have hi00 : i = 0 := by rw [← hll.out, hl0]; rfl
            have h6 := OwnK.len HL3.out.n
            rw [if_pos hl0]
            exact (List.eq_nil_of_length_eq_zero (by omega)).symm
          · rw [HNL.out, if_neg hl0, if_neg]
            intro hc
            have := hi0.out.2 hc
            have h5 := hll.out
            rw [this] at h5
            exact hl0 (List.eq_nil_of_length_eq_zero h5)
        rw [hnl]
        refine ⟨N, nn, nc, P3, pn3, pc3, rfl, HL3.out.n, ?_, HL3.out.t, HL3.out.p⟩
        have e1 := HL3.out.b
        rw [List.append_assoc] at e1
        rw [hres.out.2]
        exact e1
end Go.Proofs.Ytkgdcglnkodgnaa

