/-
  The walk of the law PageSwapped (function 6). No condition but sizes.
-/
import Derived.Test.YtkgdcglnkodgnaaSwap
import Derived.Test.YtkgdcglnkodgnaaRdS
import Derived.Test.YtkgdcglnkodgnaaCopyAt
import Derived.Test.YtkgdcglnkodgnaaLbooks
import Derived.Test.YtkgdcglnkodgnaaLspoilt
namespace Go.Proofs.Ytkgdcglnkodgnaa
open Go.RowKit Go.Shelf
attribute [local go_sem] Oper.semAt_some
theorem wpIn_onlyN {F : Fence} {n : Nat} {P : Program} {c : Code} {Q : Exit → Act → World → Prop} {a : Act} {w : World} (h : c.wpIn F n P (onlyN Q) a w) : c.wpIn F n P Q a w := wpIn_mono h (fun _ _ _ h => onlyN_to h)
theorem wpIn_cut {F : Fence} {n : Nat} {P : Program} {c : Code} {Q : Exit → Act → World → Prop} {a : Act} {w : World} (a1 : Act) (w1 : World) (h : c.wpIn F n P (onlyN (fun _ a w => a = a1 ∧ w = w1)) a w) (hk : Q .normal a1 w1) : c.wpIn F n P Q a w :=
  wpIn_mono h (fun e a w h => by
    cases e <;> first | exact h.elim | skip
    obtain ⟨rfl, rfl⟩ := h
    exact hk)
/-- What holds of the law's own cells in the loop. -/
def C6 (N base BE : Nat) (ad : Addr) (n c : Nat) (l : List UInt8) (x y k : Nat) (W : World) : Prop :=
  Boxed W N 3 (.int .i64 (x : Int)) ∧ Boxed W (N + 1) 3 (.int .i64 (y : Int)) ∧ Boxed W (N + 1 + 1) 4 (.bool false) ∧ Boxed W BE 22 (.slice (some ad) n c) ∧ Boxed W (BE + 1) 3 (.int .i64 (k : Int)) ∧ Own8 W base (some ad) n c l ∧ BE + 2 ≤ W.heap.size
theorem c6_own {B N base BE : Nat} {ad : Addr} {n c : Nat} {l : List UInt8} {x y : Nat} : OwnG B (fun _ => False) (fun (pre : List Tell) W => C6 N base BE ad n c l x y pre.length W) := by
  rintro s X Y row ⟨h1, h2, h3, h4, h5, h6, h7⟩ hg hr
  have hr' : ∀ r, row = some r → ∃ o : Obj, X.heap[r]? = some o ∧ o.isCells = false := fun r e => (hr r e).elim (fun h => h.2) False.elim
  exact ⟨boxed_from h1 hg hr', boxed_from h2 hg hr', boxed_from h3 hg hr', boxed_from h4 hg hr', boxed_from h5 hg hr', h6.from_ hg hr', Nat.le_trans h7 hg.size⟩
theorem errK_eq (x k : Nat) : errK x x k = 0 := by
  unfold errK
  by_cases h : k = x
  · rw [if_pos h, if_pos h.symm]
  · rw [if_neg h, if_neg h, if_pos rfl]
theorem errK_a (x y : Nat) (h : ¬ x = y) : errK x y x = 192 := by
  unfold errK
  rw [if_neg h, if_pos rfl, if_neg (fun e => h e.symm)]
theorem errK_b (x y : Nat) (h : ¬ x = y) : errK x y y = 192 := by
  unfold errK
  rw [if_pos rfl, if_neg h]
theorem errK_o (x y k : Nat) (h1 : ¬ k = x) (h2 : ¬ k = y) : errK x y k = 0 := by
  unfold errK
  rw [if_neg h2, if_neg h1, if_pos rfl]
/-- Three boxes. -/
theorem three_boxes (w W0 : World) (a b : Int) (hW0 : (((w.alloc (.cells #[.int .i64 a] 3)).alloc (.cells #[.int .i64 b] 3)).alloc (.cells #[.bool false] 4)) = W0) :
    Boxed W0 w.heap.size 3 (.int .i64 a) ∧ Boxed W0 (w.heap.size + 1) 3 (.int .i64 b) ∧ Boxed W0 (w.heap.size + 1 + 1) 4 (.bool false) ∧ Below w.heap.size w W0 ∧ W0.heap.size = w.heap.size + 3 := by
  subst hW0
  have e0 := Boxed.new w 3 (.int .i64 a)
  have e1 := Boxed.new (w.alloc (.cells #[.int .i64 a] 3)) 3 (.int .i64 b)
  have e2 := Boxed.new ((w.alloc (.cells #[.int .i64 a] 3)).alloc (.cells #[.int .i64 b] 3)) 4 (.bool false)
  simp only [World.size_alloc] at e1 e2
  exact ⟨(e0.alloc _).alloc _, e1.alloc _, e2, (((Below.refl w.heap.size w).alloc (Nat.le_refl _) _).alloc (by simp) _).alloc (by simp; omega) _, by simp⟩
set_option maxRecDepth 100000 in
set_option maxHeartbeats 8000000 in
theorem pageSwapped6 (K : Option Addr) (kn kc : Nat) (ks : List UInt8) (D : Option Addr) (dn dc : Nat) (ds : List (List UInt8)) (a b : Int) (w : World) (hk : Rd8 w K kn ks) (hkn : kn ≤ 140737488355328) (hd : RdS w D dn ds) (hdn : dn ≤ 140737488355328) :
    CallsIn Fence.wide 9 Try.prog 6 #[.slice K kn kc, .slice D dn dc, .int .i64 a, .int .i64 b] w fun e w' => e = .returned (.bool true) ∧ Below w.heap.size w w' := by
  obtain ⟨W0, hW0⟩ : ∃ W0, (((w.alloc (.cells #[.int .i64 a] 3)).alloc (.cells #[.int .i64 b] 3)).alloc (.cells #[.bool false] 4)) = W0 := ⟨_, rfl⟩
  obtain ⟨e0, e1, e2, eb, es⟩ := three_boxes w W0 a b hW0
  refine callsIn_of_wp_marks Try.func6 rfl trivial ?_ rfl
  simp only [Try.ntmps6, List.size_toArray, List.length_cons, List.length_nil, Nat.reduceAdd, Nat.reduceSub, Array.replicate_succ, Array.replicate_zero, List.push_toArray, List.append_toArray, List.nil_append, List.cons_append]
  gi_wp2_with (refine ⟨trivial, ?_⟩; gi_at_call 23; refine (callsIn_wide.2 (awake23 _)).mono ?_; rintro e w1 ⟨rfl, hb1⟩; clear hW0)
  have p0 := boxed_below e0 hb1
  have p1 := boxed_below e1 hb1
  have p2 := boxed_below e2 hb1
  have hB1 := eb.trans (hb1.mono (by omega))
  have hs1 : w.heap.size + 3 ≤ w1.heap.size := by have := hb1.size; omega
  clear e0 e1 e2 eb es hb1
  gi_loopw [9, 10, 11, 12, 13] (fun v n i _ _ wr => ∃ (m : Nat) (A : Option Addr) (c : Nat), m ≤ kn ∧ m ≤ dn ∧ m ≤ 40 ∧ v = .slice A (256 * m) c ∧ n = .int .i64 (m : Int) ∧ i = .int .i64 (m : Int) ∧ Own8 wr w1.heap.size A (256 * m) c (pgs ks ds m) ∧ Below w1.heap.size w1 wr)
    (fun _ n _ _ _ _ => 41 - (intOf n).toNat)
  case atStart => exact ⟨0, none, 0, by omega, by omega, by omega, rfl, rfl, rfl, Own8.nil_ _ _ _, Below.refl _ _⟩
  case round =>
    obtain ⟨m, A, c, hm1, hm2, hm3, rfl, rfl, rfl, ho, hb⟩ := hrel
    by_cases hlt : m < kn ∧ m < dn ∧ m < 40
    · obtain ⟨h1, h2, h3⟩ := hlt
      have h1' : (m : Int) < (kn : Int) := by omega
      have h2' : (m : Int) < (dn : Int) := by omega
      have h3' : (m : Int) < 40 := by omega
      obtain ⟨kad, rfl, hck⟩ := hk.getD (k := m) (by omega)
      obtain ⟨dad, J, q, jc, rfl, hcd, hrj, hqj, hjc⟩ := hd.at_ (k := m) h2
      obtain ⟨kd, EK⟩ : ∃ x, Hd (ks.getD m 0 = x) := ⟨_, ⟨rfl⟩⟩
      obtain ⟨dj, ED⟩ : ∃ x, Hd (ds.getD m [] = x) := ⟨_, ⟨rfl⟩⟩
      rw [EK.out] at hck
      rw [ED.out] at hrj
      have hwr : Below w.heap.size w wr := hB1.trans (hb.mono hB1.size)
      have hlk : (kad.add m).block < wr.heap.size := Nat.lt_of_lt_of_le (cell_lt hck) hwr.size
      have hld : (dad.add m).block < wr.heap.size := Nat.lt_of_lt_of_le (cell_lt hcd) hwr.size
      have hck1 : wr.cell? (kad.add m) = some (.int .u8 (kd.toNat : Int)) := (hwr.cell (cell_lt hck)).trans hck
      have hcd1 : wr.cell? (dad.add m) = some (.slice J q jc) := (hwr.cell (cell_lt hcd)).trans hcd
      have hrj1 := hrj.below hwr
      have HMK : Hd (make kd (m : Int) (dj.take 246) = (mkPage kd m (dj.take 246), 0)) := ⟨make_ok kd m _ (by omega) (by rw [List.length_take]; omega)⟩
      have HML : Hd ((mkPage kd m (dj.take 246)).length = 256) := ⟨mkPage_length _ _ _ (by rw [List.length_take]; omega)⟩
      have HPS : Hd (pgs ks ds (m + 1) = pgs ks ds m ++ mkPage kd m (dj.take 246)) := ⟨by rw [pgs_succ, EK.out, ED.out]⟩
      have hmix : Try.prog.follows .mixedOrders = true := by kernel_rfl
      have hbyte : ((kd.toNat : Nat) : Int) < 256 := by have := byte_lt kd; omega
      unfold maxLen at hjc
      clear hck hcd hwr h3 hjc
      by_cases hq : 246 < q
      · have hq' : (246 : Int) < (q : Int) := by omega
        have hqc : (246 : Int) ≤ (jc : Int) := by omega
        have hr246 := hrj1.take (k := 246) (by omega)
        have HM25 : Hd (∀ (M : Option Addr) (mm mc : Nat) (w2 : World), Rd8 w2 M mm (dj.take 246) → Calls Try.prog 25 #[.int .u8 (kd.toNat : Int), .int .i64 (m : Int), .slice M mm mc] w2 (RetE8 w2 (mkPage kd m (dj.take 246)) 0)) := ⟨fun M mm mc w2 h => by
          have := make25 kd (m : Int) M mm mc _ w2 h
          rw [HMK.out] at this
          exact this⟩
        clear hq HMK
        gi_wp2_with fail
        refine region_wide 23 [false, false, false, false, false, false, false, false, false, false, false, false, false, false, false, false, false, false, false, false, false, false, false] (by kernel_rfl) (by kernel_rfl) hmix (fun w' => w'.cell? (kad.add m) = some (.int .u8 (kd.toNat : Int)) ∧ w'.cell? (dad.add m) = some (.slice J q jc)) ⟨hck1, hcd1⟩ (fun hS => ?_)
        repeat (first
          | ((refine wpAnyH_take (i := 0) (oi := ⟨_, _, _, _, _, _⟩) (v := ?_) rfl (by kernel_rfl) (by decide +kernel) (by decide +kernel) (fun _ _ _ h => h) (Or.inl ⟨by rfl, ?_⟩) (by assumption) ?_); rotate_left; (focus (intro w hSw; (try dsimp only at hSw); go_simp; try with_reducible rfl)); simp only [Act.put, List.setIfInBounds_toArray, List.set_cons_zero, List.set_cons_succ])
          | ((refine wpAnyH_take (i := 1) (oi := ⟨_, _, _, _, _, _⟩) (v := ?_) rfl (by kernel_rfl) (by decide +kernel) (by decide +kernel) (fun _ _ _ h => h) (Or.inl ⟨by rfl, ?_⟩) (by assumption) ?_); rotate_left; (focus (intro w hSw; (try dsimp only at hSw); go_simp; try with_reducible rfl)); simp only [Act.put, List.setIfInBounds_toArray, List.set_cons_zero, List.set_cons_succ])
          | ((refine wpAnyH_take (i := 2) (oi := ⟨_, _, _, _, _, _⟩) (v := ?_) rfl (by kernel_rfl) (by decide +kernel) (by decide +kernel) (fun _ _ _ h => h) (Or.inl ⟨by rfl, ?_⟩) (by assumption) ?_); rotate_left; (focus (intro w hSw; (try dsimp only at hSw); go_simp; try with_reducible rfl)); simp only [Act.put, List.setIfInBounds_toArray, List.set_cons_zero, List.set_cons_succ])
          | ((refine wpAnyH_take (i := 3) (oi := ⟨_, _, _, _, _, _⟩) (v := ?_) rfl (by kernel_rfl) (by decide +kernel) (by decide +kernel) (fun _ _ _ h => h) (Or.inl ⟨by rfl, ?_⟩) (by assumption) ?_); rotate_left; (focus (intro w hSw; (try dsimp only at hSw); go_simp; try with_reducible rfl)); simp only [Act.put, List.setIfInBounds_toArray, List.set_cons_zero, List.set_cons_succ])
          | ((refine wpAnyH_take (i := 4) (oi := ⟨_, _, _, _, _, _⟩) (v := ?_) rfl (by kernel_rfl) (by decide +kernel) (by decide +kernel) (fun _ _ _ h => h) (Or.inl ⟨by rfl, ?_⟩) (by assumption) ?_); rotate_left; (focus (intro w hSw; (try dsimp only at hSw); go_simp; try with_reducible rfl)); simp only [Act.put, List.setIfInBounds_toArray, List.set_cons_zero, List.set_cons_succ])
          | ((refine wpAnyH_take (i := 5) (oi := ⟨_, _, _, _, _, _⟩) (v := ?_) rfl (by kernel_rfl) (by decide +kernel) (by decide +kernel) (fun _ _ _ h => h) (Or.inl ⟨by rfl, ?_⟩) (by assumption) ?_); rotate_left; (focus (intro w hSw; (try dsimp only at hSw); go_simp; try with_reducible rfl)); simp only [Act.put, List.setIfInBounds_toArray, List.set_cons_zero, List.set_cons_succ])
          | ((refine wpAnyH_take (i := 6) (oi := ⟨_, _, _, _, _, _⟩) (v := ?_) rfl (by kernel_rfl) (by decide +kernel) (by decide +kernel) (fun _ _ _ h => h) (Or.inl ⟨by rfl, ?_⟩) (by assumption) ?_); rotate_left; (focus (intro w hSw; (try dsimp only at hSw); go_simp; try with_reducible rfl)); simp only [Act.put, List.setIfInBounds_toArray, List.set_cons_zero, List.set_cons_succ])
          | ((refine wpAnyH_take (i := 7) (oi := ⟨_, _, _, _, _, _⟩) (v := ?_) rfl (by kernel_rfl) (by decide +kernel) (by decide +kernel) (fun _ _ _ h => h) (Or.inl ⟨by rfl, ?_⟩) (by assumption) ?_); rotate_left; (focus (intro w hSw; (try dsimp only at hSw); go_simp; try with_reducible rfl)); simp only [Act.put, List.setIfInBounds_toArray, List.set_cons_zero, List.set_cons_succ])
          | ((refine wpAnyH_take (i := 8) (oi := ⟨_, _, _, _, _, _⟩) (v := ?_) rfl (by kernel_rfl) (by decide +kernel) (by decide +kernel) (fun _ _ _ h => h) (Or.inl ⟨by rfl, ?_⟩) (by assumption) ?_); rotate_left; (focus (intro w hSw; (try dsimp only at hSw); go_simp; try with_reducible rfl)); simp only [Act.put, List.setIfInBounds_toArray, List.set_cons_zero, List.set_cons_succ])
          | ((refine wpAnyH_take (i := 9) (oi := ⟨_, _, _, _, _, _⟩) (v := ?_) rfl (by kernel_rfl) (by decide +kernel) (by decide +kernel) (fun _ _ _ h => h) (Or.inl ⟨by rfl, ?_⟩) (by assumption) ?_); rotate_left; (focus (intro w hSw; (try dsimp only at hSw); go_simp; try with_reducible rfl)); simp only [Act.put, List.setIfInBounds_toArray, List.set_cons_zero, List.set_cons_succ])
          | ((refine wpAnyH_take (i := 10) (oi := ⟨_, _, _, _, _, _⟩) (v := ?_) rfl (by kernel_rfl) (by decide +kernel) (by decide +kernel) (fun _ _ _ h => h) (Or.inl ⟨by rfl, ?_⟩) (by assumption) ?_); rotate_left; (focus (intro w hSw; (try dsimp only at hSw); go_simp; try with_reducible rfl)); simp only [Act.put, List.setIfInBounds_toArray, List.set_cons_zero, List.set_cons_succ])
          | ((refine wpAnyH_take (i := 11) (oi := ⟨_, _, _, _, _, _⟩) (v := ?_) rfl (by kernel_rfl) (by decide +kernel) (by decide +kernel) (fun _ _ _ h => h) (Or.inl ⟨by rfl, ?_⟩) (by assumption) ?_); rotate_left; (focus (intro w hSw; (try dsimp only at hSw); go_simp; try with_reducible rfl)); simp only [Act.put, List.setIfInBounds_toArray, List.set_cons_zero, List.set_cons_succ])
          | ((refine wpAnyH_take (i := 12) (oi := ⟨_, _, _, _, _, _⟩) (v := ?_) rfl (by kernel_rfl) (by decide +kernel) (by decide +kernel) (fun _ _ _ h => h) (Or.inl ⟨by rfl, ?_⟩) (by assumption) ?_); rotate_left; (focus (intro w hSw; (try dsimp only at hSw); go_simp; try with_reducible rfl)); simp only [Act.put, List.setIfInBounds_toArray, List.set_cons_zero, List.set_cons_succ])
          | ((refine wpAnyH_take (i := 13) (oi := ⟨_, _, _, _, _, _⟩) (v := ?_) rfl (by kernel_rfl) (by decide +kernel) (by decide +kernel) (fun _ _ _ h => h) (Or.inl ⟨by rfl, ?_⟩) (by assumption) ?_); rotate_left; (focus (intro w hSw; (try dsimp only at hSw); go_simp; try with_reducible rfl)); simp only [Act.put, List.setIfInBounds_toArray, List.set_cons_zero, List.set_cons_succ])
          | ((refine wpAnyH_take (i := 14) (oi := ⟨_, _, _, _, _, _⟩) (v := ?_) rfl (by kernel_rfl) (by decide +kernel) (by decide +kernel) (fun _ _ _ h => h) (Or.inl ⟨by rfl, ?_⟩) (by assumption) ?_); rotate_left; (focus (intro w hSw; (try dsimp only at hSw); go_simp; try with_reducible rfl)); simp only [Act.put, List.setIfInBounds_toArray, List.set_cons_zero, List.set_cons_succ])
          | ((refine wpAnyH_take (i := 15) (oi := ⟨_, _, _, _, _, _⟩) (v := ?_) rfl (by kernel_rfl) (by decide +kernel) (by decide +kernel) (fun _ _ _ h => h) (Or.inl ⟨by rfl, ?_⟩) (by assumption) ?_); rotate_left; (focus (intro w hSw; (try dsimp only at hSw); go_simp; try with_reducible rfl)); simp only [Act.put, List.setIfInBounds_toArray, List.set_cons_zero, List.set_cons_succ]))
        refine wpAnyH_ready (rs := [16]) (by decide +kernel) (by simp) ?_
        refine AllReadyH.cons rfl (fun K hKK => ?_) AllReadyH.nil
        go_wp2_with (go_at_call 24; refine (twin24 J 246 jc _ _ hr246.drew (by omega)).mono ?_; rintro e w2 ⟨M, mm, mc, rfl, ho2, hb2⟩)
        clear hS
        refine hKK.out _ _ ⟨(hb2.cell hlk).trans hck1, (hb2.cell hld).trans hcd1⟩ (fun hS => ?_)
        clear hKK
        refine wpAnyH_ready (rs := [17]) (by decide +kernel) (by simp) ?_
        refine AllReadyH.cons rfl (fun K hKK => ?_) AllReadyH.nil
        go_simp
        refine (HM25.out M mm mc w2 ho2.rd).mono ?_
        rintro e w3 ⟨P, pn, pc, rfl, ho3, hb3⟩
        obtain rfl : pn = 256 := by rw [← ho3.len]; exact HML.out
        clear hS
        refine hKK.out _ _ ⟨(hb3.cell (Nat.lt_of_lt_of_le hlk hb2.size)).trans ((hb2.cell hlk).trans hck1), (hb3.cell (Nat.lt_of_lt_of_le hld hb2.size)).trans ((hb2.cell hld).trans hcd1)⟩ (fun hS => ?_)
        repeat (first
          | ((refine wpAnyH_take (i := 18) (oi := ⟨_, _, _, _, _, _⟩) (v := ?_) rfl (by kernel_rfl) (by decide +kernel) (by decide +kernel) (fun _ _ _ h => h) (Or.inl ⟨by rfl, ?_⟩) (by assumption) ?_); rotate_left; (focus (intro w hSw; (try dsimp only at hSw); go_simp; try with_reducible rfl)); simp only [Act.put, List.setIfInBounds_toArray, List.set_cons_zero, List.set_cons_succ])
          | ((refine wpAnyH_take (i := 19) (oi := ⟨_, _, _, _, _, _⟩) (v := ?_) rfl (by kernel_rfl) (by decide +kernel) (by decide +kernel) (fun _ _ _ h => h) (Or.inl ⟨by rfl, ?_⟩) (by assumption) ?_); rotate_left; (focus (intro w hSw; (try dsimp only at hSw); go_simp; try with_reducible rfl)); simp only [Act.put, List.setIfInBounds_toArray, List.set_cons_zero, List.set_cons_succ])
          | ((refine wpAnyH_take (i := 20) (oi := ⟨_, _, _, _, _, _⟩) (v := ?_) rfl (by kernel_rfl) (by decide +kernel) (by decide +kernel) (fun _ _ _ h => h) (Or.inl ⟨by rfl, ?_⟩) (by assumption) ?_); rotate_left; (focus (intro w hSw; (try dsimp only at hSw); go_simp; try with_reducible rfl)); simp only [Act.put, List.setIfInBounds_toArray, List.set_cons_zero, List.set_cons_succ])
          | ((refine wpAnyH_take (i := 21) (oi := ⟨_, _, _, _, _, _⟩) (v := ?_) rfl (by kernel_rfl) (by decide +kernel) (by decide +kernel) (fun _ _ _ h => h) (Or.inl ⟨by rfl, ?_⟩) (by assumption) ?_); rotate_left; (focus (intro w hSw; (try dsimp only at hSw); go_simp; try with_reducible rfl)); simp only [Act.put, List.setIfInBounds_toArray, List.set_cons_zero, List.set_cons_succ])
          | ((refine wpAnyH_take (i := 22) (oi := ⟨_, _, _, _, _, _⟩) (v := ?_) rfl (by kernel_rfl) (by decide +kernel) (by decide +kernel) (fun _ _ _ h => h) (Or.inl ⟨by rfl, ?_⟩) (by assumption) ?_); rotate_left; (focus (intro w hSw; (try dsimp only at hSw); go_simp; try with_reducible rfl)); simp only [Act.put, List.setIfInBounds_toArray, List.set_cons_zero, List.set_cons_succ]))
        refine done_only (by decide +kernel) ?_
        have hb23 : Below wr.heap.size wr w3 := ⟨hb3.os.trans hb2.os, hb3.tape.trans hb2.tape, hb3.output.trans hb2.output, Nat.le_trans hb2.size hb3.size, fun i hi => (hb3.block i (Nat.lt_of_lt_of_le hi hb2.size)).trans (hb2.block i hi)⟩
        have ho' := ho.below hb23
        have hb' := hb.trans (hb23.mono hb.size)
        clear hS ho2 hb2 hb3 hck1 hcd1 hlk hld
        gi_wp2_with (gi_at_builtin; refine wlIn_app8 rfl _ _ rfl rfl rfl ho' ho3.rd (by omega) (by have := hb'.size; omega) ?_; rintro v w4 ⟨A4, c4, rfl, ho4, hg4, _⟩)
        have hb4 := below_app hb' (by have := hb'.size; omega) ho' hg4
        go_roundw
        case rel => exact ⟨m + 1, A4, c4, by omega, by omega, by omega, rfl, by go_num, by go_num, by rw [HPS.out]; exact ho4, hb4⟩
        case measure => simp [intOf]; omega
      · have hq' : ¬ (246 : Int) < (q : Int) := by omega
        have hq2 : (q : Int) ≤ 246 := by omega
        have hq3 : (q : Int) ≤ (q : Int) := by omega
        have hq4 : (if (246 : Int) < (q : Int) then (246 : Int) else (q : Int)) = (q : Int) := if_neg hq'
        have hq5 : (0 : Int) ≤ (q : Int) := by omega
        have hqc : (q : Int) ≤ (jc : Int) := by omega
        have HTK := Hd.mk (show dj.take 246 = dj from List.take_of_length_le (by rw [hrj1.len]; omega))
        rw [HTK.out] at HMK HML HPS
        have HM25 : Hd (∀ (M : Option Addr) (mm mc : Nat) (w2 : World), Rd8 w2 M mm dj → Calls Try.prog 25 #[.int .u8 (kd.toNat : Int), .int .i64 (m : Int), .slice M mm mc] w2 (RetE8 w2 (mkPage kd m dj) 0)) := ⟨fun M mm mc w2 h => by
          have := make25 kd (m : Int) M mm mc _ w2 h
          rw [HMK.out] at this
          exact this⟩
        clear hq HMK
        gi_wp2_with fail
        refine region_wide 23 [false, false, false, false, false, false, false, false, false, false, false, false, false, false, false, false, false, false, false, false, false, false, false] (by kernel_rfl) (by kernel_rfl) hmix (fun w' => w'.cell? (kad.add m) = some (.int .u8 (kd.toNat : Int)) ∧ w'.cell? (dad.add m) = some (.slice J q jc)) ⟨hck1, hcd1⟩ (fun hS => ?_)
        repeat (first
          | ((refine wpAnyH_take (i := 0) (oi := ⟨_, _, _, _, _, _⟩) (v := ?_) rfl (by kernel_rfl) (by decide +kernel) (by decide +kernel) (fun _ _ _ h => h) (Or.inl ⟨by rfl, ?_⟩) (by assumption) ?_); rotate_left; (focus (intro w hSw; (try dsimp only at hSw); go_simp; try with_reducible rfl)); simp only [Act.put, List.setIfInBounds_toArray, List.set_cons_zero, List.set_cons_succ])
          | ((refine wpAnyH_take (i := 1) (oi := ⟨_, _, _, _, _, _⟩) (v := ?_) rfl (by kernel_rfl) (by decide +kernel) (by decide +kernel) (fun _ _ _ h => h) (Or.inl ⟨by rfl, ?_⟩) (by assumption) ?_); rotate_left; (focus (intro w hSw; (try dsimp only at hSw); go_simp; try with_reducible rfl)); simp only [Act.put, List.setIfInBounds_toArray, List.set_cons_zero, List.set_cons_succ])
          | ((refine wpAnyH_take (i := 2) (oi := ⟨_, _, _, _, _, _⟩) (v := ?_) rfl (by kernel_rfl) (by decide +kernel) (by decide +kernel) (fun _ _ _ h => h) (Or.inl ⟨by rfl, ?_⟩) (by assumption) ?_); rotate_left; (focus (intro w hSw; (try dsimp only at hSw); go_simp; try with_reducible rfl)); simp only [Act.put, List.setIfInBounds_toArray, List.set_cons_zero, List.set_cons_succ])
          | ((refine wpAnyH_take (i := 3) (oi := ⟨_, _, _, _, _, _⟩) (v := ?_) rfl (by kernel_rfl) (by decide +kernel) (by decide +kernel) (fun _ _ _ h => h) (Or.inl ⟨by rfl, ?_⟩) (by assumption) ?_); rotate_left; (focus (intro w hSw; (try dsimp only at hSw); go_simp; try with_reducible rfl)); simp only [Act.put, List.setIfInBounds_toArray, List.set_cons_zero, List.set_cons_succ])
          | ((refine wpAnyH_take (i := 4) (oi := ⟨_, _, _, _, _, _⟩) (v := ?_) rfl (by kernel_rfl) (by decide +kernel) (by decide +kernel) (fun _ _ _ h => h) (Or.inl ⟨by rfl, ?_⟩) (by assumption) ?_); rotate_left; (focus (intro w hSw; (try dsimp only at hSw); go_simp; try with_reducible rfl)); simp only [Act.put, List.setIfInBounds_toArray, List.set_cons_zero, List.set_cons_succ])
          | ((refine wpAnyH_take (i := 5) (oi := ⟨_, _, _, _, _, _⟩) (v := ?_) rfl (by kernel_rfl) (by decide +kernel) (by decide +kernel) (fun _ _ _ h => h) (Or.inl ⟨by rfl, ?_⟩) (by assumption) ?_); rotate_left; (focus (intro w hSw; (try dsimp only at hSw); go_simp; try with_reducible rfl)); simp only [Act.put, List.setIfInBounds_toArray, List.set_cons_zero, List.set_cons_succ])
          | ((refine wpAnyH_take (i := 6) (oi := ⟨_, _, _, _, _, _⟩) (v := ?_) rfl (by kernel_rfl) (by decide +kernel) (by decide +kernel) (fun _ _ _ h => h) (Or.inl ⟨by rfl, ?_⟩) (by assumption) ?_); rotate_left; (focus (intro w hSw; (try dsimp only at hSw); go_simp; try with_reducible rfl)); simp only [Act.put, List.setIfInBounds_toArray, List.set_cons_zero, List.set_cons_succ])
          | ((refine wpAnyH_take (i := 7) (oi := ⟨_, _, _, _, _, _⟩) (v := ?_) rfl (by kernel_rfl) (by decide +kernel) (by decide +kernel) (fun _ _ _ h => h) (Or.inl ⟨by rfl, ?_⟩) (by assumption) ?_); rotate_left; (focus (intro w hSw; (try dsimp only at hSw); go_simp; try with_reducible rfl)); simp only [Act.put, List.setIfInBounds_toArray, List.set_cons_zero, List.set_cons_succ])
          | ((refine wpAnyH_take (i := 8) (oi := ⟨_, _, _, _, _, _⟩) (v := ?_) rfl (by kernel_rfl) (by decide +kernel) (by decide +kernel) (fun _ _ _ h => h) (Or.inl ⟨by rfl, ?_⟩) (by assumption) ?_); rotate_left; (focus (intro w hSw; (try dsimp only at hSw); go_simp; try with_reducible rfl)); simp only [Act.put, List.setIfInBounds_toArray, List.set_cons_zero, List.set_cons_succ])
          | ((refine wpAnyH_take (i := 9) (oi := ⟨_, _, _, _, _, _⟩) (v := ?_) rfl (by kernel_rfl) (by decide +kernel) (by decide +kernel) (fun _ _ _ h => h) (Or.inl ⟨by rfl, ?_⟩) (by assumption) ?_); rotate_left; (focus (intro w hSw; (try dsimp only at hSw); go_simp; try with_reducible rfl)); simp only [Act.put, List.setIfInBounds_toArray, List.set_cons_zero, List.set_cons_succ])
          | ((refine wpAnyH_take (i := 10) (oi := ⟨_, _, _, _, _, _⟩) (v := ?_) rfl (by kernel_rfl) (by decide +kernel) (by decide +kernel) (fun _ _ _ h => h) (Or.inl ⟨by rfl, ?_⟩) (by assumption) ?_); rotate_left; (focus (intro w hSw; (try dsimp only at hSw); go_simp; try with_reducible rfl)); simp only [Act.put, List.setIfInBounds_toArray, List.set_cons_zero, List.set_cons_succ])
          | ((refine wpAnyH_take (i := 11) (oi := ⟨_, _, _, _, _, _⟩) (v := ?_) rfl (by kernel_rfl) (by decide +kernel) (by decide +kernel) (fun _ _ _ h => h) (Or.inl ⟨by rfl, ?_⟩) (by assumption) ?_); rotate_left; (focus (intro w hSw; (try dsimp only at hSw); go_simp; try with_reducible rfl)); simp only [Act.put, List.setIfInBounds_toArray, List.set_cons_zero, List.set_cons_succ])
          | ((refine wpAnyH_take (i := 12) (oi := ⟨_, _, _, _, _, _⟩) (v := ?_) rfl (by kernel_rfl) (by decide +kernel) (by decide +kernel) (fun _ _ _ h => h) (Or.inl ⟨by rfl, ?_⟩) (by assumption) ?_); rotate_left; (focus (intro w hSw; (try dsimp only at hSw); go_simp; try with_reducible rfl)); simp only [Act.put, List.setIfInBounds_toArray, List.set_cons_zero, List.set_cons_succ])
          | ((refine wpAnyH_take (i := 13) (oi := ⟨_, _, _, _, _, _⟩) (v := ?_) rfl (by kernel_rfl) (by decide +kernel) (by decide +kernel) (fun _ _ _ h => h) (Or.inl ⟨by rfl, ?_⟩) (by assumption) ?_); rotate_left; (focus (intro w hSw; (try dsimp only at hSw); go_simp; try with_reducible rfl)); simp only [Act.put, List.setIfInBounds_toArray, List.set_cons_zero, List.set_cons_succ])
          | ((refine wpAnyH_take (i := 14) (oi := ⟨_, _, _, _, _, _⟩) (v := ?_) rfl (by kernel_rfl) (by decide +kernel) (by decide +kernel) (fun _ _ _ h => h) (Or.inl ⟨by rfl, ?_⟩) (by assumption) ?_); rotate_left; (focus (intro w hSw; (try dsimp only at hSw); go_simp; try with_reducible rfl)); simp only [Act.put, List.setIfInBounds_toArray, List.set_cons_zero, List.set_cons_succ])
          | ((refine wpAnyH_take (i := 15) (oi := ⟨_, _, _, _, _, _⟩) (v := ?_) rfl (by kernel_rfl) (by decide +kernel) (by decide +kernel) (fun _ _ _ h => h) (Or.inl ⟨by rfl, ?_⟩) (by assumption) ?_); rotate_left; (focus (intro w hSw; (try dsimp only at hSw); go_simp; try with_reducible rfl)); simp only [Act.put, List.setIfInBounds_toArray, List.set_cons_zero, List.set_cons_succ]))
        refine wpAnyH_ready (rs := [16]) (by decide +kernel) (by simp) ?_
        refine AllReadyH.cons rfl (fun K hKK => ?_) AllReadyH.nil
        go_wp2_with (go_at_call 24; refine (twin24 J q jc _ _ hrj1.drew (by omega)).mono ?_; rintro e w2 ⟨M, mm, mc, rfl, ho2, hb2⟩)
        clear hS
        refine hKK.out _ _ ⟨(hb2.cell hlk).trans hck1, (hb2.cell hld).trans hcd1⟩ (fun hS => ?_)
        clear hKK
        refine wpAnyH_ready (rs := [17]) (by decide +kernel) (by simp) ?_
        refine AllReadyH.cons rfl (fun K hKK => ?_) AllReadyH.nil
        go_simp
        refine (HM25.out M mm mc w2 ho2.rd).mono ?_
        rintro e w3 ⟨P, pn, pc, rfl, ho3, hb3⟩
        obtain rfl : pn = 256 := by rw [← ho3.len]; exact HML.out
        clear hS
        refine hKK.out _ _ ⟨(hb3.cell (Nat.lt_of_lt_of_le hlk hb2.size)).trans ((hb2.cell hlk).trans hck1), (hb3.cell (Nat.lt_of_lt_of_le hld hb2.size)).trans ((hb2.cell hld).trans hcd1)⟩ (fun hS => ?_)
        repeat (first
          | ((refine wpAnyH_take (i := 18) (oi := ⟨_, _, _, _, _, _⟩) (v := ?_) rfl (by kernel_rfl) (by decide +kernel) (by decide +kernel) (fun _ _ _ h => h) (Or.inl ⟨by rfl, ?_⟩) (by assumption) ?_); rotate_left; (focus (intro w hSw; (try dsimp only at hSw); go_simp; try with_reducible rfl)); simp only [Act.put, List.setIfInBounds_toArray, List.set_cons_zero, List.set_cons_succ])
          | ((refine wpAnyH_take (i := 19) (oi := ⟨_, _, _, _, _, _⟩) (v := ?_) rfl (by kernel_rfl) (by decide +kernel) (by decide +kernel) (fun _ _ _ h => h) (Or.inl ⟨by rfl, ?_⟩) (by assumption) ?_); rotate_left; (focus (intro w hSw; (try dsimp only at hSw); go_simp; try with_reducible rfl)); simp only [Act.put, List.setIfInBounds_toArray, List.set_cons_zero, List.set_cons_succ])
          | ((refine wpAnyH_take (i := 20) (oi := ⟨_, _, _, _, _, _⟩) (v := ?_) rfl (by kernel_rfl) (by decide +kernel) (by decide +kernel) (fun _ _ _ h => h) (Or.inl ⟨by rfl, ?_⟩) (by assumption) ?_); rotate_left; (focus (intro w hSw; (try dsimp only at hSw); go_simp; try with_reducible rfl)); simp only [Act.put, List.setIfInBounds_toArray, List.set_cons_zero, List.set_cons_succ])
          | ((refine wpAnyH_take (i := 21) (oi := ⟨_, _, _, _, _, _⟩) (v := ?_) rfl (by kernel_rfl) (by decide +kernel) (by decide +kernel) (fun _ _ _ h => h) (Or.inl ⟨by rfl, ?_⟩) (by assumption) ?_); rotate_left; (focus (intro w hSw; (try dsimp only at hSw); go_simp; try with_reducible rfl)); simp only [Act.put, List.setIfInBounds_toArray, List.set_cons_zero, List.set_cons_succ])
          | ((refine wpAnyH_take (i := 22) (oi := ⟨_, _, _, _, _, _⟩) (v := ?_) rfl (by kernel_rfl) (by decide +kernel) (by decide +kernel) (fun _ _ _ h => h) (Or.inl ⟨by rfl, ?_⟩) (by assumption) ?_); rotate_left; (focus (intro w hSw; (try dsimp only at hSw); go_simp; try with_reducible rfl)); simp only [Act.put, List.setIfInBounds_toArray, List.set_cons_zero, List.set_cons_succ]))
        refine done_only (by decide +kernel) ?_
        have hb23 : Below wr.heap.size wr w3 := ⟨hb3.os.trans hb2.os, hb3.tape.trans hb2.tape, hb3.output.trans hb2.output, Nat.le_trans hb2.size hb3.size, fun i hi => (hb3.block i (Nat.lt_of_lt_of_le hi hb2.size)).trans (hb2.block i hi)⟩
        have ho' := ho.below hb23
        have hb' := hb.trans (hb23.mono hb.size)
        clear hS ho2 hb2 hb3 hck1 hcd1 hlk hld
        gi_wp2_with (gi_at_builtin; refine wlIn_app8 rfl _ _ rfl rfl rfl ho' ho3.rd (by omega) (by have := hb'.size; omega) ?_; rintro v w4 ⟨A4, c4, rfl, ho4, hg4, _⟩)
        have hb4 := below_app hb' (by have := hb'.size; omega) ho' hg4
        go_roundw
        case rel => exact ⟨m + 1, A4, c4, by omega, by omega, by omega, rfl, by go_num, by go_num, by rw [HPS.out]; exact ho4, hb4⟩
        case measure => simp [intOf]; omega
    · have hend : Hd (¬ (m < kn ∧ m < dn ∧ m < 40)) := ⟨hlt⟩
      have hsplit : ¬ ((m : Int) < (kn : Int)) ∨ ((m : Int) < (kn : Int) ∧ ¬ ((m : Int) < (dn : Int))) ∨ ((m : Int) < (kn : Int) ∧ (m : Int) < (dn : Int) ∧ ¬ ((m : Int) < 40)) := by omega
      clear hlt
      have hwr : Below w.heap.size w wr := hB1.trans (hb.mono hB1.size)
      have r0 := boxed_below p0 hb
      have r1 := boxed_below p1 hb
      have r2 := boxed_below p2 hb
      have hsr := hb.size
      by_cases hm0 : m = 0
      · have hz : ((m : Int) == 0) = true := by rw [beq_iff_eq]; omega
        have c2 := r2.cell
        have f2 := r2.frozen
        rcases hsplit with h1 | ⟨h1, h2⟩ | ⟨h1, h2, h3⟩
        · gi_wp2
          refine ⟨.bool true, ?_, rfl, hwr.setCell (p := ⟨w.heap.size + 1 + 1, 0, none⟩) (by simp; omega) _⟩
          simp [results, Try.f6, go_sem, (r2.set (.bool true)).cell]
        · gi_wp2
          refine ⟨.bool true, ?_, rfl, hwr.setCell (p := ⟨w.heap.size + 1 + 1, 0, none⟩) (by simp; omega) _⟩
          simp [results, Try.f6, go_sem, (r2.set (.bool true)).cell]
        · exfalso; omega
      · have hz : ((m : Int) == 0) = false := by rw [beq_eq_false_iff_ne]; omega
        have hm0' : (0 : Int) < (m : Int) := by omega
        obtain ⟨x, hx, hx1⟩ := norm_ex a (m : Int) hm0'
        obtain ⟨y, hy, hy1⟩ := norm_ex b (m : Int) hm0'
        have ha1 := tmod_bd a (m : Int) hm0'
        have hb1 := tmod_bd b (m : Int) hm0'
        have hw1 : IntKind.i64.wrap (a.tmod (m : Int) + (m : Int)) = a.tmod (m : Int) + (m : Int) := IntWalk.i64_in _ (by omega)
        have hw2 : IntKind.i64.wrap (b.tmod (m : Int) + (m : Int)) = b.tmod (m : Int) + (m : Int) := IntWalk.i64_in _ (by omega)
        have hmix : Try.prog.follows .mixedOrders = true := by kernel_rfl
        obtain ⟨ad, u0, hA, _, _⟩ := ho.rd.at_ (k := 0) (by omega)
        subst hA
        have q0 := r0.cell; have q1 := r1.cell; have g0 := r0.frozen; have g1 := r1.frozen
        rcases hsplit with h1 | ⟨h1, h2⟩ | ⟨h1, h2, h3⟩
        all_goals
          gi_wp2_with fail
          apply wpIn_cut
          · gi_region_with_o (fail)
            all_goals exact ⟨rfl, rfl⟩
          · clear hx hy ha1 hb1 hw1 hw2 q0 q1 g0 g1 hz
            obtain ⟨Wc, hWc⟩ : ∃ Wc, ((wr.setCell ⟨w.heap.size, 0, none⟩ (.int .i64 (x : Int))).setCell ⟨w.heap.size + 1, 0, none⟩ (.int .i64 (y : Int))).drew = Wc := ⟨_, rfl⟩
            have t0 : Boxed Wc w.heap.size 3 (.int .i64 (x : Int)) := by rw [← hWc]; exact ((r0.set (.int .i64 (x : Int))).other (by omega) _).drew_
            have t1 : Boxed Wc (w.heap.size + 1) 3 (.int .i64 (y : Int)) := by rw [← hWc]; exact ((r1.other (by omega) _).set (.int .i64 (y : Int))).drew_
            have t2 : Boxed Wc (w.heap.size + 1 + 1) 4 (.bool false) := by rw [← hWc]; exact ((r2.other (by omega) _).other (by omega) _).drew_
            have toc : Own8 Wc w1.heap.size (some ad) (256 * m) c (pgs ks ds m) := by rw [← hWc]; exact ((ho.setFar (i := 0) (by omega) _).setFar (i := 0) (by omega) _).drew
            have tB : Below w.heap.size w Wc := by rw [← hWc]; exact ((hwr.setCell (p := ⟨w.heap.size, 0, none⟩) (Nat.le_refl _) _).setCell (p := ⟨w.heap.size + 1, 0, none⟩) (by simp) _).drew
            have tsz : wr.heap.size = Wc.heap.size := by rw [← hWc]; simp [World.setCell, World.drew]
            have hle := (Own8.le toc).1
            rw [hWc]
            clear hWc r0 r1 r2 ho
            have hrx := toc.rd.mid (a := 256 * x) (q := 256) (by omega)
            have hry := toc.rd.mid (a := 256 * y) (q := 256) (by omega)
            have hxm : x < m := by omega
            have hym : y < m := by omega
            have LX := blk_length (pgs ks ds m) x (by rw [pgs_length]; omega)
            have LY := blk_length (pgs ks ds m) y (by rw [pgs_length]; omega)
            have HLX := Hd.mk LX
            have HLY := Hd.mk LY
            simp only [Option.map_some] at hrx hry
            clear LX LY
            have q0 := t0.cell
            have q1 := t1.cell
            have s1x : IntKind.i64.wrap (256 * (x : Int)) = 256 * (x : Int) := IntWalk.i64_in _ (by omega)
            have s2x : IntKind.i64.wrap (256 * (x : Int) + 256) = 256 * (x : Int) + 256 := IntWalk.i64_in _ (by omega)
            have s3x : (0 : Int) ≤ 256 * (x : Int) := by omega
            have s4x : 256 * (x : Int) ≤ 256 * (x : Int) + 256 := by omega
            have s5x : 256 * (x : Int) + 256 ≤ (c : Int) := by omega
            have s6x : (256 * (x : Int)).toNat = 256 * x := by omega
            have s7x : (256 * (x : Int) + 256).toNat = 256 * x + 256 := by omega
            have s8x : 256 * x + 256 - 256 * x = 256 := by omega
            have s9x : ¬ c = 256 * x := by omega
            have s1y : IntKind.i64.wrap (256 * (y : Int)) = 256 * (y : Int) := IntWalk.i64_in _ (by omega)
            have s2y : IntKind.i64.wrap (256 * (y : Int) + 256) = 256 * (y : Int) + 256 := IntWalk.i64_in _ (by omega)
            have s3y : (0 : Int) ≤ 256 * (y : Int) := by omega
            have s4y : 256 * (y : Int) ≤ 256 * (y : Int) + 256 := by omega
            have s5y : 256 * (y : Int) + 256 ≤ (c : Int) := by omega
            have s6y : (256 * (y : Int)).toNat = 256 * y := by omega
            have s7y : (256 * (y : Int) + 256).toNat = 256 * y + 256 := by omega
            have s8y : 256 * y + 256 - 256 * y = 256 := by omega
            have s9y : ¬ c = 256 * y := by omega
            gi_wp2_with fail
            refine region_wide 18 [false, false, false, false, false, false, false, false, false, false, false, false, false, false, false, false, false, false] (by kernel_rfl) (by kernel_rfl) hmix (fun w' => w'.cell? ⟨w.heap.size, 0, none⟩ = some (.int .i64 (x : Int)) ∧ w'.cell? ⟨w.heap.size + 1, 0, none⟩ = some (.int .i64 (y : Int))) ⟨q0, q1⟩ (fun hS => ?_)
            repeat (first
              | ((refine wpAnyH_take (i := 0) (oi := ⟨_, _, _, _, _, _⟩) (v := ?_) rfl (by kernel_rfl) (by decide +kernel) (by decide +kernel) (fun _ _ _ h => h) (Or.inl ⟨by rfl, ?_⟩) (by assumption) ?_); rotate_left; (focus (intro w hSw; (try dsimp only at hSw); go_simp; try with_reducible rfl)); simp only [Act.put, List.setIfInBounds_toArray, List.set_cons_zero, List.set_cons_succ])
              | ((refine wpAnyH_take (i := 1) (oi := ⟨_, _, _, _, _, _⟩) (v := ?_) rfl (by kernel_rfl) (by decide +kernel) (by decide +kernel) (fun _ _ _ h => h) (Or.inl ⟨by rfl, ?_⟩) (by assumption) ?_); rotate_left; (focus (intro w hSw; (try dsimp only at hSw); go_simp; try with_reducible rfl)); simp only [Act.put, List.setIfInBounds_toArray, List.set_cons_zero, List.set_cons_succ])
              | ((refine wpAnyH_take (i := 2) (oi := ⟨_, _, _, _, _, _⟩) (v := ?_) rfl (by kernel_rfl) (by decide +kernel) (by decide +kernel) (fun _ _ _ h => h) (Or.inl ⟨by rfl, ?_⟩) (by assumption) ?_); rotate_left; (focus (intro w hSw; (try dsimp only at hSw); go_simp; try with_reducible rfl)); simp only [Act.put, List.setIfInBounds_toArray, List.set_cons_zero, List.set_cons_succ])
              | ((refine wpAnyH_take (i := 3) (oi := ⟨_, _, _, _, _, _⟩) (v := ?_) rfl (by kernel_rfl) (by decide +kernel) (by decide +kernel) (fun _ _ _ h => h) (Or.inl ⟨by rfl, ?_⟩) (by assumption) ?_); rotate_left; (focus (intro w hSw; (try dsimp only at hSw); go_simp; try with_reducible rfl)); simp only [Act.put, List.setIfInBounds_toArray, List.set_cons_zero, List.set_cons_succ])
              | ((refine wpAnyH_take (i := 4) (oi := ⟨_, _, _, _, _, _⟩) (v := ?_) rfl (by kernel_rfl) (by decide +kernel) (by decide +kernel) (fun _ _ _ h => h) (Or.inl ⟨by rfl, ?_⟩) (by assumption) ?_); rotate_left; (focus (intro w hSw; (try dsimp only at hSw); go_simp; try with_reducible rfl)); simp only [Act.put, List.setIfInBounds_toArray, List.set_cons_zero, List.set_cons_succ])
              | ((refine wpAnyH_take (i := 5) (oi := ⟨_, _, _, _, _, _⟩) (v := ?_) rfl (by kernel_rfl) (by decide +kernel) (by decide +kernel) (fun _ _ _ h => h) (Or.inl ⟨by rfl, ?_⟩) (by assumption) ?_); rotate_left; (focus (intro w hSw; (try dsimp only at hSw); go_simp; try with_reducible rfl)); simp only [Act.put, List.setIfInBounds_toArray, List.set_cons_zero, List.set_cons_succ])
              | ((refine wpAnyH_take (i := 6) (oi := ⟨_, _, _, _, _, _⟩) (v := ?_) rfl (by kernel_rfl) (by decide +kernel) (by decide +kernel) (fun _ _ _ h => h) (Or.inl ⟨by rfl, ?_⟩) (by assumption) ?_); rotate_left; (focus (intro w hSw; (try dsimp only at hSw); go_simp; try with_reducible rfl)); simp only [Act.put, List.setIfInBounds_toArray, List.set_cons_zero, List.set_cons_succ])
              | ((refine wpAnyH_take (i := 8) (oi := ⟨_, _, _, _, _, _⟩) (v := ?_) rfl (by kernel_rfl) (by decide +kernel) (by decide +kernel) (fun _ _ _ h => h) (Or.inl ⟨by rfl, ?_⟩) (by assumption) ?_); rotate_left; (focus (intro w hSw; (try dsimp only at hSw); go_simp; try with_reducible rfl)); simp only [Act.put, List.setIfInBounds_toArray, List.set_cons_zero, List.set_cons_succ])
              | ((refine wpAnyH_take (i := 9) (oi := ⟨_, _, _, _, _, _⟩) (v := ?_) rfl (by kernel_rfl) (by decide +kernel) (by decide +kernel) (fun _ _ _ h => h) (Or.inl ⟨by rfl, ?_⟩) (by assumption) ?_); rotate_left; (focus (intro w hSw; (try dsimp only at hSw); go_simp; try with_reducible rfl)); simp only [Act.put, List.setIfInBounds_toArray, List.set_cons_zero, List.set_cons_succ])
              | ((refine wpAnyH_take (i := 10) (oi := ⟨_, _, _, _, _, _⟩) (v := ?_) rfl (by kernel_rfl) (by decide +kernel) (by decide +kernel) (fun _ _ _ h => h) (Or.inl ⟨by rfl, ?_⟩) (by assumption) ?_); rotate_left; (focus (intro w hSw; (try dsimp only at hSw); go_simp; try with_reducible rfl)); simp only [Act.put, List.setIfInBounds_toArray, List.set_cons_zero, List.set_cons_succ])
              | ((refine wpAnyH_take (i := 11) (oi := ⟨_, _, _, _, _, _⟩) (v := ?_) rfl (by kernel_rfl) (by decide +kernel) (by decide +kernel) (fun _ _ _ h => h) (Or.inl ⟨by rfl, ?_⟩) (by assumption) ?_); rotate_left; (focus (intro w hSw; (try dsimp only at hSw); go_simp; try with_reducible rfl)); simp only [Act.put, List.setIfInBounds_toArray, List.set_cons_zero, List.set_cons_succ])
              | ((refine wpAnyH_take (i := 12) (oi := ⟨_, _, _, _, _, _⟩) (v := ?_) rfl (by kernel_rfl) (by decide +kernel) (by decide +kernel) (fun _ _ _ h => h) (Or.inl ⟨by rfl, ?_⟩) (by assumption) ?_); rotate_left; (focus (intro w hSw; (try dsimp only at hSw); go_simp; try with_reducible rfl)); simp only [Act.put, List.setIfInBounds_toArray, List.set_cons_zero, List.set_cons_succ])
              | ((refine wpAnyH_take (i := 13) (oi := ⟨_, _, _, _, _, _⟩) (v := ?_) rfl (by kernel_rfl) (by decide +kernel) (by decide +kernel) (fun _ _ _ h => h) (Or.inl ⟨by rfl, ?_⟩) (by assumption) ?_); rotate_left; (focus (intro w hSw; (try dsimp only at hSw); go_simp; try with_reducible rfl)); simp only [Act.put, List.setIfInBounds_toArray, List.set_cons_zero, List.set_cons_succ])
              | ((refine wpAnyH_take (i := 14) (oi := ⟨_, _, _, _, _, _⟩) (v := ?_) rfl (by kernel_rfl) (by decide +kernel) (by decide +kernel) (fun _ _ _ h => h) (Or.inl ⟨by rfl, ?_⟩) (by assumption) ?_); rotate_left; (focus (intro w hSw; (try dsimp only at hSw); go_simp; try with_reducible rfl)); simp only [Act.put, List.setIfInBounds_toArray, List.set_cons_zero, List.set_cons_succ]))
            refine wpAnyH_ready (rs := [7]) (by decide +kernel) (by simp) ?_
            refine AllReadyH.cons rfl (fun K hKK => ?_) AllReadyH.nil
            go_simp
            refine (twin24 _ 256 _ _ _ hrx.drew (by omega)).mono ?_
            rintro e w2 ⟨X, xn, xc, rfl, ho2, hb2⟩
            obtain rfl : xn = 256 := by rw [← ho2.len]; exact HLX.out
            clear hS
            refine hKK.out _ _ ⟨(boxed_below t0.drew_ hb2).cell, (boxed_below t1.drew_ hb2).cell⟩ (fun hS => ?_)
            clear hKK
            refine wpAnyH_ready (rs := [15]) (by decide +kernel) (by simp) ?_
            refine AllReadyH.cons rfl (fun K hKK => ?_) AllReadyH.nil
            go_simp
            refine (twin24 _ 256 _ _ _ (hry.drew.below hb2) (by omega)).mono ?_
            rintro e w3 ⟨Y, yn, yc, rfl, ho3, hb3⟩
            obtain rfl : yn = 256 := by rw [← ho3.len]; exact HLY.out
            clear hS
            refine hKK.out _ _ ⟨(boxed_below (boxed_below t0.drew_ hb2) hb3).cell, (boxed_below (boxed_below t1.drew_ hb2) hb3).cell⟩ (fun hS => ?_)
            clear hKK
            repeat (first
              | ((refine wpAnyH_take (i := 16) (oi := ⟨_, _, _, _, _, _⟩) (v := ?_) rfl (by kernel_rfl) (by decide +kernel) (by decide +kernel) (fun _ _ _ h => h) (Or.inl ⟨by rfl, ?_⟩) (by assumption) ?_); rotate_left; (focus (intro w hSw; (try dsimp only at hSw); go_simp; try with_reducible rfl)); simp only [Act.put, List.setIfInBounds_toArray, List.set_cons_zero, List.set_cons_succ])
              | ((refine wpAnyH_take (i := 17) (oi := ⟨_, _, _, _, _, _⟩) (v := ?_) rfl (by kernel_rfl) (by decide +kernel) (by decide +kernel) (fun _ _ _ h => h) (Or.inl ⟨by rfl, ?_⟩) (by assumption) ?_); rotate_left; (focus (intro w hSw; (try dsimp only at hSw); go_simp; try with_reducible rfl)); simp only [Act.put, List.setIfInBounds_toArray, List.set_cons_zero, List.set_cons_succ]))
            refine done_only (by decide +kernel) ?_
            have hb23 : Below Wc.heap.size Wc w3 := ⟨hb3.os.trans hb2.os, hb3.tape.trans hb2.tape, hb3.output.trans hb2.output, Nat.le_trans hb2.size hb3.size, fun i hi => (hb3.block i (Nat.lt_of_lt_of_le hi hb2.size)).trans (hb2.block i hi)⟩
            have v0 := boxed_below t0 hb23
            have v1 := boxed_below t1 hb23
            have v2 := boxed_below t2 hb23
            have vo := toc.below hb23
            have vB := tB.trans (hb23.mono tB.size)
            have vX : Own8 w3 Wc.heap.size X 256 xc (blk (pgs ks ds m) x) := ho2.below hb3
            have vY : Own8 w3 w2.heap.size Y 256 yc (blk (pgs ks ds m) y) := ho3
            have hMb : Hd (∀ g, ownBlk (some ad) c = some g → w1.heap.size ≤ g ∧ g < Wc.heap.size) := ⟨fun g hg => toc.lt hg⟩
            have hw23 := hb2.size
            have hw23' : Wc.heap.size ≤ w2.heap.size := hw23
            have hw33 := hb3.size
            have hwc1 : w.heap.size + 3 ≤ Wc.heap.size := by omega
            clear hS ho2 hb2 hb3 t0 t1 t2 toc tB ho3 q0 q1 hb23
            have q0 := v0.cell
            have HML1 : Hd ((pgs ks ds m).take (256 * x) ++ (blk (pgs ks ds m) y).take (min 256 (256 * m - 256 * x)) ++ (pgs ks ds m).drop (256 * x + min 256 (256 * m - 256 * x)) = laid (pgs ks ds m) x (blk (pgs ks ds m) y)) := ⟨by
              rw [show min 256 (256 * m - 256 * x) = 256 by omega, List.take_of_length_le (l := blk (pgs ks ds m) y) (by rw [HLY.out]; omega)]; rfl⟩
            have HML2 : Hd ((laid (pgs ks ds m) x (blk (pgs ks ds m) y)).take (256 * y) ++ (blk (pgs ks ds m) x).take (min 256 (256 * m - 256 * y)) ++ (laid (pgs ks ds m) x (blk (pgs ks ds m) y)).drop (256 * y + min 256 (256 * m - 256 * y)) = swp (pgs ks ds m) x y) := ⟨by
              rw [show min 256 (256 * m - 256 * y) = 256 by omega, List.take_of_length_le (l := blk (pgs ks ds m) x) (by rw [HLX.out]; omega)]; rfl⟩
            gi_wp2_with (first
              | (with_reducible show wpListIn _ _ _ _ _ _ _ _; refine wlIn_copy8_mid (p := 256 * x) rfl (.tmp 106) (.tmp 107) rfl rfl rfl rfl vo vY.rd (by omega) (by omega) ?_; intro w4 vo4 hg4; rw [HML1.out] at vo4; have v14 := v1.kept hg4 (fun e => by have := (hMb.out _ e.symm).1; omega); have q14 := v14.cell)
              | (with_reducible show wpListIn _ _ _ _ _ _ _ _; refine wlIn_copy8_mid (p := 256 * y) rfl (.tmp 112) (.tmp 113) rfl rfl rfl rfl vo4 (vX.grown hg4 (fun g hg e => by have h1 := (hMb.out _ e).2; have h2 := (vX.lt hg).1; omega)).rd (by omega) (by omega) ?_; intro w5 vo5 hg5; rw [HML2.out] at vo5)
              | (refine ⟨trivial, ?_⟩; gi_at_call 33; refine (each33 _ _ trivial rfl (some ad) (256 * m) c w5).mono ?_; rintro e w6 ⟨rfl, rfl⟩; have hnil := run_eql_func_nil (P := Try.prog) (w5.alloc (Obj.cells #[Value.slice (some ad) (256 * m) c] 22)) 42 (.func 93) #[] #[.pointer (some ⟨w5.heap.size, 0, none⟩)] Try.underlying42))
            have vr0 := (v0.kept hg4 (fun e => by have := (hMb.out _ e.symm).1; omega)).kept hg5 (fun e => by have := (hMb.out _ e.symm).1; omega)
            have vr1 := v14.kept hg5 (fun e => by have := (hMb.out _ e.symm).1; omega)
            have vr2 := (v2.kept hg4 (fun e => by have := (hMb.out _ e.symm).1; omega)).kept hg5 (fun e => by have := (hMb.out _ e.symm).1; omega)
            have vB5 := (vB.grown hg4 (by omega) (fun k e => by have := (hMb.out _ e).1; omega)).grown hg5 (by have := hg4.size; omega) (fun k e => by have := (hMb.out _ e).1; omega)
            have hs45 : Wc.heap.size ≤ w5.heap.size := by have := hg4.size; have := hg5.size; omega
            clear hnil vo v0 v1 v2 vB vX vY hg4 hg5 vo4 v14 q14 q0 hw23 hw23' hw33
            obtain ⟨W8, hW8⟩ : ∃ W8, ((w5.alloc (.cells #[.slice (some ad) (256 * m) c] 22)).alloc (.cells #[.int .i64 0] 3)) = W8 := ⟨_, rfl⟩
            have hC8 : C6 w.heap.size w1.heap.size w5.heap.size ad (256 * m) c (swp (pgs ks ds m) x y) x y 0 W8 ∧ Below w.heap.size w W8 := by
              rw [← hW8]
              have hk := Boxed.new (w5.alloc (.cells #[.slice (some ad) (256 * m) c] 22)) 3 (.int .i64 0)
              simp only [World.size_alloc] at hk
              exact ⟨⟨(vr0.alloc _).alloc _, (vr1.alloc _).alloc _, (vr2.alloc _).alloc _, (Boxed.new w5 22 _).alloc _, hk, (vo5.alloc _).alloc _, by simp⟩, (vB5.alloc (by omega) _).alloc (by simp; omega) _⟩
            have hs8 : W8.heap.size = w5.heap.size + 2 := by rw [← hW8]; simp
            clear vr0 vr1 vr2 vB5 vo5
            rw [hW8]
            clear hW8
            have hcell8 := hC8.1.2.2.2.1.cell
            have hrd8 := hC8.1.2.2.2.2.2.1.rd
            have HTL := Hd.mk (swp_told ks ds m x y (by omega) hxm hym)
            have hclo : Hd (256 * m ≤ c) := ⟨hle⟩
            refine rangeG2 (p1 := 120) (p2 := 121) rfl (by omega) (gf := 93) (lb := #[.pointer (some ⟨w5.heap.size, 0, none⟩)]) rfl trivial (enters_of Try.func93 (by kernel_rfl) rfl)
              (each_seq 8 (by omega) w5.heap.size (some ad) (256 * m) c (swp (pgs ks ds m) x y) W8 (by omega) hcell8 hrd8 (by omega) hle) KBook.tr kbook_b (Below.refl _ _) (fun _ h => h.elim) ownG_true ownG_true
              (fun x : Tell => .int .i64 x.i) (fun x : Tell => .int .i64 (x.e : Int)) rfl (fun x t => (t.setIfInBounds 18 (.int .i64 x.i)).setIfInBounds 19 (.int .i64 (x.e : Int)))
              (fun pre W => C6 w.heap.size w1.heap.size w5.heap.size ad (256 * m) c (swp (pgs ks ds m) x y) x y pre.length W ∧ Below w.heap.size w W) (fun _ _ _ => False)
              (OwnG.and c6_own (ownG_below (Nat.le_refl _) (by omega) (fun _ h => h.elim)))
              (fun _ _ _ _ _ h _ _ => h) hC8 ?assign ?body ?done ?stop
            case assign =>
              intro r z W K hK
              gi_wp2
              exact hK
            case stop =>
              intro Dd cc pre W _ _ h _ _
              exact h.elim
            case body =>
              rintro r pre z W ⟨⟨u0, u1, u2, ue, uk, uo, us⟩, hB⟩ hp
              rw [HTL.out] at hp
              obtain ⟨rfl, hlt⟩ := prefix_range _ hp
              generalize hkk : pre.length = k at *
              have HKK : Hd ((pre ++ [(⟨(k : Int), errK x y k⟩ : Tell)]).length = k + 1) := ⟨by simp [hkk]⟩
              have cu0 := u0.cell; have cu1 := u1.cell; have cuk := uk.cell; have fuk := uk.frozen
              have fin : ∀ W', W' = W.setCell ⟨w5.heap.size + 1, 0, none⟩ (.int .i64 ((k : Int) + 1)) → KeepsOthers W W' ∧ KBook w5.heap.size (some ad) (256 * m) (swp (pgs ks ds m) x y) W W' ∧ C6 w.heap.size w1.heap.size w5.heap.size ad (256 * m) c (swp (pgs ks ds m) x y) x y (pre ++ [(⟨(k : Int), errK x y k⟩ : Tell)]).length W' ∧ Below w.heap.size w W' := by
                rintro W' rfl
                have hx' : ∀ {B t v}, Boxed W B t v → B ≠ w5.heap.size + 1 → Boxed (W.setCell ⟨w5.heap.size + 1, 0, none⟩ (.int .i64 ((k : Int) + 1))) B t v := fun hb hne => hb.other hne _
                have hoa : Own8 (W.setCell ⟨w5.heap.size + 1, 0, none⟩ (.int .i64 ((k : Int) + 1))) w1.heap.size (some ad) (256 * m) c (swp (pgs ks ds m) x y) := uo.grown (grownBy_setCell' _ _ _) (fun g hg e => by have := (hMb.out g hg).2; injection e with e; omega)
                have hka : Boxed (W.setCell ⟨w5.heap.size + 1, 0, none⟩ (.int .i64 ((k : Int) + 1))) (w5.heap.size + 1) 3 (.int .i64 ((k + 1 : Nat) : Int)) := uk.set _
                refine ⟨KeepsOthers.setCell _ _ _, ⟨?_, fun _ => hoa.rd⟩, ?_, ?_⟩
                · intro v hv
                  rw [ue.cell] at hv
                  cases hv
                  exact (hx' ue (by omega)).cell
                · rw [HKK.out]
                  exact ⟨hx' u0 (by omega), hx' u1 (by omega), hx' u2 (by omega), hx' ue (by omega), hka, hoa, by simp; omega⟩
                · exact hB.setCell (p := ⟨w5.heap.size + 1, 0, none⟩) (by simp; omega) _
              generalize hev : errK x y k = ev at *
              have HFIN := Hd.mk fin
              clear fin hp hkk HKK
              have hmb : ∀ (p q : Nat), p ≠ q → ((p : Int) != (q : Int)) = true ∧ ((p : Int) == (q : Int)) = false := fun p q h => ⟨by simp; omega, by rw [beq_eq_false_iff_ne]; omega⟩
              by_cases hxy : x = y
              · subst hxy
                have hev0 : ev = 0 := by rw [← hev]; exact errK_eq x k
                subst hev0
                have f1 : ((x : Int) == (x : Int)) = true := by simp
                have f2 : ((k : Int) != (k : Int)) = false := by simp
                clear hmb hev
                gi_wp2
                exact HFIN.out _ rfl
              · have f1 := (hmb x y hxy).2
                have f2 : ((k : Int) != (k : Int)) = false := by simp
                by_cases hkx : k = x
                · subst hkx
                  have hev0 : ev = 192 := by rw [← hev]; exact errK_a k y hxy
                  subst hev0
                  clear hmb hev hxy
                  gi_wp2
                  exact HFIN.out _ rfl
                · by_cases hky : k = y
                  · subst hky
                    have hev0 : ev = 192 := by rw [← hev]; exact errK_b x k hxy
                    subst hev0
                    have f3 := (hmb k x hkx).1
                    clear hmb hev hxy hkx
                    gi_wp2
                    exact HFIN.out _ rfl
                  · have hev0 : ev = 0 := by rw [← hev]; exact errK_o x y k hkx hky
                    subst hev0
                    have f3 := (hmb k x hkx).1
                    have f4 := (hmb k y hky).1
                    clear hmb hev hxy hkx hky
                    gi_wp2
                    exact HFIN.out _ rfl
            case done =>
              rintro D2 W hD2 ⟨⟨u0, u1, u2, ue, uk, uo, us⟩, hB⟩ _ hK2
              have hll : (told (swp (pgs ks ds m) x y)).length = m := by rw [HTL.out]; simp
              rw [hll] at uk
              have cuk := uk.cell; have cu2 := u2.cell; have fu2 := u2.frozen
              have f1 : ((m : Int) == (m : Int)) = true := by simp
              clear hll
              gi_wp2
              have x2 : (W.setCell ⟨w.heap.size + 1 + 1, 0, none⟩ (.bool true)).heap[D2]? = some (.deferred (some [])) := (KeepsOthers.setCell W _ _).same D2 _ hK2 rfl
              refine ⟨by simp, .inl ⟨_, _, rfl, run_takeDeferred x2, ?_⟩⟩
              have hc := cell_kept (u2.set (.bool true)).cell (grownBy_putObj' _ D2 (.deferred none)) (fun r e => by cases e; exact ⟨_, x2, rfl⟩)
              refine ⟨.bool true, ?_, rfl, ?_⟩
              · simp [results, Try.f6, go_sem, hc]
              · exact (hB.setCell (p := ⟨w.heap.size + 1 + 1, 0, none⟩) (by simp; omega) (.bool true)).trans (belowK_b (w := w) (Nat.le_refl _) _ D2 _ (.deferred none) (by omega) x2 rfl rfl)

end Go.Proofs.Ytkgdcglnkodgnaa
