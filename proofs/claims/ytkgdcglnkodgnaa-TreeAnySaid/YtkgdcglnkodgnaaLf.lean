/-
  tree's walker: leaves, told to a round. No condition but sizes.
-/
import Derived.Test.YtkgdcglnkodgnaaCk
import Derived.Test.YtkgdcglnkodgnaaRng
import Derived.OwnWalkIn
import Derived.TacticsInMore
import Derived.LoopNIn
import Derived.LoopIn
import Derived.Sort.CutIn
namespace Go.Proofs.Ytkgdcglnkodgnaa
open Go.RowKit
attribute [local go_sem] Oper.semAt_some
/-- A walker in memory. -/
def WlkAt (w : World) (g : Nat) (A : Option Addr) (n c : Nat) (kind : UInt8) (key : ByteArray) (s : Wk) (e : Nat) : Prop :=
  w.heap[g]? = some (.cells #[.slice A n c, .int .u8 (kind.toNat : Int), .string key, .string s.2, .int .i64 (s.1 : Int), .int .i64 (e : Int)] 179 (0, 0))
theorem wlk_load {w : World} {g : Nat} {a b c d e f : Value} (h : w.heap[g]? = some (.cells #[a, b, c, d, e, f] 179 (0, 0))) :
    w.cell? ⟨g, 0, none⟩ = some a ∧ w.cell? ⟨g, 1, none⟩ = some b ∧ w.cell? ⟨g, 2, none⟩ = some c ∧ w.cell? ⟨g, 3, none⟩ = some d ∧ w.cell? ⟨g, 4, none⟩ = some e ∧ w.cell? ⟨g, 5, none⟩ = some f :=
  ⟨(cell_of_row _ _ 0 _ _ _ h).trans rfl, (cell_of_row _ _ 1 _ _ _ h).trans rfl, (cell_of_row _ _ 2 _ _ _ h).trans rfl, (cell_of_row _ _ 3 _ _ _ h).trans rfl, (cell_of_row _ _ 4 _ _ _ h).trans rfl, (cell_of_row _ _ 5 _ _ _ h).trans rfl⟩
/-- A leaf as it is told. -/
def EncL (x : List Kp) (vals : Array Value) (C : Nat → Prop) (W : World) : Prop :=
  ∃ A n c, vals = #[.slice A n c] ∧ RdK W A n x ∧ n ≤ 256 ∧ n ≤ c ∧ (0 < n → ∀ ad, A = some ad → ¬ C ad.block ∧ ad.block < W.heap.size)
def edgeV (b : Bool) : Int := if b = true then 1 else 0
abbrev Inv := List (List Kp) → (Nat → Prop) → World → Prop
/-- What a round does with a leaf. -/
def YieldsL (q y : Nat) (J Jx : Inv) (L : List (List Kp)) : Prop :=
  ∀ pre x vals C W1, J pre C W1 → pre ++ [x] <+: L → EncL x vals C W1 → (∀ k, C k → k < W1.heap.size) → YieldAt Fence.wide (q - 1) Try.prog y vals W1 fun e W' =>
    ((e = .returned (.bool true) ∧ J (pre ++ [x]) (up C W1 W') W') ∨ (e = .returned (.bool false) ∧ Jx (pre ++ [x]) (up C W1 W') W')) ∧ Tch C W1 W'
/-- What a walk answers. -/
def RetW (gw : Nat) (A : Option Addr) (n c : Nat) (l : List UInt8) (kind : UInt8) (key : ByteArray) (J Jx : Inv) (L pre : List (List Kp)) (C : Nat → Prop) (W : World) (x : WR) (e : Ending) (W' : World) : Prop :=
  ∃ C' : Nat → Prop, (∀ k, C' k → C k ∨ W.heap.size ≤ k) ∧ (∀ k, C' k → k < W'.heap.size) ∧ Rd8 W' A n l ∧ Tch (fun k => k = gw ∨ C k) W W' ∧
    ((e = .returned (.bool (x.2.2 == 0)) ∧ J (pre ++ x.1) C' W' ∧ WlkAt W' gw A n c kind key x.2.1 x.2.2) ∨
     (e = .returned (.bool false) ∧ ∃ pre' s', pre' <+: L ∧ Jx pre' C' W' ∧ WlkAt W' gw A n c kind key s' 0))
section
variable {b : List UInt8} {kind : UInt8} {key : ByteArray} {f : Nat} {number level m : Int} {er : Nat} {ps : List Kp} {edge : Bool} {s : Wk}
theorem leavesK_err (h : readK b kind number level = (er, m, ps)) (he : er ≠ 0) : leavesK b kind key (f + 1) number level edge s = ([], s, er) := by
  rw [leavesK, h, if_pos he]
theorem leavesK_bad (h : readK b kind number level = (0, 0, ps)) (h2 : 0 < s.1 ∧ headLe ps s.2 = true) : leavesK b kind key (f + 1) number level edge s = ([], s, 202) := by
  rw [leavesK, h, if_neg (by simp)]
  simp only
  rw [if_pos trivial, if_pos h2]
theorem leavesK_leaf (h : readK b kind number level = (0, 0, ps)) (h2 : ¬ (0 < s.1 ∧ headLe ps s.2 = true)) : leavesK b kind key (f + 1) number level edge s = ([ps], (s.1 + 1, lastD ps s.2), 0) := by
  rw [leavesK, h, if_neg (by simp)]
  simp only
  rw [if_pos trivial, if_neg h2]
theorem leavesK_over (h : readK b kind number level = (0, m, ps)) (h2 : ¬ m = 0) : leavesK b kind key (f + 1) number level edge s =
    overL (fun number' edge s => leavesK b kind key f number' (m - 1) edge s) edge (ps.drop (if edge = true then behindK key ps - 1 else 0)) s := by
  rw [leavesK, h, if_neg (by simp)]
  simp only
  rw [if_neg h2]
end
theorem Rd8.tch' {w w' : World} {A : Option Addr} {n : Nat} {l : List UInt8} {F : Nat → Prop} (h : Rd8 w A n l) (ht : Tch F w w') (hne : ∀ ad, A = some ad → ¬ F ad.block) : Rd8 w' A n l := by
  refine ⟨h.1, fun hn => ?_⟩
  obtain ⟨ad, hA, hc⟩ := h.2 hn
  refine ⟨ad, hA, fun j u hu => (World.cell?_of_block ?_).trans (hc j u hu)⟩
  have := cell_lt (hc j u hu)
  rw [block_add] at this ⊢
  exact ht.block _ this (hne ad hA)
theorem RdK.tch' {w w' : World} {A : Option Addr} {n : Nat} {l : List Kp} {F : Nat → Prop} (h : RdK w A n l) (ht : Tch F w w') (hne : ∀ ad, A = some ad → ¬ F ad.block) : RdK w' A n l := by
  refine ⟨h.1, fun hn => ?_⟩
  obtain ⟨ad, hA, hc⟩ := h.2 hn
  refine ⟨ad, hA, fun j u hu => (World.cell?_of_block ?_).trans (hc j u hu)⟩
  have := cell_lt (hc j u hu)
  rw [block_add] at this ⊢
  exact ht.block _ this (hne ad hA)
theorem region_zoneW {P : Program} {ops : Array Oper} {Q : Exit → Act → World → Prop} {id N : Nat} {a : Act} {w : World} (k : Nat) (ls : List Bool) (hk : ops.size = k) (hl : ls = List.replicate k false) (hm : P.follows .mixedOrders = true) (S : World → Prop) (Z : List Nat) (hS : S w.drew)
    (h : S w.drew → wpAnyZ P .any ops (onlyN Q) S Z k ls.toArray a w.drew) : (Code.region id ops true).wpIn Fence.wide N P Q a w := wpIn_wide.2 (region_zone k ls hk hl hm S Z hS h)
theorem AbidesC.below {β : Type} {B : Nat} {G : Nat → Prop} {J : β → (Nat → Prop) → World → Prop} (h : AbidesC B G J) {s : β} {C : Nat → Prop} {W W' : World} (hb : Below W.heap.size W W') (hs : J s C W) : J s C W' :=
  h s C W W' none hs ⟨hb.os, hb.tape, hb.output, hb.size, fun i hi _ => hb.block i hi⟩ (fun r e => by cases e)
theorem AbidesC.set {β : Type} {B g i : Nat} {G : Nat → Prop} {v : Value} {J : β → (Nat → Prop) → World → Prop} (h : AbidesC B G J) {s : β} {C : Nat → Prop} {W : World} (hs : J s C W) (hC : ¬ C g) (hG : B ≤ g ∨ G g) : J s C (W.setCell ⟨g, i, none⟩ v) :=
  h s C W _ (some g) hs (grown_cell v) (fun r e => by cases e; exact ⟨hC, hG⟩)
theorem AbidesC.drew {β : Type} {B : Nat} {G : Nat → Prop} {J : β → (Nat → Prop) → World → Prop} (h : AbidesC B G J) {s : β} {C : Nat → Prop} {W : World} (hs : J s C W) : J s C W.drew := h.below (below_drew W) hs
set_option maxRecDepth 100000 in
set_option maxHeartbeats 8000000 in
theorem leaves161 (q y gw : Nat) (hq : 1 ≤ q) (A : Option Addr) (n c : Nat) (l : List UInt8) (kind : UInt8) (key : ByteArray) (hn : n ≤ 140737488355328) (hnc : n ≤ c) (hA : ∀ ad, A = some ad → ad.block ≠ gw)
    (B0 : Nat) (J Jx : Inv) (L : List (List Kp)) (hJ : AbidesC B0 (fun k => k = gw) J) (hJx : AbidesC B0 (fun k => k = gw) Jx) (hY : YieldsL q y J Jx L) :
    ∀ (f : Nat) (number level : Int) (edge : Bool) (s : Wk) (pre : List (List Kp)) (C : Nat → Prop) (w : World), WlkAt w gw A n c kind key s 0 → Rd8 w A n l → J pre C w → (∀ k, C k → k < w.heap.size) → ¬ C gw → (∀ ad, A = some ad → ¬ C ad.block ∧ ad.block < w.heap.size) →
      GoodW l kind s → -9223372036854775808 ≤ number → number ≤ 9223372036854775807 → (level = -1 ∧ f = 14 ∨ 0 ≤ level ∧ level < f ∧ f ≤ 13) → pre ++ (leavesK l kind key f number level edge s).1 <+: L →
      Calls Try.prog 161 #[.pointer (some ⟨gw, 0, none⟩), .int .i64 number, .int .i64 level, .int .i64 (edgeV edge), .func (.yield y) #[] #[]] w (RetW gw A n c l kind key J Jx L pre C w (leavesK l kind key f number level edge s))
  | 0, number, level, edge, s, pre, C, w, _, _, _, _, _, _, _, _, _, hf, _ => absurd hf (by omega)
  | f + 1, number, level, edge, s, pre, C, w, hc, h, hj, hCl, hCg, hCA, hgood, hlo, hhi, hf, hpre => by
    obtain ⟨some', last⟩ := s
    have HIH := Hd.mk (leaves161 q y gw hq A n c l kind key hn hnc hA B0 J Jx L hJ hJx hY f)
    have hmix := try_mixed
    have hgl := Hd.mk (Array.getElem?_eq_some_iff.1 hc).1
    obtain ⟨er, m, ps, hr⟩ : ∃ er m ps, Hd (readK l kind number level = (er, m, ps)) := ⟨_, _, _, ⟨rfl⟩⟩
    have HR : ∀ w : World, Rd8 w A n l → Hd (Calls Try.prog 112 #[.slice A n c, .int .u8 (kind.toNat : Int), .int .i64 number, .int .i64 level] w (RetN w (er, m, ps))) := fun w h => ⟨by rw [← hr.out]; exact read112 A n c l kind number level w h hn hnc hlo hhi⟩
    have HS := Hd.mk (show w.heap[gw]? = some (.cells #[.slice A n c, .int .u8 (kind.toNat : Int), .string key, .string last, .int .i64 (some' : Int), .int .i64 0] 179 (0, 0)) from hc)
    have HD := Hd.mk h
    have HGO := Hd.mk hgood
    have HJ0 := Hd.mk hj
    have HC0 := Hd.mk hCl
    have HCA := Hd.mk hCA
    have HCg := Hd.mk hCg
    have HPR := Hd.mk hpre
    have HJA := Hd.mk hJ
    have HJxA := Hd.mk hJx
    have HYL := Hd.mk hY
    have HA := Hd.mk hA
    clear hc h hgood hj hCl hCA hCg hpre hJ hJx hY hA
    obtain ⟨ev, hev⟩ : ∃ ev, Hd (edgeV edge = ev) := ⟨_, ⟨rfl⟩⟩
    rw [hev.out]
    refine (callsIn_wide (n := q)).1 ?_
    refine callsIn_of_wp Try.func161 rfl trivial ?_ rfl
    simp only [Try.ntmps161, List.size_toArray, List.length_cons, List.length_nil, Nat.reduceAdd, Nat.reduceSub, Array.replicate_succ, Array.replicate_zero, List.push_toArray, List.append_toArray, List.nil_append, List.cons_append]
    gi_wp2_with fail
    refine region_zoneW 18 [false, false, false, false, false, false, false, false, false, false, false, false, false, false, false, false, false, false] (by kernel_rfl) (by kernel_rfl) hmix (fun w' => w'.heap[gw]? = some (.cells #[.slice A n c, .int .u8 (kind.toNat : Int), .string key, .string last, .int .i64 (some' : Int), .int .i64 0] 179 (0, 0))) [] ?_ (fun hS => ?_)
    · exact HS.out
    refine wpAnyZ_take0 (i := 0) (oi := ⟨_, _, _, _, _, _⟩) (v := ?_) rfl (by decide +kernel) (fun _ _ _ h => h) (Or.inl ⟨by rfl, ?_⟩) (fun _ => hS) ?_
    rotate_left
    focus (intro w _; go_simp; (try with_reducible rfl); done)
    simp only [Act.put, List.setIfInBounds_toArray, List.set_cons_zero, List.set_cons_succ]
    refine wpAnyZ_take0 (i := 1) (oi := ⟨_, _, _, _, _, _⟩) (v := ?_) rfl (by decide +kernel) (fun _ _ _ h => h) (Or.inl ⟨by rfl, ?_⟩) (fun _ => hS) ?_
    rotate_left
    focus (intro w _; go_simp; (try with_reducible rfl); done)
    simp only [Act.put, List.setIfInBounds_toArray, List.set_cons_zero, List.set_cons_succ]
    refine wpAnyZ_take0 (i := 2) (oi := ⟨_, _, _, _, _, _⟩) (v := ?_) rfl (by decide +kernel) (fun _ _ _ h => h) (Or.inl ⟨by rfl, ?_⟩) (fun _ => hS) ?_
    rotate_left
    focus (intro w _; go_simp; (try with_reducible rfl); done)
    simp only [Act.put, List.setIfInBounds_toArray, List.set_cons_zero, List.set_cons_succ]
    refine wpAnyZ_take (i := 3) (oi := ⟨_, _, _, _, _, _⟩) (v := ?_) rfl (by decide +kernel) (fun _ _ _ h => h) (Or.inl ⟨by rfl, ?_⟩) hS ?_
    rotate_left
    focus (intro w hSw; (try dsimp only at hSw); (obtain ⟨z0, z1, z2, z3, z4, z5⟩ := wlk_load hSw; clear hSw); go_simp; (try with_reducible rfl); done)
    simp only [Act.put, List.setIfInBounds_toArray, List.set_cons_zero, List.set_cons_succ]
    refine wpAnyZ_take0 (i := 4) (oi := ⟨_, _, _, _, _, _⟩) (v := ?_) rfl (by decide +kernel) (fun _ _ _ h => h) (Or.inl ⟨by rfl, ?_⟩) (fun _ => hS) ?_
    rotate_left
    focus (intro w _; go_simp; (try with_reducible rfl); done)
    simp only [Act.put, List.setIfInBounds_toArray, List.set_cons_zero, List.set_cons_succ]
    refine wpAnyZ_take0 (i := 5) (oi := ⟨_, _, _, _, _, _⟩) (v := ?_) rfl (by decide +kernel) (fun _ _ _ h => h) (Or.inl ⟨by rfl, ?_⟩) (fun _ => hS) ?_
    rotate_left
    focus (intro w _; go_simp; (try with_reducible rfl); done)
    simp only [Act.put, List.setIfInBounds_toArray, List.set_cons_zero, List.set_cons_succ]
    refine wpAnyZ_take0 (i := 6) (oi := ⟨_, _, _, _, _, _⟩) (v := ?_) rfl (by decide +kernel) (fun _ _ _ h => h) (Or.inl ⟨by rfl, ?_⟩) (fun _ => hS) ?_
    rotate_left
    focus (intro w _; go_simp; (try with_reducible rfl); done)
    simp only [Act.put, List.setIfInBounds_toArray, List.set_cons_zero, List.set_cons_succ]
    refine wpAnyZ_take (i := 7) (oi := ⟨_, _, _, _, _, _⟩) (v := ?_) rfl (by decide +kernel) (fun _ _ _ h => h) (Or.inl ⟨by rfl, ?_⟩) hS ?_
    rotate_left
    focus (intro w hSw; (try dsimp only at hSw); (obtain ⟨z0, z1, z2, z3, z4, z5⟩ := wlk_load hSw; clear hSw); go_simp; (try with_reducible rfl); done)
    simp only [Act.put, List.setIfInBounds_toArray, List.set_cons_zero, List.set_cons_succ]
    refine wpAnyZ_take0 (i := 8) (oi := ⟨_, _, _, _, _, _⟩) (v := ?_) rfl (by decide +kernel) (fun _ _ _ h => h) (Or.inl ⟨by rfl, ?_⟩) (fun _ => hS) ?_
    rotate_left
    focus (intro w _; go_simp; (try with_reducible rfl); done)
    simp only [Act.put, List.setIfInBounds_toArray, List.set_cons_zero, List.set_cons_succ]
    refine wpAnyZ_take0 (i := 9) (oi := ⟨_, _, _, _, _, _⟩) (v := ?_) rfl (by decide +kernel) (fun _ _ _ h => h) (Or.inl ⟨by rfl, ?_⟩) (fun _ => hS) ?_
    rotate_left
    focus (intro w _; go_simp; (try with_reducible rfl); done)
    simp only [Act.put, List.setIfInBounds_toArray, List.set_cons_zero, List.set_cons_succ]
    refine wpAnyZ_one (i := 10) rfl (by decide +kernel) (fun K hKK => ?_)
    go_simp
    refine (HR w.drew HD.out.drew).out.mono ?_
    rintro e w1 ⟨A1, n1, c1, rfl, o1, k1, b1⟩
    have B1 := (below_drew w).trans b1
    clear hS
    have hS := (B1.block gw hgl.out).trans HS.out
    refine hKK.out _ _ (fun _ => hS) ?_
    clear hKK
    refine wpAnyZ_take0 (i := 11) (oi := ⟨_, _, _, _, _, _⟩) (v := ?_) rfl (by decide +kernel) (fun _ _ _ h => h) (Or.inl ⟨by rfl, ?_⟩) (fun _ => hS) ?_
    rotate_left
    focus (intro w _; go_simp; (try with_reducible rfl); done)
    simp only [Act.put, List.setIfInBounds_toArray, List.set_cons_zero, List.set_cons_succ]
    refine wpAnyZ_take0 (i := 12) (oi := ⟨_, _, _, _, _, _⟩) (v := ?_) rfl (by decide +kernel) (fun _ _ _ h => h) (Or.inl ⟨by rfl, ?_⟩) (fun _ => hS) ?_
    rotate_left
    focus (intro w _; go_simp; (try with_reducible rfl); done)
    simp only [Act.put, List.setIfInBounds_toArray, List.set_cons_zero, List.set_cons_succ]
    refine wpAnyZ_take0 (i := 13) (oi := ⟨_, _, _, _, _, _⟩) (v := ?_) rfl (by decide +kernel) (fun _ _ _ h => h) (Or.inl ⟨by rfl, ?_⟩) (fun _ => hS) ?_
    rotate_left
    focus (intro w _; go_simp; (try with_reducible rfl); done)
    simp only [Act.put, List.setIfInBounds_toArray, List.set_cons_zero, List.set_cons_succ]
    refine wpAnyZ_take0 (i := 14) (oi := ⟨_, _, _, _, _, _⟩) (v := ?_) rfl (by decide +kernel) (fun _ _ _ h => h) (Or.inl ⟨by rfl, ?_⟩) (fun _ => hS) ?_
    rotate_left
    focus (intro w _; go_simp; (try with_reducible rfl); done)
    simp only [Act.put, List.setIfInBounds_toArray, List.set_cons_zero, List.set_cons_succ]
    refine wpAnyZ_take0 (i := 15) (oi := ⟨_, _, _, _, _, _⟩) (v := ?_) rfl (by decide +kernel) (fun _ _ _ h => h) (Or.inl ⟨by rfl, ?_⟩) (fun _ => hS) ?_
    rotate_left
    focus (intro w _; go_simp; (try with_reducible rfl); done)
    simp only [Act.put, List.setIfInBounds_toArray, List.set_cons_zero, List.set_cons_succ]
    refine wpAnyZ_take0 (i := 16) (oi := ⟨_, _, _, _, _, _⟩) (v := ?_) rfl (by decide +kernel) (fun _ _ _ h => h) (Or.inl ⟨by rfl, ?_⟩) (fun _ => hS) ?_
    rotate_left
    focus (intro w _; go_simp; (try with_reducible rfl); done)
    simp only [Act.put, List.setIfInBounds_toArray, List.set_cons_zero, List.set_cons_succ]
    refine wpAnyZ_take0 (i := 17) (oi := ⟨_, _, _, _, _, _⟩) (v := ?_) rfl (by decide +kernel) (fun _ _ _ h => h) (Or.inl ⟨by rfl, ?_⟩) (fun _ => hS) ?_
    rotate_left
    focus (intro w _; go_simp; (try with_reducible rfl); done)
    simp only [Act.put, List.setIfInBounds_toArray, List.set_cons_zero, List.set_cons_succ]
    refine wpAnyZ_done (by decide +kernel) ?_
    have HS1 := Hd.mk hS
    have HB1 := Hd.mk B1
    have HO1 := Hd.mk (show OwnK w1 w.heap.size A1 n1 c1 ps from o1)
    have HD1 := Hd.mk (HD.out.below B1)
    have HJ1 := Hd.mk (HJA.out.below B1 HJ0.out)
    clear hS B1 b1 o1 HS HD HR HJ0
    obtain ⟨z0, z1, z2, z3, z4, z5⟩ := wlk_load HS1.out
    have f3 := frozen_of_row w1 gw 3 _ _ HS1.out
    have f4 := frozen_of_row w1 gw 4 _ _ HS1.out
    have f5 := frozen_of_row w1 gw 5 _ _ HS1.out
    by_cases he : er ≠ 0
    · have e1 : ((er : Int) != 0) = true := by simp; omega
      have hck : Hd (leavesK l kind key (f + 1) number level edge (some', last) = ([], (some', last), er)) := ⟨leavesK_err hr.out he⟩
      have e2 : Hd ((er == 0) = false) := ⟨by simpa using he⟩
      clear he HIH
      gi_wp2_with fail
      go_ret
      rw [hck.out]
      have hg5 : w1.grownBy (w1.setCell ⟨gw, 5, none⟩ (.int .i64 (er : Int))) (some gw) := grown_cell _
      refine ⟨C, fun k h => .inl h, fun k h => Nat.lt_of_lt_of_le (HC0.out k h) (Nat.le_trans HB1.out.size hg5.size), HD1.out.aside hg5 (fun ad had e => HA.out ad had (by injection e with e; exact e.symm)), (Tch.of_below HB1.out).trans (Tch.setCell _ _ _ _ _ (.inl (.inl (.inl rfl)))), .inl ⟨by rw [e2.out]; rfl, ?_, (heap_setCell_same w1 gw 5 _ _ _ HS1.out).trans rfl⟩⟩
      rw [List.append_nil]
      exact HJA.out.set HJ1.out HCg.out (.inr rfl)
    have he : er = 0 := by omega
    subst he
    have hok := readK_ok hr.out
    have hm0 := hok.1
    have hm12 := hok.2.1
    have hml : level = -1 ∨ m = level := hok.2.2.1
    have hps := Hd.mk hok.2.2.2.2.1
    have hnil := Hd.mk hok.2.2.2.2.2.1
    have hpl := Hd.mk HO1.out.len
    have hmb : Hd (some' ≤ 4194304) := ⟨HGO.out.bound⟩
    have hw64 : wrap64 ((some' : Int) + 1) = ((some' + 1 : Nat) : Int) := by have := hmb.out; unfold wrap64; omega
    clear hok
    cases hpe : ps with
    | nil =>
      subst hpe
      obtain ⟨rfl, rfl⟩ := hnil.out rfl
      obtain rfl : n1 = 0 := hpl.out.symm
      have hck : Hd (leavesK l kind key (f + 1) number (-1) edge (some', last) = ([[]], (some' + 1, last), 0)) := ⟨by rw [leavesK_leaf hr.out (fun h => by cases h.2)]; simp [lastD]⟩
      clear hpl hnil
      have cw : ∃ q, decide ((some' : Int) > 0) = q ∧ decide (0 < (some' : Int)) = q ∧ decide (0 < some') = q := by
        by_cases h : 0 < some'
        · exact ⟨true, by simp; omega, by simp; omega, by simpa using h⟩
        · exact ⟨false, by simp; omega, by simp; omega, by simpa using h⟩
      obtain ⟨q1, d1, d2, d3⟩ := cw
      cases q1
      all_goals
        gi_wp2_with fail
        refine region_zoneW 21 [false, false, false, false, false, false, false, false, false, false, false, false, false, false, false, false, false, false, false, false, false] (by kernel_rfl) (by kernel_rfl) hmix (fun w' => w'.heap[gw]? = some (.cells #[.slice A n c, .int .u8 (kind.toNat : Int), .string key, .string last, .int .i64 (some' : Int), .int .i64 0] 179 (0, 0))) [] ?_ (fun hS => ?_)
        · exact HS1.out
        refine wpAnyZ_take0 (i := 0) (oi := ⟨_, _, _, _, _, _⟩) (v := ?_) rfl (by decide +kernel) (fun _ _ _ h => h) (Or.inl ⟨by rfl, ?_⟩) (fun _ => hS) ?_
        rotate_left
        focus (intro w _; go_simp; (try with_reducible rfl); done)
        simp only [Act.put, List.setIfInBounds_toArray, List.set_cons_zero, List.set_cons_succ]
        refine wpAnyZ_take0 (i := 1) (oi := ⟨_, _, _, _, _, _⟩) (v := ?_) rfl (by decide +kernel) (fun _ _ _ h => h) (Or.inl ⟨by rfl, ?_⟩) (fun _ => hS) ?_
        rotate_left
        focus (intro w _; go_simp; (try with_reducible rfl); done)
        simp only [Act.put, List.setIfInBounds_toArray, List.set_cons_zero, List.set_cons_succ]
        refine wpAnyZ_take0 (i := 2) (oi := ⟨_, _, _, _, _, _⟩) (v := ?_) rfl (by decide +kernel) (fun _ _ _ h => h) (Or.inl ⟨by rfl, ?_⟩) (fun _ => hS) ?_
        rotate_left
        focus (intro w _; go_simp; (try with_reducible rfl); done)
        simp only [Act.put, List.setIfInBounds_toArray, List.set_cons_zero, List.set_cons_succ]
        refine wpAnyZ_take (i := 3) (oi := ⟨_, _, _, _, _, _⟩) (v := ?_) rfl (by decide +kernel) (fun _ _ _ h => h) (Or.inl ⟨by rfl, ?_⟩) hS ?_
        rotate_left
        focus (intro w hSw; (try dsimp only at hSw); (obtain ⟨z0, z1, z2, z3, z4, z5⟩ := wlk_load hSw; clear hSw); go_simp; (try with_reducible rfl); done)
        simp only [Act.put, List.setIfInBounds_toArray, List.set_cons_zero, List.set_cons_succ]
        refine wpAnyZ_take0 (i := 4) (oi := ⟨_, _, _, _, _, _⟩) (v := ?_) rfl (by decide +kernel) (fun _ _ _ h => h) (Or.inl ⟨by rfl, ?_⟩) (fun _ => hS) ?_
        rotate_left
        focus (intro w _; go_simp; (try with_reducible rfl); done)
        simp only [Act.put, List.setIfInBounds_toArray, List.set_cons_zero, List.set_cons_succ]
        refine wpAnyZ_take0 (i := 5) (oi := ⟨_, _, _, _, _, _⟩) (v := ?_) rfl (by decide +kernel) (fun _ _ _ h => h) (Or.inl ⟨by rfl, ?_⟩) (fun _ => hS) ?_
        rotate_left
        focus (intro w _; go_simp; (try with_reducible rfl); done)
        simp only [Act.put, List.setIfInBounds_toArray, List.set_cons_zero, List.set_cons_succ]
        first
          | (refine wpAnyZ_take0 (i := 6) (oi := ⟨_, _, _, _, _, _⟩) (v := undef) rfl (by decide +kernel) (fun _ _ _ h => h) (Or.inr ⟨by rfl, rfl⟩) (fun _ => hS) ?_)
          | (refine wpAnyZ_take0 (i := 6) (oi := ⟨_, _, _, _, _, _⟩) (v := ?_) rfl (by decide +kernel) (fun _ _ _ h => h) (Or.inl ⟨by rfl, ?_⟩) (fun _ => hS) ?_; rotate_left; focus (intro w hSw; go_simp; (try with_reducible rfl); done))
        simp only [Act.put, List.setIfInBounds_toArray, List.set_cons_zero, List.set_cons_succ]
        first
          | (refine wpAnyZ_take0 (i := 7) (oi := ⟨_, _, _, _, _, _⟩) (v := undef) rfl (by decide +kernel) (fun _ _ _ h => h) (Or.inr ⟨by rfl, rfl⟩) (fun _ => hS) ?_)
          | (refine wpAnyZ_take0 (i := 7) (oi := ⟨_, _, _, _, _, _⟩) (v := ?_) rfl (by decide +kernel) (fun _ _ _ h => h) (Or.inl ⟨by rfl, ?_⟩) (fun _ => hS) ?_; rotate_left; focus (intro w hSw; go_simp; (try with_reducible rfl); done))
        simp only [Act.put, List.setIfInBounds_toArray, List.set_cons_zero, List.set_cons_succ]
        first
          | (refine wpAnyZ_take0 (i := 8) (oi := ⟨_, _, _, _, _, _⟩) (v := undef) rfl (by decide +kernel) (fun _ _ _ h => h) (Or.inr ⟨by rfl, rfl⟩) (fun _ => hS) ?_)
          | (refine wpAnyZ_take0 (i := 8) (oi := ⟨_, _, _, _, _, _⟩) (v := ?_) rfl (by decide +kernel) (fun _ _ _ h => h) (Or.inl ⟨by rfl, ?_⟩) (fun _ => hS) ?_; rotate_left; focus (intro w hSw; go_simp; (try with_reducible rfl); done))
        simp only [Act.put, List.setIfInBounds_toArray, List.set_cons_zero, List.set_cons_succ]
        refine wpAnyZ_take0 (i := 9) (oi := ⟨_, _, _, _, _, _⟩) (v := ?_) rfl (by decide +kernel) (fun _ _ _ h => h) (Or.inl ⟨by rfl, ?_⟩) (fun _ => hS) ?_
        rotate_left
        focus (intro w _; go_simp; (try with_reducible rfl); done)
        simp only [Act.put, List.setIfInBounds_toArray, List.set_cons_zero, List.set_cons_succ]
        refine wpAnyZ_take0 (i := 10) (oi := ⟨_, _, _, _, _, _⟩) (v := ?_) rfl (by decide +kernel) (fun _ _ _ h => h) (Or.inl ⟨by rfl, ?_⟩) (fun _ => hS) ?_
        rotate_left
        focus (intro w _; go_simp; (try with_reducible rfl); done)
        simp only [Act.put, List.setIfInBounds_toArray, List.set_cons_zero, List.set_cons_succ]
        first
          | (refine wpAnyZ_take0 (i := 11) (oi := ⟨_, _, _, _, _, _⟩) (v := undef) rfl (by decide +kernel) (fun _ _ _ h => h) (Or.inr ⟨by rfl, rfl⟩) (fun _ => hS) ?_)
          | (refine wpAnyZ_take0 (i := 11) (oi := ⟨_, _, _, _, _, _⟩) (v := ?_) rfl (by decide +kernel) (fun _ _ _ h => h) (Or.inl ⟨by rfl, ?_⟩) (fun _ => hS) ?_; rotate_left; focus (intro w hSw; go_simp; (try with_reducible rfl); done))
        simp only [Act.put, List.setIfInBounds_toArray, List.set_cons_zero, List.set_cons_succ]
        first
          | (refine wpAnyZ_take0 (i := 12) (oi := ⟨_, _, _, _, _, _⟩) (v := undef) rfl (by decide +kernel) (fun _ _ _ h => h) (Or.inr ⟨by rfl, rfl⟩) (fun _ => hS) ?_)
          | (refine wpAnyZ_take0 (i := 12) (oi := ⟨_, _, _, _, _, _⟩) (v := ?_) rfl (by decide +kernel) (fun _ _ _ h => h) (Or.inl ⟨by rfl, ?_⟩) (fun _ => hS) ?_; rotate_left; focus (intro w hSw; go_simp; (try with_reducible rfl); done))
        simp only [Act.put, List.setIfInBounds_toArray, List.set_cons_zero, List.set_cons_succ]
        first
          | (refine wpAnyZ_take0 (i := 13) (oi := ⟨_, _, _, _, _, _⟩) (v := undef) rfl (by decide +kernel) (fun _ _ _ h => h) (Or.inr ⟨by rfl, rfl⟩) (fun _ => hS) ?_)
          | (refine wpAnyZ_take0 (i := 13) (oi := ⟨_, _, _, _, _, _⟩) (v := ?_) rfl (by decide +kernel) (fun _ _ _ h => h) (Or.inl ⟨by rfl, ?_⟩) (fun _ => hS) ?_; rotate_left; focus (intro w hSw; go_simp; (try with_reducible rfl); done))
        simp only [Act.put, List.setIfInBounds_toArray, List.set_cons_zero, List.set_cons_succ]
        first
          | (refine wpAnyZ_take (i := 14) (oi := ⟨_, _, _, _, _, _⟩) (v := undef) rfl (by decide +kernel) (fun _ _ _ h => h) (Or.inr ⟨by rfl, rfl⟩) hS ?_)
          | (refine wpAnyZ_take (i := 14) (oi := ⟨_, _, _, _, _, _⟩) (v := ?_) rfl (by decide +kernel) (fun _ _ _ h => h) (Or.inl ⟨by rfl, ?_⟩) hS ?_; rotate_left; focus (intro w hSw; (try dsimp only at hSw); (obtain ⟨z0, z1, z2, z3, z4, z5⟩ := wlk_load hSw; clear hSw); go_simp; (try with_reducible rfl); done))
        simp only [Act.put, List.setIfInBounds_toArray, List.set_cons_zero, List.set_cons_succ]
        first
          | (refine wpAnyZ_take0 (i := 15) (oi := ⟨_, _, _, _, _, _⟩) (v := undef) rfl (by decide +kernel) (fun _ _ _ h => h) (Or.inr ⟨by rfl, rfl⟩) (fun _ => hS) ?_)
          | (refine wpAnyZ_take0 (i := 15) (oi := ⟨_, _, _, _, _, _⟩) (v := ?_) rfl (by decide +kernel) (fun _ _ _ h => h) (Or.inl ⟨by rfl, ?_⟩) (fun _ => hS) ?_; rotate_left; focus (intro w hSw; go_simp; (try with_reducible rfl); done))
        simp only [Act.put, List.setIfInBounds_toArray, List.set_cons_zero, List.set_cons_succ]
        first
          | (refine wpAnyZ_take0 (i := 16) (oi := ⟨_, _, _, _, _, _⟩) (v := undef) rfl (by decide +kernel) (fun _ _ _ h => h) (Or.inr ⟨by rfl, rfl⟩) (fun _ => hS) ?_)
          | (refine wpAnyZ_take0 (i := 16) (oi := ⟨_, _, _, _, _, _⟩) (v := ?_) rfl (by decide +kernel) (fun _ _ _ h => h) (Or.inl ⟨by rfl, ?_⟩) (fun _ => hS) ?_; rotate_left; focus (intro w hSw; go_simp; (try with_reducible rfl); done))
        simp only [Act.put, List.setIfInBounds_toArray, List.set_cons_zero, List.set_cons_succ]
        first
          | (refine wpAnyZ_take0 (i := 17) (oi := ⟨_, _, _, _, _, _⟩) (v := undef) rfl (by decide +kernel) (fun _ _ _ h => h) (Or.inr ⟨by rfl, rfl⟩) (fun _ => hS) ?_)
          | (refine wpAnyZ_take0 (i := 17) (oi := ⟨_, _, _, _, _, _⟩) (v := ?_) rfl (by decide +kernel) (fun _ _ _ h => h) (Or.inl ⟨by rfl, ?_⟩) (fun _ => hS) ?_; rotate_left; focus (intro w hSw; go_simp; (try with_reducible rfl); done))
        simp only [Act.put, List.setIfInBounds_toArray, List.set_cons_zero, List.set_cons_succ]
        first
          | (refine wpAnyZ_take (i := 18) (oi := ⟨_, _, _, _, _, _⟩) (v := undef) rfl (by decide +kernel) (fun _ _ _ h => h) (Or.inr ⟨by rfl, rfl⟩) hS ?_)
          | (refine wpAnyZ_take (i := 18) (oi := ⟨_, _, _, _, _, _⟩) (v := ?_) rfl (by decide +kernel) (fun _ _ _ h => h) (Or.inl ⟨by rfl, ?_⟩) hS ?_; rotate_left; focus (intro w hSw; (try dsimp only at hSw); (obtain ⟨z0, z1, z2, z3, z4, z5⟩ := wlk_load hSw; clear hSw); go_simp; (try with_reducible rfl); done))
        simp only [Act.put, List.setIfInBounds_toArray, List.set_cons_zero, List.set_cons_succ]
        first
          | (refine wpAnyZ_take0 (i := 19) (oi := ⟨_, _, _, _, _, _⟩) (v := undef) rfl (by decide +kernel) (fun _ _ _ h => h) (Or.inr ⟨by rfl, rfl⟩) (fun _ => hS) ?_)
          | (refine wpAnyZ_take0 (i := 19) (oi := ⟨_, _, _, _, _, _⟩) (v := ?_) rfl (by decide +kernel) (fun _ _ _ h => h) (Or.inl ⟨by rfl, ?_⟩) (fun _ => hS) ?_; rotate_left; focus (intro w hSw; go_simp; (try with_reducible rfl); done))
        simp only [Act.put, List.setIfInBounds_toArray, List.set_cons_zero, List.set_cons_succ]
        refine wpAnyZ_take0 (i := 20) (oi := ⟨_, _, _, _, _, _⟩) (v := ?_) rfl (by decide +kernel) (fun _ _ _ h => h) (Or.inl ⟨by rfl, ?_⟩) (fun _ => hS) ?_
        rotate_left
        focus (intro w _; go_simp; (try with_reducible rfl); done)
        simp only [Act.put, List.setIfInBounds_toArray, List.set_cons_zero, List.set_cons_succ]
        refine wpAnyZ_done (by decide +kernel) ?_
        obtain ⟨W3, hW3⟩ : ∃ W3, Hd ((w1.setCell ⟨gw, 4, none⟩ (.int .i64 ((some' : Int) + 1))).drew = W3) := ⟨_, ⟨rfl⟩⟩
        have HG3 : Hd (w1.grownBy W3 (some gw)) := ⟨by rw [← hW3.out]; exact grown_drew (grown_cell _)⟩
        have HS3 : Hd (WlkAt W3 gw A n c kind key (some' + 1, last) 0) := ⟨by rw [← hW3.out]; exact (heap_setCell_same w1 gw 4 _ _ _ HS1.out).trans rfl⟩
        have HJ3 : Hd (J pre C W3) := ⟨HJA.out _ _ _ _ (some gw) HJ1.out HG3.out (fun r e => by cases e; exact ⟨HCg.out, .inr rfl⟩)⟩
        have HO3 := Hd.mk (Own.grown HO1.out HG3.out (fun x hx e => by injection e with e; have h1 := (Own.lt HO1.out hx).1; have := hgl.out; omega))
        have HD3 := Hd.mk (HD1.out.aside HG3.out (fun ad had e => HA.out ad had (by injection e with e; exact e.symm)))
        have hsz3 : Hd (w.heap.size ≤ W3.heap.size) := ⟨Nat.le_trans HB1.out.size HG3.out.size⟩
        have HT3 : Hd (Tch (fun k => k = gw ∨ C k) w W3) := ⟨(Tch.of_below HB1.out).trans (Tch.of_grown HG3.out (fun k e => by cases e; exact .inl (.inl (.inl rfl))))⟩
        have hpx := HPR.out
        rw [hck.out] at hpx
        obtain ⟨fn, tmps, assign, body, hy, hR⟩ := HYL.out pre [] #[.slice A1 0 c1] C W3 HJ3.out hpx ⟨_, _, _, rfl, Own.rd HO3.out, by omega, HO3.out.2.1, fun h0 ad' e => by
          have h1 := Own.lt HO3.out (g := ad'.block) (by have := HO3.out.2.1; simp [ownBlk, e]; omega)
          exact ⟨fun hc => by have := HC0.out _ hc; omega, h1.2⟩⟩ (fun k hk => by have := HC0.out k hk; have := hsz3.out; omega)
        have HR3 := Hd.mk hR
        rw [← hW3.out] at hy
        clear hR hpx HYL HIH
        gi_wp2_with fail
        rw [hW3.out]
        refine HR3.out.mono ?_
        rintro e W4 ⟨hj4, ht4⟩
        have hfin : ∀ k, up C W3 W4 k → k < W4.heap.size := fun k hk => by
          rcases hk with hk | hk
          · have := HC0.out k hk; have := hsz3.out; have := ht4.size; omega
          · exact hk.2
        have hup : ∀ k, up C W3 W4 k → C k ∨ w.heap.size ≤ k := fun k hk => hk.imp id (fun h => by have := hsz3.out; omega)
        have HD4 : Rd8 W4 A n l := HD3.out.tch' ht4 (fun ad had => (HCA.out ad had).1)
        have HS4 : WlkAt W4 gw A n c kind key (some' + 1, last) 0 := (ht4.block gw (by have := hgl.out; have := hsz3.out; omega) HCg.out).trans HS3.out
        have HT4 : Tch (fun k => k = gw ∨ C k) w W4 := HT3.out.trans (ht4.mono fun k _ h => .inl (.inr h))
        have HALL := Hd.mk (And.intro hfin (And.intro hup (And.intro HD4 (And.intro HS4 HT4))))
        clear hfin hup HD4 HS4 HT4 ht4
        rcases hj4 with ⟨rfl, hj⟩ | ⟨rfl, hj⟩
        · have HJ4 := Hd.mk hj
          clear hj
          gi_wp2
          go_ret
          rw [hck.out]
          exact ⟨_, HALL.out.2.1, HALL.out.1, HALL.out.2.2.1, HALL.out.2.2.2.2, .inl ⟨rfl, HJ4.out, HALL.out.2.2.2.1⟩⟩
        · have HJ4 := Hd.mk hj
          clear hj
          gi_wp2
          go_ret
          rw [hck.out]
          exact ⟨_, HALL.out.2.1, HALL.out.1, HALL.out.2.2.1, HALL.out.2.2.2.2, .inr ⟨rfl, _, _, by have := HPR.out; rw [hck.out] at this; exact this, HJ4.out, HALL.out.2.2.2.1⟩⟩
    | cons p r =>
      subst hpe
      obtain ⟨k, rfl⟩ : ∃ k, n1 = k + 1 := ⟨r.length, by have := hpl.out; simp at this; omega⟩
      obtain ⟨pk, hpk⟩ : ∃ pk, Hd ((p :: r)[k]? = some pk) := ⟨(p :: r)[k]'(by have := hpl.out; omega), ⟨List.getElem?_eq_getElem _⟩⟩
      have hlk : Hd (lastD (p :: r) last = pk.1) := ⟨by rw [lastD, if_neg (by simp)]; exact lastKey_get hpl.out hpk.out⟩
      obtain ⟨ad, rfl, q0, q1⟩ := RdK.get (k := 0) (p := p) (Own.rd HO1.out) rfl
      obtain ⟨ad', hade, q2, -⟩ := RdK.get (Own.rd HO1.out) hpk.out
      obtain rfl : ad = ad' := by injection hade
      have q0' : w1.cell? ad = some (.string p.1) := by simpa [Addr.add] using q0
      have i1 : ((k + 1 : Nat) : Int) > 0 := by omega
      have i2 : IntKind.i64.wrap (((k + 1 : Nat) : Int) - 1) = (k : Int) := by rw [IntKind.wrap_i64]; omega
      have i3 : (k : Int) < ((k + 1 : Nat) : Int) := by omega
      have i4 : (0 : Int) ≤ (k : Int) := by omega
      by_cases hmz : m = 0
      · subst hmz
        have hob : ad.block ≠ gw := by
          have h1 := Own.lt HO1.out (g := ad.block) (by have := HO1.out.2.1; simp [ownBlk]; omega)
          have := hgl.out
          omega
        have q2' : ∀ v, (w1.setCell ⟨gw, 4, none⟩ v).cell? (ad.add (k * 2)) = some (.string pk.1) := fun v => (World.cell?_of_block (heap_setCell_other w1 ⟨gw, 4, none⟩ (ad.add (k * 2)).block v (by rw [block_add]; exact hob))).trans q2
        by_cases hbad : 0 < some' ∧ leK p.1 last = true
        · have hck : Hd (leavesK l kind key (f + 1) number level edge (some', last) = ([], (some', last), 202)) := ⟨leavesK_bad hr.out hbad⟩
          have d1 : decide ((some' : Int) > 0) = true := by simp; omega
          have d2 : decide (0 < (some' : Int)) = true := by simp; omega
          have d3 : decide (0 < some') = true := by simp; omega
          have d4 : (Op.bytesLess p.1.toList last.toList || p.1.toList == last.toList) = true := hbad.2
          clear hbad HIH hml hf
          gi_wp2_with fail
          refine region_zoneW 21 [false, false, false, false, false, false, false, false, false, false, false, false, false, false, false, false, false, false, false, false, false] (by kernel_rfl) (by kernel_rfl) hmix (fun w' => w'.heap[gw]? = some (.cells #[.slice A n c, .int .u8 (kind.toNat : Int), .string key, .string last, .int .i64 (some' : Int), .int .i64 0] 179 (0, 0)) ∧ w'.cell? ad = some (.string p.1)) [] ?_ (fun hS => ?_)
          · exact ⟨HS1.out, q0'⟩
          refine wpAnyZ_take0 (i := 0) (oi := ⟨_, _, _, _, _, _⟩) (v := ?_) rfl (by decide +kernel) (fun _ _ _ h => h) (Or.inl ⟨by rfl, ?_⟩) (fun _ => hS) ?_
          rotate_left
          focus (intro w _; go_simp; (try with_reducible rfl); done)
          simp only [Act.put, List.setIfInBounds_toArray, List.set_cons_zero, List.set_cons_succ]
          refine wpAnyZ_take0 (i := 1) (oi := ⟨_, _, _, _, _, _⟩) (v := ?_) rfl (by decide +kernel) (fun _ _ _ h => h) (Or.inl ⟨by rfl, ?_⟩) (fun _ => hS) ?_
          rotate_left
          focus (intro w _; go_simp; (try with_reducible rfl); done)
          simp only [Act.put, List.setIfInBounds_toArray, List.set_cons_zero, List.set_cons_succ]
          refine wpAnyZ_take0 (i := 2) (oi := ⟨_, _, _, _, _, _⟩) (v := ?_) rfl (by decide +kernel) (fun _ _ _ h => h) (Or.inl ⟨by rfl, ?_⟩) (fun _ => hS) ?_
          rotate_left
          focus (intro w _; go_simp; (try with_reducible rfl); done)
          simp only [Act.put, List.setIfInBounds_toArray, List.set_cons_zero, List.set_cons_succ]
          refine wpAnyZ_take (i := 3) (oi := ⟨_, _, _, _, _, _⟩) (v := ?_) rfl (by decide +kernel) (fun _ _ _ h => h) (Or.inl ⟨by rfl, ?_⟩) hS ?_
          rotate_left
          focus (intro w hSw; (try dsimp only at hSw); (obtain ⟨hS0, y0⟩ := hSw; obtain ⟨z0, z1, z2, z3, z4, z5⟩ := wlk_load hS0; clear hS0); go_simp; (try with_reducible rfl); done)
          simp only [Act.put, List.setIfInBounds_toArray, List.set_cons_zero, List.set_cons_succ]
          refine wpAnyZ_take0 (i := 4) (oi := ⟨_, _, _, _, _, _⟩) (v := ?_) rfl (by decide +kernel) (fun _ _ _ h => h) (Or.inl ⟨by rfl, ?_⟩) (fun _ => hS) ?_
          rotate_left
          focus (intro w _; go_simp; (try with_reducible rfl); done)
          simp only [Act.put, List.setIfInBounds_toArray, List.set_cons_zero, List.set_cons_succ]
          refine wpAnyZ_take0 (i := 5) (oi := ⟨_, _, _, _, _, _⟩) (v := ?_) rfl (by decide +kernel) (fun _ _ _ h => h) (Or.inl ⟨by rfl, ?_⟩) (fun _ => hS) ?_
          rotate_left
          focus (intro w _; go_simp; (try with_reducible rfl); done)
          simp only [Act.put, List.setIfInBounds_toArray, List.set_cons_zero, List.set_cons_succ]
          first
            | (refine wpAnyZ_take0 (i := 6) (oi := ⟨_, _, _, _, _, _⟩) (v := undef) rfl (by decide +kernel) (fun _ _ _ h => h) (Or.inr ⟨by rfl, rfl⟩) (fun _ => hS) ?_)
            | (refine wpAnyZ_take0 (i := 6) (oi := ⟨_, _, _, _, _, _⟩) (v := ?_) rfl (by decide +kernel) (fun _ _ _ h => h) (Or.inl ⟨by rfl, ?_⟩) (fun _ => hS) ?_; rotate_left; focus (intro w hSw; go_simp; (try with_reducible rfl); done))
          simp only [Act.put, List.setIfInBounds_toArray, List.set_cons_zero, List.set_cons_succ]
          first
            | (refine wpAnyZ_take0 (i := 7) (oi := ⟨_, _, _, _, _, _⟩) (v := undef) rfl (by decide +kernel) (fun _ _ _ h => h) (Or.inr ⟨by rfl, rfl⟩) (fun _ => hS) ?_)
            | (refine wpAnyZ_take0 (i := 7) (oi := ⟨_, _, _, _, _, _⟩) (v := ?_) rfl (by decide +kernel) (fun _ _ _ h => h) (Or.inl ⟨by rfl, ?_⟩) (fun _ => hS) ?_; rotate_left; focus (intro w hSw; go_simp; (try with_reducible rfl); done))
          simp only [Act.put, List.setIfInBounds_toArray, List.set_cons_zero, List.set_cons_succ]
          first
            | (refine wpAnyZ_take0 (i := 8) (oi := ⟨_, _, _, _, _, _⟩) (v := undef) rfl (by decide +kernel) (fun _ _ _ h => h) (Or.inr ⟨by rfl, rfl⟩) (fun _ => hS) ?_)
            | (refine wpAnyZ_take0 (i := 8) (oi := ⟨_, _, _, _, _, _⟩) (v := ?_) rfl (by decide +kernel) (fun _ _ _ h => h) (Or.inl ⟨by rfl, ?_⟩) (fun _ => hS) ?_; rotate_left; focus (intro w hSw; go_simp; (try with_reducible rfl); done))
          simp only [Act.put, List.setIfInBounds_toArray, List.set_cons_zero, List.set_cons_succ]
          refine wpAnyZ_take0 (i := 9) (oi := ⟨_, _, _, _, _, _⟩) (v := ?_) rfl (by decide +kernel) (fun _ _ _ h => h) (Or.inl ⟨by rfl, ?_⟩) (fun _ => hS) ?_
          rotate_left
          focus (intro w _; go_simp; (try with_reducible rfl); done)
          simp only [Act.put, List.setIfInBounds_toArray, List.set_cons_zero, List.set_cons_succ]
          refine wpAnyZ_take0 (i := 10) (oi := ⟨_, _, _, _, _, _⟩) (v := ?_) rfl (by decide +kernel) (fun _ _ _ h => h) (Or.inl ⟨by rfl, ?_⟩) (fun _ => hS) ?_
          rotate_left
          focus (intro w _; go_simp; (try with_reducible rfl); done)
          simp only [Act.put, List.setIfInBounds_toArray, List.set_cons_zero, List.set_cons_succ]
          first
            | (refine wpAnyZ_take0 (i := 11) (oi := ⟨_, _, _, _, _, _⟩) (v := undef) rfl (by decide +kernel) (fun _ _ _ h => h) (Or.inr ⟨by rfl, rfl⟩) (fun _ => hS) ?_)
            | (refine wpAnyZ_take0 (i := 11) (oi := ⟨_, _, _, _, _, _⟩) (v := ?_) rfl (by decide +kernel) (fun _ _ _ h => h) (Or.inl ⟨by rfl, ?_⟩) (fun _ => hS) ?_; rotate_left; focus (intro w hSw; go_simp; (try with_reducible rfl); done))
          simp only [Act.put, List.setIfInBounds_toArray, List.set_cons_zero, List.set_cons_succ]
          first
            | (refine wpAnyZ_take0 (i := 12) (oi := ⟨_, _, _, _, _, _⟩) (v := undef) rfl (by decide +kernel) (fun _ _ _ h => h) (Or.inr ⟨by rfl, rfl⟩) (fun _ => hS) ?_)
            | (refine wpAnyZ_take0 (i := 12) (oi := ⟨_, _, _, _, _, _⟩) (v := ?_) rfl (by decide +kernel) (fun _ _ _ h => h) (Or.inl ⟨by rfl, ?_⟩) (fun _ => hS) ?_; rotate_left; focus (intro w hSw; go_simp; (try with_reducible rfl); done))
          simp only [Act.put, List.setIfInBounds_toArray, List.set_cons_zero, List.set_cons_succ]
          first
            | (refine wpAnyZ_take0 (i := 13) (oi := ⟨_, _, _, _, _, _⟩) (v := undef) rfl (by decide +kernel) (fun _ _ _ h => h) (Or.inr ⟨by rfl, rfl⟩) (fun _ => hS) ?_)
            | (refine wpAnyZ_take0 (i := 13) (oi := ⟨_, _, _, _, _, _⟩) (v := ?_) rfl (by decide +kernel) (fun _ _ _ h => h) (Or.inl ⟨by rfl, ?_⟩) (fun _ => hS) ?_; rotate_left; focus (intro w hSw; go_simp; (try with_reducible rfl); done))
          simp only [Act.put, List.setIfInBounds_toArray, List.set_cons_zero, List.set_cons_succ]
          first
            | (refine wpAnyZ_take (i := 14) (oi := ⟨_, _, _, _, _, _⟩) (v := undef) rfl (by decide +kernel) (fun _ _ _ h => h) (Or.inr ⟨by rfl, rfl⟩) hS ?_)
            | (refine wpAnyZ_take (i := 14) (oi := ⟨_, _, _, _, _, _⟩) (v := ?_) rfl (by decide +kernel) (fun _ _ _ h => h) (Or.inl ⟨by rfl, ?_⟩) hS ?_; rotate_left; focus (intro w hSw; (try dsimp only at hSw); (obtain ⟨hS0, y0⟩ := hSw; obtain ⟨z0, z1, z2, z3, z4, z5⟩ := wlk_load hS0; clear hS0); go_simp; (try with_reducible rfl); done))
          simp only [Act.put, List.setIfInBounds_toArray, List.set_cons_zero, List.set_cons_succ]
          first
            | (refine wpAnyZ_take0 (i := 15) (oi := ⟨_, _, _, _, _, _⟩) (v := undef) rfl (by decide +kernel) (fun _ _ _ h => h) (Or.inr ⟨by rfl, rfl⟩) (fun _ => hS) ?_)
            | (refine wpAnyZ_take0 (i := 15) (oi := ⟨_, _, _, _, _, _⟩) (v := ?_) rfl (by decide +kernel) (fun _ _ _ h => h) (Or.inl ⟨by rfl, ?_⟩) (fun _ => hS) ?_; rotate_left; focus (intro w hSw; go_simp; (try with_reducible rfl); done))
          simp only [Act.put, List.setIfInBounds_toArray, List.set_cons_zero, List.set_cons_succ]
          first
            | (refine wpAnyZ_take0 (i := 16) (oi := ⟨_, _, _, _, _, _⟩) (v := undef) rfl (by decide +kernel) (fun _ _ _ h => h) (Or.inr ⟨by rfl, rfl⟩) (fun _ => hS) ?_)
            | (refine wpAnyZ_take0 (i := 16) (oi := ⟨_, _, _, _, _, _⟩) (v := ?_) rfl (by decide +kernel) (fun _ _ _ h => h) (Or.inl ⟨by rfl, ?_⟩) (fun _ => hS) ?_; rotate_left; focus (intro w hSw; go_simp; (try with_reducible rfl); done))
          simp only [Act.put, List.setIfInBounds_toArray, List.set_cons_zero, List.set_cons_succ]
          first
            | (refine wpAnyZ_take0 (i := 17) (oi := ⟨_, _, _, _, _, _⟩) (v := undef) rfl (by decide +kernel) (fun _ _ _ h => h) (Or.inr ⟨by rfl, rfl⟩) (fun _ => hS) ?_)
            | (refine wpAnyZ_take0 (i := 17) (oi := ⟨_, _, _, _, _, _⟩) (v := ?_) rfl (by decide +kernel) (fun _ _ _ h => h) (Or.inl ⟨by rfl, ?_⟩) (fun _ => hS) ?_; rotate_left; focus (intro w hSw; go_simp; (try with_reducible rfl); done))
          simp only [Act.put, List.setIfInBounds_toArray, List.set_cons_zero, List.set_cons_succ]
          first
            | (refine wpAnyZ_take (i := 18) (oi := ⟨_, _, _, _, _, _⟩) (v := undef) rfl (by decide +kernel) (fun _ _ _ h => h) (Or.inr ⟨by rfl, rfl⟩) hS ?_)
            | (refine wpAnyZ_take (i := 18) (oi := ⟨_, _, _, _, _, _⟩) (v := ?_) rfl (by decide +kernel) (fun _ _ _ h => h) (Or.inl ⟨by rfl, ?_⟩) hS ?_; rotate_left; focus (intro w hSw; (try dsimp only at hSw); (obtain ⟨hS0, y0⟩ := hSw; obtain ⟨z0, z1, z2, z3, z4, z5⟩ := wlk_load hS0; clear hS0); go_simp; (try with_reducible rfl); done))
          simp only [Act.put, List.setIfInBounds_toArray, List.set_cons_zero, List.set_cons_succ]
          first
            | (refine wpAnyZ_take0 (i := 19) (oi := ⟨_, _, _, _, _, _⟩) (v := undef) rfl (by decide +kernel) (fun _ _ _ h => h) (Or.inr ⟨by rfl, rfl⟩) (fun _ => hS) ?_)
            | (refine wpAnyZ_take0 (i := 19) (oi := ⟨_, _, _, _, _, _⟩) (v := ?_) rfl (by decide +kernel) (fun _ _ _ h => h) (Or.inl ⟨by rfl, ?_⟩) (fun _ => hS) ?_; rotate_left; focus (intro w hSw; go_simp; (try with_reducible rfl); done))
          simp only [Act.put, List.setIfInBounds_toArray, List.set_cons_zero, List.set_cons_succ]
          refine wpAnyZ_take0 (i := 20) (oi := ⟨_, _, _, _, _, _⟩) (v := ?_) rfl (by decide +kernel) (fun _ _ _ h => h) (Or.inl ⟨by rfl, ?_⟩) (fun _ => hS) ?_
          rotate_left
          focus (intro w _; go_simp; (try with_reducible rfl); done)
          simp only [Act.put, List.setIfInBounds_toArray, List.set_cons_zero, List.set_cons_succ]
          refine wpAnyZ_done (by decide +kernel) ?_
          gi_wp2_with fail
          go_ret
          rw [hck.out]
          have hg5 : w1.grownBy (w1.setCell ⟨gw, 5, none⟩ (.int .i64 202)).drew (some gw) := grown_drew (grown_cell _)
          refine ⟨C, fun k h => .inl h, fun k h => Nat.lt_of_lt_of_le (HC0.out k h) (Nat.le_trans HB1.out.size hg5.size), HD1.out.aside hg5 (fun ad had e => HA.out ad had (by injection e with e; exact e.symm)), (Tch.of_below HB1.out).trans (Tch.of_grown hg5 (fun k e => by cases e; exact .inl (.inl (.inl rfl)))), .inl ⟨rfl, ?_, (heap_setCell_same w1 gw 5 _ _ _ HS1.out).trans rfl⟩⟩
          rw [List.append_nil]
          exact HJA.out _ _ _ _ (some gw) HJ1.out hg5 (fun r e => by cases e; exact ⟨HCg.out, .inr rfl⟩)
        · have hck : Hd (leavesK l kind key (f + 1) number level edge (some', last) = ([p :: r], (some' + 1, pk.1), 0)) := ⟨by rw [leavesK_leaf hr.out hbad, hlk.out]⟩
          have hc4 : (decide ((some' : Int) > 0) = false ∧ decide (0 < (some' : Int)) = false ∧ decide (0 < some') = false) ∨ ((decide ((some' : Int) > 0) = true ∧ decide (0 < (some' : Int)) = true ∧ decide (0 < some') = true) ∧ (Op.bytesLess p.1.toList last.toList || p.1.toList == last.toList) = false) := by
            by_cases h0 : 0 < some'
            · right
              refine ⟨⟨by simp; omega, by simp; omega, by simp; omega⟩, ?_⟩
              cases h4 : leK p.1 last
              · exact h4
              · exact absurd ⟨h0, h4⟩ hbad
            · left; exact ⟨by simp; omega, by simp; omega, by simp; omega⟩
          clear hbad HIH hml hf
          rcases hc4 with ⟨d1, d2, d3⟩ | ⟨⟨d1, d2, d3⟩, d4⟩
          all_goals
            gi_wp2_with fail
            refine region_zoneW 21 [false, false, false, false, false, false, false, false, false, false, false, false, false, false, false, false, false, false, false, false, false] (by kernel_rfl) (by kernel_rfl) hmix (fun w' => w'.heap[gw]? = some (.cells #[.slice A n c, .int .u8 (kind.toNat : Int), .string key, .string last, .int .i64 (some' : Int), .int .i64 0] 179 (0, 0)) ∧ w'.cell? ad = some (.string p.1)) [] ?_ (fun hS => ?_)
            · exact ⟨HS1.out, q0'⟩
            refine wpAnyZ_take0 (i := 0) (oi := ⟨_, _, _, _, _, _⟩) (v := ?_) rfl (by decide +kernel) (fun _ _ _ h => h) (Or.inl ⟨by rfl, ?_⟩) (fun _ => hS) ?_
            rotate_left
            focus (intro w _; go_simp; (try with_reducible rfl); done)
            simp only [Act.put, List.setIfInBounds_toArray, List.set_cons_zero, List.set_cons_succ]
            refine wpAnyZ_take0 (i := 1) (oi := ⟨_, _, _, _, _, _⟩) (v := ?_) rfl (by decide +kernel) (fun _ _ _ h => h) (Or.inl ⟨by rfl, ?_⟩) (fun _ => hS) ?_
            rotate_left
            focus (intro w _; go_simp; (try with_reducible rfl); done)
            simp only [Act.put, List.setIfInBounds_toArray, List.set_cons_zero, List.set_cons_succ]
            refine wpAnyZ_take0 (i := 2) (oi := ⟨_, _, _, _, _, _⟩) (v := ?_) rfl (by decide +kernel) (fun _ _ _ h => h) (Or.inl ⟨by rfl, ?_⟩) (fun _ => hS) ?_
            rotate_left
            focus (intro w _; go_simp; (try with_reducible rfl); done)
            simp only [Act.put, List.setIfInBounds_toArray, List.set_cons_zero, List.set_cons_succ]
            refine wpAnyZ_take (i := 3) (oi := ⟨_, _, _, _, _, _⟩) (v := ?_) rfl (by decide +kernel) (fun _ _ _ h => h) (Or.inl ⟨by rfl, ?_⟩) hS ?_
            rotate_left
            focus (intro w hSw; (try dsimp only at hSw); (obtain ⟨hS0, y0⟩ := hSw; obtain ⟨z0, z1, z2, z3, z4, z5⟩ := wlk_load hS0; clear hS0); go_simp; (try with_reducible rfl); done)
            simp only [Act.put, List.setIfInBounds_toArray, List.set_cons_zero, List.set_cons_succ]
            refine wpAnyZ_take0 (i := 4) (oi := ⟨_, _, _, _, _, _⟩) (v := ?_) rfl (by decide +kernel) (fun _ _ _ h => h) (Or.inl ⟨by rfl, ?_⟩) (fun _ => hS) ?_
            rotate_left
            focus (intro w _; go_simp; (try with_reducible rfl); done)
            simp only [Act.put, List.setIfInBounds_toArray, List.set_cons_zero, List.set_cons_succ]
            refine wpAnyZ_take0 (i := 5) (oi := ⟨_, _, _, _, _, _⟩) (v := ?_) rfl (by decide +kernel) (fun _ _ _ h => h) (Or.inl ⟨by rfl, ?_⟩) (fun _ => hS) ?_
            rotate_left
            focus (intro w _; go_simp; (try with_reducible rfl); done)
            simp only [Act.put, List.setIfInBounds_toArray, List.set_cons_zero, List.set_cons_succ]
            first
              | (refine wpAnyZ_take0 (i := 6) (oi := ⟨_, _, _, _, _, _⟩) (v := undef) rfl (by decide +kernel) (fun _ _ _ h => h) (Or.inr ⟨by rfl, rfl⟩) (fun _ => hS) ?_)
              | (refine wpAnyZ_take0 (i := 6) (oi := ⟨_, _, _, _, _, _⟩) (v := ?_) rfl (by decide +kernel) (fun _ _ _ h => h) (Or.inl ⟨by rfl, ?_⟩) (fun _ => hS) ?_; rotate_left; focus (intro w hSw; go_simp; (try with_reducible rfl); done))
            simp only [Act.put, List.setIfInBounds_toArray, List.set_cons_zero, List.set_cons_succ]
            first
              | (refine wpAnyZ_take0 (i := 7) (oi := ⟨_, _, _, _, _, _⟩) (v := undef) rfl (by decide +kernel) (fun _ _ _ h => h) (Or.inr ⟨by rfl, rfl⟩) (fun _ => hS) ?_)
              | (refine wpAnyZ_take0 (i := 7) (oi := ⟨_, _, _, _, _, _⟩) (v := ?_) rfl (by decide +kernel) (fun _ _ _ h => h) (Or.inl ⟨by rfl, ?_⟩) (fun _ => hS) ?_; rotate_left; focus (intro w hSw; go_simp; (try with_reducible rfl); done))
            simp only [Act.put, List.setIfInBounds_toArray, List.set_cons_zero, List.set_cons_succ]
            first
              | (refine wpAnyZ_take0 (i := 8) (oi := ⟨_, _, _, _, _, _⟩) (v := undef) rfl (by decide +kernel) (fun _ _ _ h => h) (Or.inr ⟨by rfl, rfl⟩) (fun _ => hS) ?_)
              | (refine wpAnyZ_take0 (i := 8) (oi := ⟨_, _, _, _, _, _⟩) (v := ?_) rfl (by decide +kernel) (fun _ _ _ h => h) (Or.inl ⟨by rfl, ?_⟩) (fun _ => hS) ?_; rotate_left; focus (intro w hSw; go_simp; (try with_reducible rfl); done))
            simp only [Act.put, List.setIfInBounds_toArray, List.set_cons_zero, List.set_cons_succ]
            refine wpAnyZ_take0 (i := 9) (oi := ⟨_, _, _, _, _, _⟩) (v := ?_) rfl (by decide +kernel) (fun _ _ _ h => h) (Or.inl ⟨by rfl, ?_⟩) (fun _ => hS) ?_
            rotate_left
            focus (intro w _; go_simp; (try with_reducible rfl); done)
            simp only [Act.put, List.setIfInBounds_toArray, List.set_cons_zero, List.set_cons_succ]
            refine wpAnyZ_take0 (i := 10) (oi := ⟨_, _, _, _, _, _⟩) (v := ?_) rfl (by decide +kernel) (fun _ _ _ h => h) (Or.inl ⟨by rfl, ?_⟩) (fun _ => hS) ?_
            rotate_left
            focus (intro w _; go_simp; (try with_reducible rfl); done)
            simp only [Act.put, List.setIfInBounds_toArray, List.set_cons_zero, List.set_cons_succ]
            first
              | (refine wpAnyZ_take0 (i := 11) (oi := ⟨_, _, _, _, _, _⟩) (v := undef) rfl (by decide +kernel) (fun _ _ _ h => h) (Or.inr ⟨by rfl, rfl⟩) (fun _ => hS) ?_)
              | (refine wpAnyZ_take0 (i := 11) (oi := ⟨_, _, _, _, _, _⟩) (v := ?_) rfl (by decide +kernel) (fun _ _ _ h => h) (Or.inl ⟨by rfl, ?_⟩) (fun _ => hS) ?_; rotate_left; focus (intro w hSw; go_simp; (try with_reducible rfl); done))
            simp only [Act.put, List.setIfInBounds_toArray, List.set_cons_zero, List.set_cons_succ]
            first
              | (refine wpAnyZ_take0 (i := 12) (oi := ⟨_, _, _, _, _, _⟩) (v := undef) rfl (by decide +kernel) (fun _ _ _ h => h) (Or.inr ⟨by rfl, rfl⟩) (fun _ => hS) ?_)
              | (refine wpAnyZ_take0 (i := 12) (oi := ⟨_, _, _, _, _, _⟩) (v := ?_) rfl (by decide +kernel) (fun _ _ _ h => h) (Or.inl ⟨by rfl, ?_⟩) (fun _ => hS) ?_; rotate_left; focus (intro w hSw; go_simp; (try with_reducible rfl); done))
            simp only [Act.put, List.setIfInBounds_toArray, List.set_cons_zero, List.set_cons_succ]
            first
              | (refine wpAnyZ_take0 (i := 13) (oi := ⟨_, _, _, _, _, _⟩) (v := undef) rfl (by decide +kernel) (fun _ _ _ h => h) (Or.inr ⟨by rfl, rfl⟩) (fun _ => hS) ?_)
              | (refine wpAnyZ_take0 (i := 13) (oi := ⟨_, _, _, _, _, _⟩) (v := ?_) rfl (by decide +kernel) (fun _ _ _ h => h) (Or.inl ⟨by rfl, ?_⟩) (fun _ => hS) ?_; rotate_left; focus (intro w hSw; go_simp; (try with_reducible rfl); done))
            simp only [Act.put, List.setIfInBounds_toArray, List.set_cons_zero, List.set_cons_succ]
            first
              | (refine wpAnyZ_take (i := 14) (oi := ⟨_, _, _, _, _, _⟩) (v := undef) rfl (by decide +kernel) (fun _ _ _ h => h) (Or.inr ⟨by rfl, rfl⟩) hS ?_)
              | (refine wpAnyZ_take (i := 14) (oi := ⟨_, _, _, _, _, _⟩) (v := ?_) rfl (by decide +kernel) (fun _ _ _ h => h) (Or.inl ⟨by rfl, ?_⟩) hS ?_; rotate_left; focus (intro w hSw; (try dsimp only at hSw); (obtain ⟨hS0, y0⟩ := hSw; obtain ⟨z0, z1, z2, z3, z4, z5⟩ := wlk_load hS0; clear hS0); go_simp; (try with_reducible rfl); done))
            simp only [Act.put, List.setIfInBounds_toArray, List.set_cons_zero, List.set_cons_succ]
            first
              | (refine wpAnyZ_take0 (i := 15) (oi := ⟨_, _, _, _, _, _⟩) (v := undef) rfl (by decide +kernel) (fun _ _ _ h => h) (Or.inr ⟨by rfl, rfl⟩) (fun _ => hS) ?_)
              | (refine wpAnyZ_take0 (i := 15) (oi := ⟨_, _, _, _, _, _⟩) (v := ?_) rfl (by decide +kernel) (fun _ _ _ h => h) (Or.inl ⟨by rfl, ?_⟩) (fun _ => hS) ?_; rotate_left; focus (intro w hSw; go_simp; (try with_reducible rfl); done))
            simp only [Act.put, List.setIfInBounds_toArray, List.set_cons_zero, List.set_cons_succ]
            first
              | (refine wpAnyZ_take0 (i := 16) (oi := ⟨_, _, _, _, _, _⟩) (v := undef) rfl (by decide +kernel) (fun _ _ _ h => h) (Or.inr ⟨by rfl, rfl⟩) (fun _ => hS) ?_)
              | (refine wpAnyZ_take0 (i := 16) (oi := ⟨_, _, _, _, _, _⟩) (v := ?_) rfl (by decide +kernel) (fun _ _ _ h => h) (Or.inl ⟨by rfl, ?_⟩) (fun _ => hS) ?_; rotate_left; focus (intro w hSw; go_simp; (try with_reducible rfl); done))
            simp only [Act.put, List.setIfInBounds_toArray, List.set_cons_zero, List.set_cons_succ]
            first
              | (refine wpAnyZ_take0 (i := 17) (oi := ⟨_, _, _, _, _, _⟩) (v := undef) rfl (by decide +kernel) (fun _ _ _ h => h) (Or.inr ⟨by rfl, rfl⟩) (fun _ => hS) ?_)
              | (refine wpAnyZ_take0 (i := 17) (oi := ⟨_, _, _, _, _, _⟩) (v := ?_) rfl (by decide +kernel) (fun _ _ _ h => h) (Or.inl ⟨by rfl, ?_⟩) (fun _ => hS) ?_; rotate_left; focus (intro w hSw; go_simp; (try with_reducible rfl); done))
            simp only [Act.put, List.setIfInBounds_toArray, List.set_cons_zero, List.set_cons_succ]
            first
              | (refine wpAnyZ_take (i := 18) (oi := ⟨_, _, _, _, _, _⟩) (v := undef) rfl (by decide +kernel) (fun _ _ _ h => h) (Or.inr ⟨by rfl, rfl⟩) hS ?_)
              | (refine wpAnyZ_take (i := 18) (oi := ⟨_, _, _, _, _, _⟩) (v := ?_) rfl (by decide +kernel) (fun _ _ _ h => h) (Or.inl ⟨by rfl, ?_⟩) hS ?_; rotate_left; focus (intro w hSw; (try dsimp only at hSw); (obtain ⟨hS0, y0⟩ := hSw; obtain ⟨z0, z1, z2, z3, z4, z5⟩ := wlk_load hS0; clear hS0); go_simp; (try with_reducible rfl); done))
            simp only [Act.put, List.setIfInBounds_toArray, List.set_cons_zero, List.set_cons_succ]
            first
              | (refine wpAnyZ_take0 (i := 19) (oi := ⟨_, _, _, _, _, _⟩) (v := undef) rfl (by decide +kernel) (fun _ _ _ h => h) (Or.inr ⟨by rfl, rfl⟩) (fun _ => hS) ?_)
              | (refine wpAnyZ_take0 (i := 19) (oi := ⟨_, _, _, _, _, _⟩) (v := ?_) rfl (by decide +kernel) (fun _ _ _ h => h) (Or.inl ⟨by rfl, ?_⟩) (fun _ => hS) ?_; rotate_left; focus (intro w hSw; go_simp; (try with_reducible rfl); done))
            simp only [Act.put, List.setIfInBounds_toArray, List.set_cons_zero, List.set_cons_succ]
            refine wpAnyZ_take0 (i := 20) (oi := ⟨_, _, _, _, _, _⟩) (v := ?_) rfl (by decide +kernel) (fun _ _ _ h => h) (Or.inl ⟨by rfl, ?_⟩) (fun _ => hS) ?_
            rotate_left
            focus (intro w _; go_simp; (try with_reducible rfl); done)
            simp only [Act.put, List.setIfInBounds_toArray, List.set_cons_zero, List.set_cons_succ]
            refine wpAnyZ_done (by decide +kernel) ?_
            obtain ⟨W3, hW3⟩ : ∃ W3, Hd (((w1.setCell ⟨gw, 4, none⟩ (.int .i64 ((some' : Int) + 1))).setCell ⟨gw, 3, none⟩ (.string pk.1)).drew = W3) := ⟨_, ⟨rfl⟩⟩
            have HG3 : Hd (w1.grownBy W3 (some gw)) := ⟨by rw [← hW3.out]; exact grown_drew (grown_trans (grown_cell _) (grown_cell _))⟩
            have HS3 : Hd (WlkAt W3 gw A n c kind key (some' + 1, pk.1) 0) := ⟨by rw [← hW3.out]; exact (heap_setCell_same _ gw 3 _ _ _ (heap_setCell_same w1 gw 4 _ _ _ HS1.out)).trans rfl⟩
            have HJ3 : Hd (J pre C W3) := ⟨HJA.out _ _ _ _ (some gw) HJ1.out HG3.out (fun r e => by cases e; exact ⟨HCg.out, .inr rfl⟩)⟩
            have HO3 := Hd.mk (Own.grown HO1.out HG3.out (fun x hx e => by injection e with e; have h1 := (Own.lt HO1.out hx).1; have := hgl.out; omega))
            have HD3 := Hd.mk (HD1.out.aside HG3.out (fun ad had e => HA.out ad had (by injection e with e; exact e.symm)))
            have hsz3 : Hd (w.heap.size ≤ W3.heap.size) := ⟨Nat.le_trans HB1.out.size HG3.out.size⟩
            have HT3 : Hd (Tch (fun k => k = gw ∨ C k) w W3) := ⟨(Tch.of_below HB1.out).trans (Tch.of_grown HG3.out (fun k e => by cases e; exact .inl (.inl (.inl rfl))))⟩
            have hpx := HPR.out
            rw [hck.out] at hpx
            obtain ⟨fn, tmps, assign, body, hy, hR⟩ := HYL.out pre (p :: r) #[.slice (some ad) (k + 1) c1] C W3 HJ3.out hpx ⟨_, _, _, rfl, Own.rd HO3.out, by omega, HO3.out.2.1, fun h0 ad' e => by
              have h1 := Own.lt HO3.out (g := ad'.block) (by have := HO3.out.2.1; simp [ownBlk, e]; omega)
              exact ⟨fun hc => by have := HC0.out _ hc; omega, h1.2⟩⟩ (fun k hk => by have := HC0.out k hk; have := hsz3.out; omega)
            have HR3 := Hd.mk hR
            rw [← hW3.out] at hy
            clear hR hpx HYL
            gi_wp2_with fail
            rw [hW3.out]
            refine HR3.out.mono ?_
            rintro e W4 ⟨hj4, ht4⟩
            have hfin : ∀ k, up C W3 W4 k → k < W4.heap.size := fun k hk => by
              rcases hk with hk | hk
              · have := HC0.out k hk; have := hsz3.out; have := ht4.size; omega
              · exact hk.2
            have hup : ∀ k, up C W3 W4 k → C k ∨ w.heap.size ≤ k := fun k hk => hk.imp id (fun h => by have := hsz3.out; omega)
            have HD4 : Rd8 W4 A n l := HD3.out.tch' ht4 (fun ad had => (HCA.out ad had).1)
            have HS4 : WlkAt W4 gw A n c kind key (some' + 1, pk.1) 0 := (ht4.block gw (by have := hgl.out; have := hsz3.out; omega) HCg.out).trans HS3.out
            have HT4 : Tch (fun k => k = gw ∨ C k) w W4 := HT3.out.trans (ht4.mono fun k _ h => .inl (.inr h))
            have HALL := Hd.mk (And.intro hfin (And.intro hup (And.intro HD4 (And.intro HS4 HT4))))
            clear hfin hup HD4 HS4 HT4 ht4
            rcases hj4 with ⟨rfl, hj⟩ | ⟨rfl, hj⟩
            · have HJ4 := Hd.mk hj
              clear hj
              gi_wp2
              go_ret
              rw [hck.out]
              exact ⟨_, HALL.out.2.1, HALL.out.1, HALL.out.2.2.1, HALL.out.2.2.2.2, .inl ⟨rfl, HJ4.out, HALL.out.2.2.2.1⟩⟩
            · have HJ4 := Hd.mk hj
              clear hj
              gi_wp2
              go_ret
              rw [hck.out]
              exact ⟨_, HALL.out.2.1, HALL.out.1, HALL.out.2.2.1, HALL.out.2.2.2.2, .inr ⟨rfl, _, _, by have := HPR.out; rw [hck.out] at this; exact this, HJ4.out, HALL.out.2.2.2.1⟩⟩
      · have hck0 : Hd (leavesK l kind key (f + 1) number level edge (some', last) = overL (fun n' e' s' => leavesK l kind key f n' (m - 1) e' s') edge ((p :: r).drop (if edge = true then behindK key (p :: r) - 1 else 0)) (some', last)) := ⟨leavesK_over hr.out hmz⟩
        have e5 : (m == 0) = false := by simp; omega
        have e6 : IntKind.i64.wrap (m - 1) = m - 1 := by rw [IntKind.wrap_i64]; omega
        have hf2 : m - 1 = -1 ∧ f = 14 ∨ 0 ≤ m - 1 ∧ m - 1 < f ∧ f ≤ 13 := by right; refine ⟨by omega, ?_, by omega⟩; rcases hf with h1 | h1 <;> rcases hml with h2 | h2 <;> omega
        have hm1 : m - 1 ≠ -1 := by omega
        clear hml hf hmz hnil q0 q1 q2 q0' hlk hpk z0 z1 z3 z4 z5 f3 f4 f5 i1 i2 i3 i4 HYL
        have hbp := Hd.mk (Own.lt HO1.out (g := ad.block) (by have := HO1.out.2.1; simp [ownBlk]; omega))
        have hc1 := HO1.out.2.1
        have hbkl : behindK key (p :: r) ≤ k + 1 := by rw [← hpl.out]; exact behindK_le _ _
        obtain ⟨fr, hfr⟩ : ∃ fr, Hd ((if edge = true then behindK key (p :: r) - 1 else 0) = fr) := ⟨_, ⟨rfl⟩⟩
        have hfrk : fr ≤ k := by have h1 := hfr.out; split at h1 <;> omega
        obtain ⟨rs, hrs⟩ : ∃ rs, Hd ((p :: r).drop fr = rs) := ⟨_, ⟨rfl⟩⟩
        have hck : Hd (leavesK l kind key (f + 1) number level edge (some', last) = overL (fun n' e' s' => leavesK l kind key f n' (m - 1) e' s') edge rs (some', last)) := ⟨by rw [hck0.out, hfr.out, hrs.out]⟩
        have hcx : ¬ c1 = fr := by omega
        obtain ⟨D, hD⟩ : ∃ D, Hd (ad.add (fr * 2) = D) := ⟨_, ⟨rfl⟩⟩
        obtain ⟨nr, hnr⟩ : ∃ nr, Hd (k + 1 - fr = nr) := ⟨_, ⟨rfl⟩⟩
        have HDr : Hd (RdK w1 (some D) nr rs) := ⟨by
          have h := RdK.cut (Own.rd HO1.out) (a := fr) (b := k + 1) (m := c1) (by omega) (Nat.le_refl _) hc1
          rw [if_neg (by omega), List.take_of_length_le (by rw [List.length_drop, hpl.out]; exact Nat.le_refl _)] at h
          rw [← hD.out, ← hnr.out, ← hrs.out]
          simpa [Addr.add] using h⟩
        have hDb : Hd (D.block = ad.block) := ⟨by rw [← hD.out]; exact block_add _ _⟩
        have hrsm : Hd (∀ x ∈ rs, x ∈ p :: r) := ⟨fun x h => by rw [← hrs.out] at h; exact List.mem_of_mem_drop h⟩
        clear hck0
        gi_upto_if 89 with fail
        gi_cut [14] from 89 (fun v wd => v = .int .i64 (fr : Int) ∧ wd = w1)
        case first =>
          cases edge with
          | false =>
            obtain rfl : ev = 0 := by rw [← hev.out]; rfl
            obtain rfl : fr = 0 := by have := hfr.out; simpa using this.symm
            gi_wp2_with fail
            gi_meet
            case rel => exact ⟨rfl, rfl⟩
          | true =>
            obtain rfl : ev = 1 := by rw [← hev.out]; rfl
            have hfr2 : behindK key (p :: r) - 1 = fr := by have := hfr.out; simpa using this
            obtain ⟨bk, hbk⟩ : ∃ bk, Hd (behindK key (p :: r) = bk) := ⟨_, ⟨rfl⟩⟩
            have HBH := Hd.mk (behind113 (some ad) (k + 1) c1 (p :: r) key w1 (Own.rd HO1.out) (by omega))
            rw [hbk.out] at HBH hfr2
            rcases Nat.eq_zero_or_pos bk with h0 | h0
            · subst h0
              obtain rfl : fr = 0 := by omega
              gi_wp2_with (refine ⟨trivial, ?_⟩; gi_at_call 113; refine (callsIn_wide.2 HBH.out).mono ?_; rintro e w2 ⟨rfl, rfl⟩)
              gi_meet
              case rel => exact ⟨rfl, rfl⟩
            · obtain ⟨j, rfl⟩ : ∃ j, bk = j + 1 := ⟨bk - 1, by omega⟩
              obtain rfl : fr = j := by omega
              have hj1 : IntKind.i64.wrap (((fr + 1 : Nat) : Int) - 1) = (fr : Int) := by rw [IntKind.wrap_i64]; omega
              have hj2 : ¬ (fr : Int) < 0 := by omega
              have hmx : (if 0 < fr then (fr : Int) else 0) = (fr : Int) := by split <;> omega
              clear h0
              gi_wp2_with (refine ⟨trivial, ?_⟩; gi_at_call 113; refine (callsIn_wide.2 HBH.out).mono ?_; rintro e w2 ⟨rfl, rfl⟩)
              gi_meet
              case rel => exact ⟨rfl, rfl⟩
        case rest =>
          obtain ⟨rfl, rfl⟩ := hcut
          have hj3 : (0 : Int) ≤ (fr : Int) := by omega
          have hj4 : (fr : Int) ≤ ((k + 1 : Nat) : Int) := by omega
          have hj5 : (fr : Int) ≤ (k : Int) + 1 := by omega
          gi_wp2_with fail
          rw [hD.out, hnr.out]
          obtain ⟨W1, hW1⟩ : ∃ W1, W1 = wc := ⟨_, rfl⟩
          subst hW1
          have hG0 : Hd (Tch (fun k => k = gw ∨ C k) w W1) := ⟨Tch.of_below HB1.out⟩
          have hC1 : Hd (∀ k, C k → k < W1.heap.size) := ⟨fun k h => Nat.lt_of_lt_of_le (HC0.out k h) HB1.out.size⟩
          have hsz1 := HB1.out.size
          gi_loopw [102, 15, 16, 17] (fun iv _ _ _ wr => ∃ (i : Nat) (dn : List (List Kp)) (si : Wk) (Ci : Nat → Prop), iv = .int .i64 (i : Int) ∧ i ≤ nr ∧ Hd (WlkAt wr gw A n c kind key si 0) ∧ Hd (Rd8 wr A n l) ∧ Hd (J (pre ++ dn) Ci wr) ∧ Hd (∀ k, Ci k → k < wr.heap.size) ∧ Hd (∀ k, Ci k → C k ∨ W1.heap.size ≤ k) ∧
              Hd (GoodW l kind si) ∧ Hd (RdK wr (some D) nr rs) ∧ Hd (Tch (fun k => k = gw ∨ C k) w wr) ∧ Hd (overL (fun n' e' s' => leavesK l kind key f n' (m - 1) e' s') edge rs (some', last) = (dn ++ (overL (fun n' e' s' => leavesK l kind key f n' (m - 1) e' s') (if i = 0 then edge else false) (rs.drop i) si).1, (overL (fun n' e' s' => leavesK l kind key f n' (m - 1) e' s') (if i = 0 then edge else false) (rs.drop i) si).2)) ∧ W1.heap.size ≤ wr.heap.size)
            (fun iv _ _ _ _ => nr - (intOf iv).toNat)
          case atStart => exact ⟨0, [], (some', last), C, rfl, by omega, HS1, HD1, ⟨by rw [List.append_nil]; exact HJ1.out⟩, hC1, ⟨fun k h => .inl h⟩, HGO, HDr, hG0, ⟨by simp⟩, Nat.le_refl _⟩
          case round =>
            obtain ⟨i, dn, si, Ci, rfl, hi, hW, hR8, hJi, hCs, hCi, hGi, hRs, hTi, hov, hsz⟩ := hrel
            by_cases hlt : i < nr
            · obtain ⟨x, hx0⟩ : ∃ x, Hd (rs[i]? = some x) := ⟨rs[i]'(by have := RdK.len hRs.out; omega), ⟨List.getElem?_eq_getElem _⟩⟩
              have hd : Hd (rs.drop i = x :: rs.drop (i + 1)) := ⟨by
                obtain ⟨hk, e⟩ := List.getElem?_eq_some_iff.1 hx0.out
                rw [← e]; exact List.drop_eq_getElem_cons hk⟩
              obtain ⟨D', hDD, y0, y1⟩ := RdK.get hRs.out hx0.out
              obtain rfl : D = D' := by injection hDD
              have hxo := hps.out x (hrsm.out x (List.mem_of_getElem? hx0.out))
              have hx1 := hxo.2.1
              have hx2 := hxo.2.2
              obtain ⟨eb, heb⟩ : ∃ eb, Hd ((if i = 0 then edge else false) = eb) := ⟨_, ⟨rfl⟩⟩
              obtain ⟨xl, xs, xe, hxl⟩ : ∃ xl xs xe, Hd (leavesK l kind key f x.2 (m - 1) eb si = (xl, xs, xe)) := ⟨_, _, _, ⟨rfl⟩⟩
              have hov2 : Hd (overL (fun n' e' s' => leavesK l kind key f n' (m - 1) e' s') edge rs (some', last) = if xe ≠ 0 then (dn ++ xl, xs, xe) else (dn ++ (xl ++ (overL (fun n' e' s' => leavesK l kind key f n' (m - 1) e' s') false (rs.drop (i + 1)) xs).1), (overL (fun n' e' s' => leavesK l kind key f n' (m - 1) e' s') false (rs.drop (i + 1)) xs).2)) := ⟨by
                rw [hov.out, heb.out, hd.out, overL, hxl.out]
                simp only
                split <;> rfl⟩
              have hpx : Hd ((pre ++ dn) ++ xl <+: L) := ⟨by
                have h := HPR.out
                rw [hck.out, hov2.out] at h
                by_cases h0 : xe ≠ 0
                · rw [if_pos h0] at h; rw [List.append_assoc]; exact h
                · rw [if_neg h0] at h
                  refine List.IsPrefix.trans ?_ h
                  simp only [← List.append_assoc]
                  exact List.prefix_append _ _⟩
              have hCg : ¬ Ci gw := fun h => (hCi.out gw h).elim HCg.out (fun h => by have := hgl.out; omega)
              have hCA : ∀ ad', A = some ad' → ¬ Ci ad'.block ∧ ad'.block < wr.heap.size := fun ad' e => by
                have h1 := HCA.out ad' e
                exact ⟨fun h => (hCi.out _ h).elim h1.1 (fun h => by omega), by omega⟩
              have hCb : ¬ Ci ad.block := fun h => (hCi.out _ h).elim (fun h => by have := HC0.out _ h; have := hbp.out; omega) (fun h => by have := hbp.out; omega)
              have HWb := Hd.mk (show Below wr.heap.size wr (wr.alloc (.cells #[.string x.1, .int .i64 x.2] 113)) from (Below.refl _ _).alloc (Nat.le_refl _) _)
              have HC := Hd.mk (HIH.out x.2 (m - 1) eb si (pre ++ dn) Ci (wr.alloc (.cells #[.string x.1, .int .i64 x.2] 113)) ((HWb.out.block gw (by have := hgl.out; omega)).trans hW.out) (hR8.out.below HWb.out) (HJA.out.below HWb.out hJi.out)
                (fun k h => Nat.lt_of_lt_of_le (hCs.out k h) HWb.out.size) hCg (fun ad' e => ⟨(hCA ad' e).1, Nat.lt_of_lt_of_le (hCA ad' e).2 HWb.out.size⟩) hGi.out (by omega) (by omega) hf2 (by rw [hxl.out]; exact hpx.out))
              rw [hxl.out] at HC
              have hgood2 : Hd (xe = 0 → GoodW l kind xs) := ⟨fun h0 => by
                have := leavesK_good (b := l) (kind := kind) (key := key) f x.2 (m - 1) eb si hm1 hGi.out (by rw [hxl.out]; exact h0)
                rw [hxl.out] at this
                exact this⟩
              have hlti : (i : Int) < (nr : Int) := by omega
              have hlti2 : (i : Int) < (k : Int) + 1 := by have := hnr.out; omega
              have hi00 : (0 : Int) ≤ (i : Int) := by omega
              have HCb := Hd.mk hCb
              have HEV : Hd (((i : Int) == 0) = true ∧ ev = edgeV eb ∨ ((i : Int) == 0) = false ∧ edgeV eb = 0) := ⟨by
                by_cases h0 : i = 0
                · left
                  refine ⟨by simp; omega, ?_⟩
                  rw [← heb.out, if_pos h0]; exact hev.out.symm
                · right
                  refine ⟨by simp; omega, ?_⟩
                  rw [← heb.out, if_neg h0]; rfl⟩
              clear hxo hd hx0 hov heb hCg hCA hxl hCb
              gi_upto_if 108 with fail
              gi_cut [17] from 108 (fun v wd => v = .int .i64 (edgeV eb) ∧ wd = wr.alloc (.cells #[.string x.1, .int .i64 x.2] 113))
              case first =>
                rcases HEV.out with ⟨h0, h1⟩ | ⟨h0, h1⟩
                · have H1 := Hd.mk h1
                  clear h1
                  gi_wp2_with fail
                  gi_meet
                  case rel => exact ⟨congrArg _ H1.out, rfl⟩
                · have H1 := Hd.mk h1
                  clear h1
                  gi_wp2_with fail
                  gi_meet
                  case rel => exact ⟨congrArg _ H1.out.symm, rfl⟩
              case rest =>
                obtain ⟨rfl, rfl⟩ := hcut
                gi_wp2_with fail
                refine ⟨trivial, ?_⟩
                gi_at_call 161
                refine (callsIn_wide.2 HC.out).mono ?_
                rintro e w2 ⟨C2, hc1, hc2, hr2, ht2, hcase⟩
                have HT2 : Hd (Tch (fun k => k = gw ∨ C k) w w2) := ⟨(hTi.out.trans (Tch.of_below HWb.out)).trans (ht2.mono fun k hk h => by
                  rcases h with h | h
                  · exact .inl (.inl h)
                  · rcases hCi.out k h with h | h
                    · exact .inl (.inr h)
                    · exact .inr ⟨by omega, hk⟩)⟩
                have HC2 : Hd (∀ k, C2 k → C k ∨ W1.heap.size ≤ k) := ⟨fun k h => (hc1 k h).elim (fun h => hCi.out k h) (fun h => .inr (by have := HWb.out.size; omega))⟩
                have HC2w : Hd (∀ k, C2 k → C k ∨ w.heap.size ≤ k) := ⟨fun k h => (HC2.out k h).imp id (fun h => by omega)⟩
                have HRs2 : Hd (RdK w2 (some D) nr rs) := ⟨RdK.tch' (Rd.below hRs.out HWb.out) ht2 (fun ad' e => by
                  injection e with e
                  subst e
                  rintro (h | h)
                  · have := hgl.out; have := hbp.out; have := hDb.out; omega
                  · rw [hDb.out] at h; exact HCb.out h)⟩
                have HZ2 := Hd.mk (And.intro hc2 (And.intro hr2 (Nat.le_trans hsz (Nat.le_trans HWb.out.size ht2.size))))
                clear hc1 hc2 hr2 ht2
                rcases hcase with ⟨he2, hJ2, hW2⟩ | ⟨he2, pre', s', hp', hJ2, hW2⟩
                · have HJ2 := Hd.mk hJ2
                  have HW2 := Hd.mk hW2
                  clear hJ2 hW2
                  by_cases hxe : xe = 0
                  · subst hxe
                    obtain rfl : e = .returned (.bool true) := he2
                    have hov3 : Hd (overL (fun n' e' s' => leavesK l kind key f n' (m - 1) e' s') edge rs (some', last) = (dn ++ xl ++ (overL (fun n' e' s' => leavesK l kind key f n' (m - 1) e' s') false (rs.drop (i + 1)) xs).1, (overL (fun n' e' s' => leavesK l kind key f n' (m - 1) e' s') false (rs.drop (i + 1)) xs).2)) := ⟨by rw [hov2.out, if_neg (by simp), List.append_assoc]⟩
                    clear hov2
                    gi_wp2_with fail
                    go_roundw
                    case rel => exact ⟨i + 1, dn ++ xl, xs, C2, by go_num, by omega, HW2, ⟨HZ2.out.2.1⟩, ⟨by rw [← List.append_assoc]; exact HJ2.out⟩, ⟨HZ2.out.1⟩, HC2, ⟨hgood2.out (by trivial)⟩, HRs2, HT2, ⟨by rw [if_neg (by omega)]; exact hov3.out⟩, HZ2.out.2.2⟩
                    case measure => simp [intOf]; omega
                  · have hxb : (xe == 0) = false := by simpa using hxe
                    obtain rfl : e = .returned (.bool false) := by rw [he2]; simp only [hxb]
                    have hov3 : Hd (leavesK l kind key (f + 1) number level edge (some', last) = (dn ++ xl, xs, xe)) := ⟨by rw [hck.out, hov2.out, if_pos hxe]⟩
                    have hxb' := Hd.mk hxb
                    clear hov2 hxe hxb
                    gi_wp2_with fail
                    go_ret
                    rw [hov3.out]
                    exact ⟨C2, HC2w.out, HZ2.out.1, HZ2.out.2.1, HT2.out, .inl ⟨by simp only [hxb'.out]; rfl, by rw [← List.append_assoc]; exact HJ2.out, HW2.out⟩⟩
                · have HJ2 := Hd.mk (And.intro hp' (And.intro hJ2 hW2))
                  obtain rfl : e = .returned (.bool false) := he2
                  clear hp' hJ2 hW2 hov2
                  gi_wp2_with fail
                  go_ret
                  exact ⟨C2, HC2w.out, HZ2.out.1, HZ2.out.2.1, HT2.out, .inr ⟨rfl, pre', s', HJ2.out.1, HJ2.out.2.1, HJ2.out.2.2⟩⟩
            · obtain rfl : i = nr := by omega
              have hov3 : Hd (leavesK l kind key (f + 1) number level edge (some', last) = (dn, si, 0)) := ⟨by
                rw [hck.out, hov.out, List.drop_of_length_le (by rw [RdK.len hRs.out]; exact Nat.le_refl _)]
                simp [overL]⟩
              have hlti : ¬ ((i : Int) < (i : Int)) := by omega
              have HC2w : Hd (∀ k, Ci k → C k ∨ w.heap.size ≤ k) := ⟨fun k h => (hCi.out k h).imp id (fun h => by omega)⟩
              clear hov
              gi_wp2_with fail
              go_ret
              rw [hov3.out]
              exact ⟨Ci, HC2w.out, hCs.out, hR8.out, hTi.out, .inl ⟨rfl, hJi.out, hW.out⟩⟩
end Go.Proofs.Ytkgdcglnkodgnaa

