/- Range over page.numbers: the iterator's contract (functions 95, 144). No condition but sizes. -/
import Derived.RangeFuncNested
import Derived.RangeFuncBound
import Derived.RangeFuncCalls
import Derived.RangeFuncLeaves
import Derived.RangeFuncBox
import Derived.Shelf.Abstract
import Derived.Shelf.RegionOpen
import Derived.WalkKit
import Derived.OwnWalkIn
import Derived.TacticsInMore
import Derived.LoopNIn
import Derived.LoopIn
import Derived.Test.YtkgdcglnkodgnaaAt
namespace Go.Proofs.Ytkgdcglnkodgnaa
open Go.RowKit Go.Shelf
attribute [local go_sem] Oper.semAt_some
/-- A box keeps what it holds. -/
def KCell (B : Nat) (W W' : World) : Prop := ∀ v, W.cell? ⟨B, 0, none⟩ = some v → W'.cell? ⟨B, 0, none⟩ = some v
theorem KCell.tr {B : Nat} {X Y Z : World} (h : KCell B X Y) (h' : KCell B Y Z) : KCell B X Z := fun v hv => h' v (h v hv)
theorem kcell_b {B N : Nat} : ∀ (W : World) (l : Nat) (o o' : Obj), N ≤ l → W.heap[l]? = some o → o.isCells = false → o.isWalk = false → KCell B W (W.putObj l o') :=
  fun W l o o' _ hl ho _ v h => cell_kept h (grownBy_putObj' W l o') (fun r e => by cases e; exact ⟨o, hl, ho⟩)
set_option maxRecDepth 100000 in
set_option maxHeartbeats 1000000 in
theorem numbers_in (F : Fence) (n : Nat) (h : F.fn 95) (hro : F.round = none) (m : Int) (w : World) :
    CallsIn F n Try.prog 95 #[.int .i64 m] w fun e w' => e = .returned (.func (.func 144) #[] #[.pointer (some ⟨w.heap.size, 0, none⟩)]) ∧ w' = w.alloc (.cells #[.int .i64 m] 3) := by
  refine callsIn_of_wp Try.func95 rfl h ?_ hro
  simp only [Try.ntmps95, List.size_toArray, List.length_cons, List.length_nil, Nat.reduceAdd, Nat.reduceSub, Array.replicate_succ, Array.replicate_zero, List.push_toArray, List.append_toArray, List.nil_append, List.cons_append]
  gi_wp2
  go_ret
  exact ⟨rfl, rfl⟩
/-- Numbers of pages. -/
abbrev Num := { x : Nat // x < 16384 }
set_option maxRecDepth 100000 in
set_option maxHeartbeats 1000000 in
theorem numbers_stops (F : Fence) (n : Nat) (h : F.fn 144) (hro : F.round = none) (hn : 1 ≤ n) (B m : Nat) (hm : m ≤ 16384) (w : World) (hB : B < w.heap.size) (hc : w.cell? ⟨B, 0, none⟩ = some (.int .i64 (m : Int))) :
    SeqStopsK F n Try.prog 144 #[.pointer (some ⟨B, 0, none⟩)] (fun x : Num => #[.int .i64 (x.1 : Int)]) (KCell B) (fun ys => ys.map (·.1) = List.range m) (fun pre => pre.map (·.1) <+: List.range m) m w := fun l J Jx W hW _ _ hY h0 => by
  have hcW : W.cell? ⟨B, 0, none⟩ = some (.int .i64 (m : Int)) := (hW.cell (p := ⟨B, 0, none⟩) hB).trans hc
  refine callsIn_of_wp Try.func144 rfl h ?_ hro
  simp only [Try.ntmps144, List.size_toArray, List.length_cons, List.length_nil, Nat.reduceAdd, Nat.reduceSub, Array.replicate_succ, Array.replicate_zero, List.push_toArray, List.append_toArray, List.nil_append, List.cons_append]
  gi_wp2
  gi_loopw [3] (fun p wr => ∃ (k : Nat) (pre : List Num), p = .int .i64 (k : Int) ∧ k ≤ m ∧ pre.map (·.1) = List.range k ∧ pre.length = k ∧ wr.cell? ⟨B, 0, none⟩ = some (.int .i64 (m : Int)) ∧ J pre wr)
    (fun p _ => m - (intOf p).toNat)
  case atStart =>
    exact ⟨0, [], rfl, by omega, rfl, rfl, hcW, h0⟩
  case round =>
    obtain ⟨k, pre, rfl, hk, hpre, hlen, hcell, hJ⟩ := hrel
    by_cases hlt : k < m
    · obtain ⟨fn, tmps, assign, body, hy, hR⟩ := hY pre ⟨k, by omega⟩ wr hJ (by omega)
      dsimp only at hy
      have hki : (k : Int) < (m : Int) := by omega
      gi_wp2
      refine hR.mono ?_
      rintro e W3 (⟨rfl, hJ3, hk3⟩ | ⟨rfl, hJx3⟩)
      · have hc3 := hk3 _ hcell
        gi_wp2
        go_roundw
        case rel => exact ⟨k + 1, pre ++ [⟨k, by omega⟩], by go_num, by omega, by rw [List.map_append, hpre, List.range_succ]; rfl, by simp [hlen], hc3, hJ3⟩
        case measure => simp [intOf]; omega
      · gi_wp2
        go_end0
        refine ⟨⟨_, rfl⟩, .inr ⟨_, ?_, hJx3⟩⟩
        rw [List.map_append, hpre]
        show List.range k ++ [k] <+: List.range m
        rw [← List.range_succ]
        exact ⟨(List.range (m - (k + 1))).map ((k + 1) + ·), by rw [← List.range_add]; congr 1; omega⟩
    · obtain rfl : k = m := by omega
      have hki : ¬ ((k : Int) < (k : Int)) := by omega
      gi_wp2
      refine ⟨fun _ h => (by cases h), ?_⟩
      gi_wp2
      go_end0
      exact ⟨⟨_, rfl⟩, .inl ⟨pre, hpre, hJ⟩⟩

/-! ### The laws of bytes under a fence -/
section
variable {F : Fence} {k0 : Nat} {w : World} {ops : Array Oper} {rest : List Oper} {o : Oper} {a : Act} {Q : Exit → Act → World → Prop}
/-- append(s, x...): bytes. -/
theorem wlIn_app8 (hgd : o.guard = none) (s x : Operand) (ho : o.op = .call { callee := .builtin .append, args := #[s, x], argTypes := #[22, 22] })
    {base : Nat} {A S : Option Addr} {n c m cs : Nat} {l k : List UInt8} (hs : a.eval s = .slice A n c) (hx : a.eval x = .slice S m cs)
    (hown : Own8 w base A n c l) (hr : Rd8 w S m k) (hb : n + m ≤ 140737488355328) (hbase : base ≤ w.heap.size)
    (h : ∀ v w', App8 w base A c (n + m) (l ++ k) v w' → wpListIn F k0 Try.prog ops Q rest (a.put o.dst v) w') : wpListIn F k0 Try.prog ops Q (o :: rest) a w := by
  obtain ⟨i0, hi, hz0, hz1, hz2⟩ := info_parts info5
  obtain ⟨A', c', w', hrun, hap⟩ := run_append_rd (P := Try.prog) w base 22 o.type 5 i0 _ 1 1 Try.underlying22 hi hz0 hz1 hz2 rfl A n c (bc l) hown S m cs (bc k) hr (bc_one k) (by unfold maxLen; omega) (by omega) hbase
  refine wpListIn_plain hgd fun K hK => ?_
  unfold Oper.wpIn
  refine ⟨?_, ?_⟩
  · simp [Oper.about, ho, resolve, Target.leads, Sem.run_pure]
  · rw [Oper.semAt_plain F _ _ (by rw [ho]; intro c hc'; cases hc')]
    unfold execOp
    simp only [ho, resolve, invoke, builtin, Sem.run_bind, Sem.run_pure, Result.andThen_ok, List.map_toArray, List.map_cons, List.map_nil, hs, hx, hrun]
    refine hK _ _ (h _ _ ⟨A', c', rfl, ?_, hap.2⟩)
    have := hap.1
    rw [← bc_append] at this
    exact this
/-- make([]byte, n, c). -/
theorem wlIn_make8 (hgd : o.guard = none) (x y : Operand) (ho : o.op = .makeSlice 22 x y) {kl kc : IntKind} {li ci : Int} {n c : Nat} (hl : a.eval x = .int kl li) (hc : a.eval y = .int kc ci)
    (hli : li = n) (hci : ci = c) (hnc : n ≤ c) (hb : c ≤ 281474976710656) {base : Nat} (hbase : base ≤ w.heap.size)
    (h : ∀ ob, Own8 (w.alloc ob) base (some ⟨w.heap.size, 0, none⟩) n c (zeros n) → wpListIn F k0 Try.prog ops Q rest (a.put o.dst (.slice (some ⟨w.heap.size, 0, none⟩) n c)) (w.alloc ob)) : wpListIn F k0 Try.prog ops Q (o :: rest) a w := by
  obtain ⟨i0, hi, hz0, hz1, hz2⟩ := info_parts info5
  have hr := run_make (P := Try.prog) w 22 5 i0 _ Try.underlying22 hi hz0 kl kc li ci (by omega) (by omega) (by rw [hz2]; omega) (by omega)
  subst hli; subst hci
  have hm := Own.made (base := base) (e := 5) (size := 1) w (madeCells #[.int .u8 0] c) n c hbase hnc (by unfold maxLen; omega) (by rw [size_madeCells]; omega)
  refine wpListIn_plain hgd fun K hK => ?_
  unfold Oper.wpIn
  refine ⟨?_, ?_⟩
  · simp [Oper.about, ho]
  · rw [Oper.semAt_plain F _ _ (by rw [ho]; intro c hc'; cases hc')]
    unfold execOp
    simp only [ho, Sem.run_bind, Sem.run_pure, Result.andThen_ok, hl, hc, hr, hz1, Int.toNat_natCast, Nat.mul_one]
    refine hK _ _ (h _ ?_)
    have e : (madeCells #[.int .u8 0] c).toList.take (n * 1) = bc (zeros n) := by
      rw [madeCells_bytes, List.toList_toArray, Nat.mul_one, bc_take]
      simp [zeros, List.take_replicate, Nat.min_eq_left hnc]
    rw [e] at hm
    exact hm
end
end Go.Proofs.Ytkgdcglnkodgnaa
