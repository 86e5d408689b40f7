/- Range over page.Each: the iterator's contract (functions 33, 93). No condition but sizes. -/
import Derived.Test.YtkgdcglnkodgnaaRgather
import Derived.Test.YtkgdcglnkodgnaaRange
namespace Go.Proofs.Ytkgdcglnkodgnaa
open Go.RowKit Go.Shelf
attribute [local go_sem] Oper.semAt_some
theorem run_equalIn_func_nil {P : Program} (w : World) (d : Nat) (t : TypeId) {ps rs : Array TypeId} {v : Bool} (f : Fn) (a b : Array Value) (h : P.underlying t = some (.func ps rs v)) :
    (Op.equalIn (d + 1) t (.func f a b) .nilFunc).run P w = .ok false w := by
  simp [Op.equalIn, run_underlying h]
/-- 'f == nil', f made. -/
theorem run_eql_func_nil {P : Program} (w : World) (t : TypeId) {ps rs : Array TypeId} {v : Bool} (f : Fn) (a b : Array Value) (h : P.underlying t = some (.func ps rs v)) :
    (binOp .eql t (.func f a b) .nilFunc).run P w = .ok (.bool false) w := by
  simp only [binOp]
  simp [Op.equal, Op.maxDepth, run_equalIn_func_nil w 9999 t f a b h]
/-- What an iterator over a book asks of a round: its box and the book's bytes. -/
def KBook (B : Nat) (A : Option Addr) (n : Nat) (l : List UInt8) (W W' : World) : Prop := KCell B W W' ∧ (Rd8 W A n l → Rd8 W' A n l)
theorem KBook.tr {B : Nat} {A : Option Addr} {n : Nat} {l : List UInt8} {X Y Z : World} (h : KBook B A n l X Y) (h' : KBook B A n l Y Z) : KBook B A n l X Z := ⟨KCell.tr h.1 h'.1, fun r => h'.2 (h.2 r)⟩
theorem Rd8.putObj {A : Option Addr} {n : Nat} {l : List UInt8} {W : World} {g : Nat} {o o' : Obj} (ho : W.heap[g]? = some o) (hc : o.isCells = false) (h : Rd8 W A n l) : Rd8 (W.putObj g o') A n l := by
  refine ⟨h.1, fun hn => ?_⟩
  obtain ⟨ad, hA, hcell⟩ := h.2 hn
  refine ⟨ad, hA, fun j u hu => ?_⟩
  exact (grownBy_putObj' W g o').cell (hcell j u hu) (by
    intro e
    injection e with e
    have hx := hcell j u hu
    unfold World.cell? at hx
    rw [e, ho] at hx
    cases o <;> simp_all [Obj.isCells])
theorem kbook_b {B N : Nat} {A : Option Addr} {n : Nat} {l : List UInt8} : ∀ (W : World) (g : Nat) (o o' : Obj), N ≤ g → W.heap[g]? = some o → o.isCells = false → o.isWalk = false → KBook B A n l W (W.putObj g o') :=
  fun W g o o' hN ho hc hw => ⟨kcell_b (N := N) W g o o' hN ho hc hw, Rd8.putObj ho hc⟩
set_option maxRecDepth 100000 in
set_option maxHeartbeats 1000000 in
theorem each33 (F : Fence) (n : Nat) (h : F.fn 33) (hro : F.round = none) (A : Option Addr) (m c : Nat) (w : World) :
    CallsIn F n Try.prog 33 #[.slice A m c] w fun e w' => e = .returned (.func (.func 93) #[] #[.pointer (some ⟨w.heap.size, 0, none⟩)]) ∧ w' = w.alloc (.cells #[.slice A m c] 22) := by
  refine callsIn_of_wp Try.func33 rfl h ?_ hro
  simp only [Try.ntmps33, List.size_toArray, List.length_cons, List.length_nil, Nat.reduceAdd, Nat.reduceSub, Array.replicate_succ, Array.replicate_zero, List.push_toArray, List.append_toArray, List.nil_append, List.cons_append]
  gi_wp2
  go_ret
  exact ⟨rfl, rfl⟩
/-- What Each tells: a page's number (-1: none), an error. -/
structure Tell where
  i : Int
  e : Nat
/-- A page's. -/
def tellP (l : List UInt8) (k : Nat) : Tell := ⟨(k : Int), (readP ((l.drop (256 * k)).take 256) (k : Int)).2.2⟩
/-- What comes. -/
def told (l : List UInt8) : List Tell := if (count l.length).2 ≠ 0 then [⟨-1, (count l.length).2⟩] else (List.range (count l.length).1).map (tellP l)
/-- What comes, as values. -/
def tellV (x : Tell) : Array Value := #[.int .i64 x.i, .int .i64 (x.e : Int)]
theorem prefix_map_range {α : Type} (f : Nat → α) (k m : Nat) (h : k ≤ m) : (List.range k).map f <+: (List.range m).map f :=
  ⟨(List.range (m - k)).map (fun i => f (k + i)), by
    have e : List.range m = List.range k ++ (List.range (m - k)).map (k + ·) := by rw [← List.range_add]; congr 1; omega
    rw [e, List.map_append, List.map_map]; rfl⟩
set_option maxRecDepth 100000 in
set_option maxHeartbeats 1000000 in
theorem each_seq (q : Nat) (hq : 1 ≤ q) (B : Nat) (A : Option Addr) (n c : Nat) (l : List UInt8) (w : World) (hB : B < w.heap.size) (hc : w.cell? ⟨B, 0, none⟩ = some (.slice A n c)) (h : Rd8 w A n l) (hn : n ≤ 140737488355328) (hnc : n ≤ c) :
    SeqG Fence.wide q Try.prog 93 #[.pointer (some ⟨B, 0, none⟩)] tellV (KBook B A n l) (fun _ => False) (told l) (fun _ => True) (fun _ _ => True) w := fun y J Jx W hW hJ hJx hY h0 => by
  have hcW : W.cell? ⟨B, 0, none⟩ = some (.slice A n c) := (hW.cell (p := ⟨B, 0, none⟩) hB).trans hc
  have hrW := h.below hW
  obtain ⟨m, em, hcnt⟩ : ∃ m e, Hd (count n = (m, e)) := ⟨_, _, ⟨rfl⟩⟩
  have HT : Hd (told l = if em ≠ 0 then [⟨-1, em⟩] else (List.range m).map (tellP l)) := ⟨by unfold told; rw [h.len, hcnt.out]⟩
  refine callsIn_of_wp Try.func93 rfl trivial ?_ rfl
  simp only [Try.ntmps93, List.size_toArray, List.length_cons, List.length_nil, Nat.reduceAdd, Nat.reduceSub, Array.replicate_succ, Array.replicate_zero, List.push_toArray, List.append_toArray, List.nil_append, List.cons_append]
  by_cases he : em = 0
  · subst he
    have HT' := HT.out
    rw [if_neg (by simp)] at HT'
    obtain ⟨hn2, hmm⟩ := count_ok hcnt.out
    gi_wp2_with (first
      | (refine ⟨trivial, ?_⟩; gi_at_call 34; refine (callsIn_wide.2 (count34 A n c _ hn)).mono ?_; rw [hcnt.out]; rintro e w' ⟨rfl, rfl⟩))
    gi_loopw [20, 5, 6, 7, 8] (fun p _ _ _ _ wr => ∃ (k : Nat), p = .int .i64 (k : Int) ∧ k ≤ m ∧ wr.cell? ⟨B, 0, none⟩ = some (.slice A n c) ∧ Rd8 wr A n l ∧ J ((List.range k).map (tellP l)) wr)
      (fun p _ _ _ _ _ => m - (intOf p).toNat)
    case atStart =>
      exact ⟨0, rfl, by omega, hcW, hrW, h0⟩
    case round =>
      obtain ⟨k, rfl, hk, hcell, hr, hJk⟩ := hrel
      by_cases hlt : k < m
      · obtain ⟨rk, rd, re, hre⟩ : ∃ rk rd re, Hd (readP ((l.drop (256 * k)).take 256) (k : Int) = (rk, rd, re)) := ⟨_, _, _, ⟨rfl⟩⟩
        have hp1 : Hd (∀ W1, J ((List.range k).map (tellP l)) W1 → YieldAt Fence.wide (q - 1) Try.prog y (tellV ⟨(k : Int), re⟩) W1 fun e W' =>
            (e = .returned (.bool true) ∧ J ((List.range (k + 1)).map (tellP l)) W' ∧ KBook B A n l W1 W') ∨ (e = .returned (.bool false) ∧ Jx ((List.range (k + 1)).map (tellP l)) W' ∧ KBook B A n l W1 W')) := ⟨fun W1 hj => by
          have e1 : ((List.range k).map (tellP l)) ++ [⟨(k : Int), re⟩] = (List.range (k + 1)).map (tellP l) := by
            rw [List.range_succ, List.map_append]
            simp [tellP, hre.out]
          have := hY _ ⟨(k : Int), re⟩ W1 hj (by rw [e1, HT']; exact prefix_map_range _ _ _ hlt)
          rw [e1] at this
          exact this⟩
        have hki : (k : Int) < (m : Int) := by omega
        clear HT'
        have HJ := Hd.mk hJk
        clear hJk hY h0 hJx
        gi_wp2_with (first
          | (refine ⟨trivial, ?_⟩; gi_at_call 94; refine (callsIn_wide.2 (cut94 A n c k l wr hr hn2 hnc (by omega))).mono ?_; rintro e w' ⟨D, rfl, hD, rfl⟩)
          | (refine ⟨trivial, ?_⟩; gi_at_call 29; refine (callsIn_wide.2 (read29 (k : Int) D 256 256 _ _ hD (by omega) (by omega) (by omega) (by omega))).mono ?_; rw [hre.out]; rintro e w1 ⟨A1, n1, c1, rfl, hr1, hnc1, hb1, hf1⟩; obtain ⟨fn, tmps, assign, body, hy, hR⟩ := hp1.out w1 (hJ.below hb1 HJ.out); simp only [tellV] at hy))
        refine hR.mono ?_
        rintro e W3 (⟨rfl, hJ3, hk3⟩ | ⟨rfl, hJx3, hk3⟩)
        · have hcell3 := hk3.1 _ ((hb1.cell (p := ⟨B, 0, none⟩) (cell_lt hcell)).trans hcell)
          have hr3 := hk3.2 (hr.below hb1)
          have HJ3 := Hd.mk hJ3
          clear hJ3 hk3
          gi_wp2
          go_roundw
          case rel => exact ⟨k + 1, by go_num, by omega, hcell3, hr3, HJ3.out⟩
          case measure => simp [intOf]; omega
        · have HJ3 := Hd.mk hJx3
          clear hJx3 hk3
          gi_wp2
          refine bodyPost_ret (results_none rfl _ _ _) rfl ?_
          refine ⟨⟨_, rfl⟩, .inr ⟨_, ?_, HJ3.out, trivial⟩⟩
          have HT' := HT.out
          rw [if_neg (by simp)] at HT'
          rw [HT']
          exact prefix_map_range _ _ _ hlt
      · obtain rfl : k = m := by omega
        have hki : ¬ ((k : Int) < (k : Int)) := by omega
        have HJ3 := Hd.mk hJk
        clear hJk
        gi_wp2
        go_end0
        exact ⟨⟨_, rfl⟩, .inl HJ3.out⟩
  · have he0 : ((em : Int) != 0) = true := by simp; omega
    have HT' := HT.out
    rw [if_pos he] at HT'
    have hy0 := hY [] ⟨-1, em⟩ W h0 (by rw [HT']; exact ⟨[], rfl⟩)
    obtain ⟨fn, tmps, assign, body, hy, hR⟩ := hy0
    simp only [tellV] at hy
    have HTT := Hd.mk HT'
    clear HT' hY h0 hJ hJx he
    gi_wp2_with (first
      | (refine ⟨trivial, ?_⟩; gi_at_call 34; refine (callsIn_wide.2 (count34 A n c _ hn)).mono ?_; rw [hcnt.out]; rintro e w' ⟨rfl, rfl⟩))
    refine hR.mono ?_
    rintro e W3 (⟨rfl, hJ3, hk3⟩ | ⟨rfl, hJx3, hk3⟩)
    · have HJ3 := Hd.mk hJ3
      clear hJ3 hk3
      gi_wp2
      refine bodyPost_ret (results_none rfl _ _ _) rfl ?_
      exact ⟨⟨_, rfl⟩, .inl ⟨by rw [HTT.out]; exact HJ3.out, trivial⟩⟩
    · have HJ3 := Hd.mk hJx3
      clear hJx3 hk3
      gi_wp2
      refine bodyPost_ret (results_none rfl _ _ _) rfl ?_
      exact ⟨⟨_, rfl⟩, .inr ⟨_, by rw [HTT.out]; exact ⟨[], rfl⟩, HJ3.out, trivial⟩⟩
end Go.Proofs.Ytkgdcglnkodgnaa
