/-
  The walk of the law PageBooks (function 7). No condition but sizes.
-/
import Derived.Test.YtkgdcglnkodgnaaEach
import Derived.Test.YtkgdcglnkodgnaaRound
namespace Go.Proofs.Ytkgdcglnkodgnaa
open Go.RowKit Go.Shelf
attribute [local go_sem] Oper.semAt_some
theorem two_boxes (w W0 : World) (A : Option Addr) (n c : Nat) (hW0 : ((w.alloc (.cells #[.slice A n c] 22)).alloc (.cells #[.bool false] 4)) = W0) :
    Boxed W0 w.heap.size 22 (.slice A n c) ∧ Boxed W0 (w.heap.size + 1) 4 (.bool false) ∧ Below w.heap.size w W0 ∧ W0.heap.size = w.heap.size + 2 := by
  subst hW0
  have e0 := Boxed.new w 22 (.slice A n c)
  have e1 := Boxed.new (w.alloc (.cells #[.slice A n c] 22)) 4 (.bool false)
  simp only [World.size_alloc] at e1
  exact ⟨e0.alloc _, e1, ((Below.refl w.heap.size w).alloc (Nat.le_refl _) _).alloc (by simp) _, by simp⟩
/-- What holds of the law's own cells. -/
def C7 (N base BM BE : Nat) (A : Option Addr) (n c : Nat) (M : Option Addr) (mc : Nat) (l : List UInt8) (m : Nat) (W : World) : Prop :=
  Boxed W N 22 (.slice A n c) ∧ Boxed W (N + 1) 4 (.bool false) ∧ Boxed W BM 3 (.int .i64 (m : Int)) ∧ Boxed W BE 22 (.slice M n mc) ∧ Own8 W base M n mc l ∧ BE + 1 ≤ W.heap.size
theorem c7_own {β : Type} (N base BM BE : Nat) (A : Option Addr) (n c : Nat) (M : Option Addr) (mc : Nat) (l : List UInt8) (m : Nat) : Go.Own (fun (_ : β) W => C7 N base BM BE A n c M mc l m W) := by
  rintro s X Y row ⟨h1, h2, h3, h4, h5, h6⟩ hg hr
  exact ⟨boxed_from h1 hg hr, boxed_from h2 hg hr, boxed_from h3 hg hr, boxed_from h4 hg hr, h5.from_ hg hr, Nat.le_trans h6 hg.size⟩
/-- The same, with the counter, how the count ended, and the block that the first loop laid. -/
def D7 (N base BM BE K D1 : Nat) (A : Option Addr) (n c : Nat) (M : Option Addr) (mc : Nat) (l : List UInt8) (m em k : Nat) (W : World) : Prop :=
  C7 N base BM BE A n c M mc l m W ∧ Boxed W K 3 (.int .i64 (k : Int)) ∧ Boxed W (K + 1) 3 (.int .i64 (em : Int)) ∧ K + 2 ≤ W.heap.size ∧ W.heap[D1]? = some (.deferred (some []))
theorem _root_.Go.Boxed.drew_ {W : World} {B : Nat} {t : TypeId} {v : Value} (h : Boxed W B t v) : Boxed W.drew B t v := h
theorem d7_own {B N base BM BE K D1 : Nat} {A : Option Addr} {n c : Nat} {M : Option Addr} {mc : Nat} {l : List UInt8} {m em : Nat} (hD : D1 < B) : OwnG B (fun _ => False) (fun (pre : List Tell) W => D7 N base BM BE K D1 A n c M mc l m em pre.length W) := by
  rintro s X Y row ⟨h1, h2, h3, h4, h5⟩ hg hr
  have hr' : ∀ r, row = some r → ∃ o : Obj, X.heap[r]? = some o ∧ o.isCells = false := fun r e => (hr r e).elim (fun h => h.2) False.elim
  exact ⟨c7_own (β := Unit) N base BM BE A n c M mc l m () X Y row h1 hg hr', boxed_from h2 hg hr', boxed_from h3 hg hr', Nat.le_trans h4 hg.size,
    (hg.block D1 (Array.getElem?_eq_some_iff.1 h5).1 (fun e => (hr D1 e.symm).elim (fun h => by omega) False.elim)).trans h5⟩
theorem prefix_range {α : Type} (f : Nat → α) {m : Nat} {pre : List α} {x : α} (h : pre ++ [x] <+: (List.range m).map f) : x = f pre.length ∧ pre.length < m := by
  obtain ⟨t, ht⟩ := h
  have h1 := congrArg (fun l => l[pre.length]?) ht
  simp only [List.append_assoc] at h1
  rw [List.getElem?_append_right (Nat.le_refl _)] at h1
  simp only [Nat.sub_self, List.cons_append, List.getElem?_cons_zero, List.getElem?_map] at h1
  by_cases hl : pre.length < m
  · rw [List.getElem?_range hl] at h1
    simp at h1
    exact ⟨h1, hl⟩
  · rw [List.getElem?_eq_none (by simp; omega)] at h1
    simp at h1
theorem prefix_one {α : Type} {y : α} {pre : List α} {x : α} (h : pre ++ [x] <+: [y]) : pre = [] ∧ x = y := by
  obtain ⟨t, ht⟩ := h
  cases pre with
  | nil => simp at ht; exact ⟨rfl, ht.1⟩
  | cons a b => simp at ht
set_option maxRecDepth 100000 in
set_option maxHeartbeats 2000000 in
theorem pageBooks7 (A : Option Addr) (n c : Nat) (l : List UInt8) (kind : UInt8) (number long : Int) (w : World) (h : Rd8 w A n l) (hn : n ≤ 140737488355328) (hnc : n ≤ c)
    (hlo : -9223372036854775808 ≤ number) (hhi : number ≤ 9223372036854775807) (hl2 : long ≤ 9223372036854775807) :
    CallsIn Fence.wide 9 Try.prog 7 #[.slice A n c, .int .u8 (kind.toNat : Int), .int .i64 number, .int .i64 long] w fun e w' => e = .returned (.bool true) ∧ Below w.heap.size w w' := by
  have HL := Hd.mk h.len
  obtain ⟨m, em, hcnt⟩ : ∃ m e, Hd (count n = (m, e)) := ⟨_, _, ⟨rfl⟩⟩
  obtain ⟨d, de, hat⟩ : ∃ d de, Hd (atP l number kind = (d, de)) := ⟨_, _, ⟨rfl⟩⟩
  obtain ⟨g, ge, hga⟩ : ∃ d de, Hd (gatherP l kind number long = (d, de)) := ⟨_, _, ⟨rfl⟩⟩
  obtain ⟨W0, hW0⟩ : ∃ W0, ((w.alloc (.cells #[.slice A n c] 22)).alloc (.cells #[.bool false] 4)) = W0 := ⟨_, rfl⟩
  obtain ⟨e0, e1, eb, es⟩ := two_boxes w W0 A n c hW0
  refine callsIn_of_wp_marks Try.func7 rfl trivial ?_ rfl
  simp only [Try.ntmps7, List.size_toArray, List.length_cons, List.length_nil, Nat.reduceAdd, Nat.reduceSub, Array.replicate_succ, Array.replicate_zero, List.push_toArray, List.append_toArray, List.nil_append, List.cons_append]
  gi_wp2_with fail
  clear hW0
  refine ⟨trivial, ?_⟩
  gi_at_call 23
  refine (callsIn_wide.2 (awake23 _)).mono ?_
  rintro e w1 ⟨rfl, hb1⟩
  have p0 := boxed_below e0 hb1
  have q0 := p0.cell
  gi_wp2_with fail
  refine ⟨trivial, ?_⟩
  gi_at_call 24
  refine (callsIn_wide.2 (twin24 A n c l w1 ((h.below eb).below hb1) hn)).mono ?_
  rintro e w2 ⟨M, mm, mc, rfl, ho2, hb2⟩
  obtain rfl : mm = n := by rw [← ho2.len, HL.out]
  have p1 := boxed_below p0 hb2
  have q1 := p1.cell
  clear q0
  gi_wp2_with fail
  refine ⟨trivial, ?_⟩
  gi_at_call 34
  refine (callsIn_wide.2 (count34 M mm mc _ hn)).mono ?_
  rw [hcnt.out]
  rintro e w' ⟨rfl, rfl⟩
  gi_wp2_with fail
  refine ⟨trivial, ?_⟩
  gi_at_call 35
  refine (callsIn_wide.2 (count35 A mm c _ hn)).mono ?_
  rw [hcnt.out]
  rintro e w' ⟨rfl, rfl⟩
  obtain ⟨W3, hW3⟩ : ∃ W3, (w2.alloc (.cells #[.int .i64 (m : Int)] 3)) = W3 := ⟨_, rfl⟩
  have bm3 : Boxed W3 w2.heap.size 3 (.int .i64 (m : Int)) := by rw [← hW3]; exact Boxed.new w2 3 _
  have p3 : Boxed W3 w.heap.size 22 (.slice A mm c) := by rw [← hW3]; exact p1.alloc _
  have ho3 : Own8 W3 w1.heap.size M mm mc l := by rw [← hW3]; exact ho2.alloc _
  have hB3 : Below w.heap.size w W3 := by
    rw [← hW3]
    exact (((eb.trans (hb1.mono (by omega))).trans (hb2.mono (by have := hb1.size; omega)))).alloc (by have := hb1.size; have := hb2.size; omega) _
  have e13 : Boxed W3 (w.heap.size + 1) 4 (.bool false) := by rw [← hW3]; exact (boxed_below (boxed_below e1 hb1) hb2).alloc _
  have k3 := bm3.cell
  have hs3 : W3.heap.size = w2.heap.size + 1 := by rw [← hW3]; simp
  have hz7 : w.heap.size + 2 ≤ w1.heap.size := by have := hb1.size; omega
  have hz71 : w1.heap.size ≤ w2.heap.size := hb2.size
  have f1 : ((m : Int) != (m : Int)) = false := by simp
  have f2 : ((em : Int) != (em : Int)) = false := by simp
  gi_wp2_with fail
  clear hW3 f1 f2 q1
  refine ⟨trivial, ?_⟩
  gi_at_call 36
  refine (callsIn_wide.2 (at36 M mm mc l number kind W3 ho3.rd hn (Own8.le ho3).1 hlo hhi)).mono ?_
  rw [hat.out]
  rintro e w4 ⟨A4, n4, c4, rfl, hr4, hnc4, hb4, _⟩
  have p4 := boxed_below p3 hb4
  have q4 := p4.cell
  have m4 := boxed_below bm3 hb4
  have ho4 := ho3.below hb4
  have hB4 := hB3.trans (hb4.mono hB3.size)
  have e14 := boxed_below e13 hb4
  clear p3 p1 p0 e0 e1 bm3 ho2 ho3 hb1 hb2 hb4 hB3 eb e13 k3
  gi_wp2_with fail
  refine ⟨trivial, ?_⟩
  gi_at_call 37
  refine (callsIn_wide.2 (rat37 A mm c l number kind w4 (h.below hB4) hn hnc hlo hhi)).mono ?_
  rw [hat.out]
  rintro e w5 ⟨A5, n5, c5, rfl, hr5, hnc5, hb5, _⟩
  have p5 := boxed_below p4 hb5
  have q5 := p5.cell
  have m5 := boxed_below m4 hb5
  have ho5 := ho4.below hb5
  have hB5 := hB4.trans (hb5.mono hB4.size)
  have e15 := boxed_below e14 hb5
  have hr45 := hr4.below hb5
  clear p4 q4 m4 ho4 hB4 hb5 e14 hr4
  gi_wp2_with fail
  refine ⟨trivial, ?_⟩
  gi_at_call 28
  refine (callsIn_wide.2 (same28 A4 A5 n4 c4 n5 c5 _ _ w5 hr45 hr5)).mono ?_
  rw [show (d == d) = true by simp]
  rintro e w6 ⟨rfl, rfl⟩
  have f2 : ((de : Int) != (de : Int)) = false := by simp
  clear hr45 hr5
  gi_wp2_with fail
  clear f2
  refine ⟨trivial, ?_⟩
  gi_at_call 38
  refine (callsIn_wide.2 (gather38 M mm mc l kind number long w5 ho5.rd hn (Own8.le ho5).1 hhi hl2)).mono ?_
  rw [hga.out]
  rintro e w6 ⟨A6, n6, c6, rfl, hr6, hnc6, hb6, _⟩
  have p6 := boxed_below p5 hb6
  have q6 := p6.cell
  have m6 := boxed_below m5 hb6
  have ho6 := ho5.below hb6
  have hB6 := hB5.trans (hb6.mono hB5.size)
  have e16 := boxed_below e15 hb6
  clear p5 q5 m5 ho5 hB5 hb6 e15
  gi_wp2_with fail
  refine ⟨trivial, ?_⟩
  gi_at_call 39
  refine (callsIn_wide.2 (rgather39 A mm c l kind number long w6 (h.below hB6) hn hnc hhi hl2)).mono ?_
  rw [hga.out]
  rintro e w7 ⟨A7, n7, c7, rfl, hr7, hnc7, hb7, _⟩
  have p7 := boxed_below p6 hb7
  have q7 := p7.cell
  have m7 := boxed_below m6 hb7
  have ho7 := ho6.below hb7
  have hB7 := hB6.trans (hb7.mono hB6.size)
  have e17 := boxed_below e16 hb7
  have hr67 := hr6.below hb7
  clear p6 q6 m6 ho6 hB6 hb7 e16 hr6
  gi_wp2_with fail
  refine ⟨trivial, ?_⟩
  gi_at_call 28
  refine (callsIn_wide.2 (same28 A6 A7 n6 c6 n7 c7 _ _ w7 hr67 hr7)).mono ?_
  rw [show (g == g) = true by simp]
  rintro e w8 ⟨rfl, rfl⟩
  have f2 : ((ge : Int) != (ge : Int)) = false := by simp
  obtain ⟨P, hP⟩ : ∃ P, Hd (pages long = P) := ⟨_, ⟨rfl⟩⟩
  have f3 : ((P : Int) != (P : Int)) = false := by simp
  clear hr67 hr7
  gi_wp2_with fail
  refine ⟨trivial, ?_⟩
  gi_at_call 40
  refine (callsIn_wide.2 (pages40 long _ hl2)).mono ?_
  rw [hP.out]
  rintro e w8 ⟨rfl, rfl⟩
  gi_wp2_with fail
  refine ⟨trivial, ?_⟩
  gi_at_call 41
  refine (callsIn_wide.2 (pages41 long _ hl2)).mono ?_
  rw [hP.out]
  rintro e w8 ⟨rfl, rfl⟩
  gi_wp2_with fail
  clear f2 f3
  refine ⟨trivial, ?_⟩
  gi_at_call 33
  refine (each33 _ _ trivial rfl M mm mc w7).mono ?_
  rintro e w8 ⟨rfl, rfl⟩
  have hnil := run_eql_func_nil (P := Try.prog) (w7.alloc (Obj.cells #[Value.slice M mm mc] 22)) 42 (.func 93) #[] #[.pointer (some ⟨w7.heap.size, 0, none⟩)] Try.underlying42
  gi_wp2_with fail
  have hM7 : Hd (∀ g, ownBlk M mc = some g → w1.heap.size ≤ g ∧ g < w7.heap.size) := ⟨fun g hg => ho7.lt hg⟩
  obtain ⟨W8, hW8⟩ : ∃ W8, (w7.alloc (.cells #[.slice M mm mc] 22)) = W8 := ⟨_, rfl⟩
  have hC8 : C7 w.heap.size w1.heap.size w2.heap.size w7.heap.size A mm c M mc l m W8 ∧ Below w.heap.size w W8 := by
    rw [← hW8]
    exact ⟨⟨p7.alloc _, e17.alloc _, m7.alloc _, Boxed.new w7 22 _, ho7.alloc _, by simp⟩, hB7.alloc hB7.size _⟩
  have hm7lt := m7.lt
  clear hnil p7 q7 m7 e17
  rw [hW8]
  have hs8 : W8.heap.size = w7.heap.size + 1 := by rw [← hW8]; simp
  have hcell8 := hC8.1.2.2.2.1.cell
  have hrd8 := hC8.1.2.2.2.2.1.rd
  refine rangeG2_join (p1 := 107) (p2 := 108) rfl (by omega) (gf := 93) (lb := #[.pointer (some ⟨w7.heap.size, 0, none⟩)]) rfl trivial (enters_of Try.func93 (by kernel_rfl) rfl)
    (each_seq 8 (by omega) w7.heap.size M mm mc l W8 (by omega) hcell8 hrd8 hn (Own8.le ho7).1) KBook.tr kbook_b (Below.refl _ _) (fun _ h => h.elim) ownG_true ownG_true
    (fun x : Tell => .int .i64 x.i) (fun x : Tell => .int .i64 (x.e : Int)) rfl (fun _ t => t)
    (fun _ W => C7 w.heap.size w1.heap.size w2.heap.size w7.heap.size A mm c M mc l m W ∧ Below w.heap.size w W) (fun _ W => C7 w.heap.size w1.heap.size w2.heap.size w7.heap.size A mm c M mc l m W ∧ Below w.heap.size w W)
    (OwnG.and (ownG_of_own (c7_own _ _ _ _ _ _ _ _ _ _ _)) (ownG_below (Nat.le_refl _) (by have := hB7.size; omega) (fun _ h => h.elim)))
    (OwnG.and (ownG_of_own (c7_own _ _ _ _ _ _ _ _ _ _ _)) (ownG_below (Nat.le_refl _) (by have := hB7.size; omega) (fun _ h => h.elim)))
    hC8 ?assign ?body ?join
  case assign =>
    intro r x W K hK
    gi_wp2
    exact hK
  case body =>
    intro r pre x W hI hp
    gi_wp2
    exact ⟨KeepsOthers.refl _, ⟨fun _ h => h, fun h => h⟩, rfl, hI⟩
  case join =>
    rintro D1 W9 hD1 hor hK1
    have hC9 : C7 w.heap.size w1.heap.size w2.heap.size w7.heap.size A mm c M mc l m W9 ∧ Below w.heap.size w W9 := hor.elim (fun h => h.1) (fun ⟨_, _, h, _⟩ => h)
    clear hor hC8 hcell8 hrd8 hW8
    obtain ⟨⟨p9, e19, m9, ee9, ho9, hs9⟩, hB9⟩ := hC9
    have p10 : Boxed (W9.alloc (.cells #[.int .i64 0] 3)) w.heap.size 22 (.slice A mm c) := p9.alloc _
    have q10 := p10.cell
    gi_wp2_with (refine ⟨trivial, ?_⟩; gi_at_call 35; refine (callsIn_wide.2 (count35 A mm c _ hn)).mono ?_; rw [hcnt.out]; rintro e w' ⟨rfl, rfl⟩)
    obtain ⟨W11, hW11⟩ : ∃ W11, ((W9.alloc (.cells #[.int .i64 0] 3)).alloc (.cells #[.int .i64 (em : Int)] 3)) = W11 := ⟨_, rfl⟩
    have hs11 : W11.heap.size = W9.heap.size + 2 := by rw [← hW11]; simp
    have hw7 := hB7.size
    have hC11 : D7 w.heap.size w1.heap.size w2.heap.size w7.heap.size W9.heap.size D1 A mm c M mc l m em 0 W11 ∧ Below w.heap.size w W11 := by
      rw [← hW11]
      have hk := Boxed.new W9 3 (.int .i64 0)
      have hc := Boxed.new (W9.alloc (.cells #[.int .i64 0] 3)) 3 (.int .i64 (em : Int))
      simp only [World.size_alloc] at hc
      exact ⟨⟨⟨(p9.alloc _).alloc _, (e19.alloc _).alloc _, (m9.alloc _).alloc _, (ee9.alloc _).alloc _, (ho9.alloc _).alloc _, by simp; omega⟩, hk.alloc _, hc, by simp, (Below.heap_alloc _ _ _ (by have := (Array.getElem?_eq_some_iff.1 hK1).1; simp; omega)).trans ((Below.heap_alloc _ _ _ (Array.getElem?_eq_some_iff.1 hK1).1).trans hK1)⟩, (hB9.alloc (by have := hB9.size; omega) _).alloc (by have := hB9.size; simp; omega) _⟩
    rw [hW11]
    clear hW11 p9 e19 m9 ee9 ho9 hB9 p10 q10
    have hcell11 := hC11.1.1.2.2.2.1.cell
    have hrd11 := hC11.1.1.2.2.2.2.1.rd
    have hD1lt : D1 < W9.heap.size := (Array.getElem?_eq_some_iff.1 hK1).1
    refine rangeG2 (p1 := 115) (p2 := 116) rfl (by omega) (gf := 93) (lb := #[.pointer (some ⟨w7.heap.size, 0, none⟩)]) rfl trivial (enters_of Try.func93 (by kernel_rfl) rfl)
      (each_seq 8 (by omega) w7.heap.size M mm mc l W11 (by omega) hcell11 hrd11 hn (Own8.le ho7).1) KBook.tr kbook_b (Below.refl _ _) (fun _ h => h.elim) ownG_true ownG_true
      (fun x : Tell => .int .i64 x.i) (fun x : Tell => .int .i64 (x.e : Int)) rfl (fun x t => (t.setIfInBounds 20 (.int .i64 x.i)).setIfInBounds 21 (.int .i64 (x.e : Int)))
      (fun pre W => D7 w.heap.size w1.heap.size w2.heap.size w7.heap.size W9.heap.size D1 A mm c M mc l m em pre.length W ∧ Below w.heap.size w W) (fun _ _ _ => False)
      (OwnG.and (d7_own (by omega)) (ownG_below (Nat.le_refl _) (by omega) (fun _ h => h.elim)))
      (fun _ _ _ _ _ h _ _ => h) hC11 ?assign ?body ?done ?stop
    case assign =>
      intro r x W K hK
      gi_wp2
      exact hK
    case stop =>
      intro D c pre W _ _ h _ _
      exact h.elim
    case body =>
      rintro r pre x W ⟨⟨⟨p, e1, m1, ee, ho, hs⟩, hk, hce, hs2, hK⟩, hB⟩ hp
      have qp := p.cell; have qm := m1.cell; have qk := hk.cell; have fk := hk.frozen; have qc := hce.cell
      have hM : Hd (∀ g, ownBlk M mc = some g → g < W9.heap.size) := ⟨fun g hg => by have := (hM7.out g hg).2; omega⟩
      by_cases he : em = 0
      · subst he
        have ht : told l = (List.range m).map (tellP l) := by unfold told; rw [h.len, hcnt.out, if_neg (by simp)]
        rw [ht] at hp
        obtain ⟨rfl, hlt⟩ := prefix_range _ hp
        obtain ⟨hn2, hmm⟩ := count_ok hcnt.out
        generalize hkk : pre.length = k at *
        have HKK : Hd ((pre ++ [tellP l k]).length = k + 1) := ⟨by simp [hkk]⟩
        obtain ⟨rk, rd, re, hre⟩ : ∃ rk rd re, Hd (readP ((l.drop (256 * k)).take 256) (k : Int) = (rk, rd, re)) := ⟨_, _, _, ⟨rfl⟩⟩
        have htl : tellP l k = ⟨(k : Int), re⟩ := by unfold tellP; rw [hre.out]
        rw [htl] at HKK ⊢
        clear hp ht htl hkk
        have HR := (h.below hB).mid (a := 256 * k) (q := 256) (by omega)
        obtain ⟨ad, y, rfl, _, _⟩ := h.at_ (k := 0) (by omega)
        simp only [Option.map_some] at HR
        have hcx : ¬ c = 256 * k := by omega
        have s1 : IntKind.i64.wrap (256 * (k : Int)) = 256 * (k : Int) := IntWalk.i64_in _ (by omega)
        have s2 : IntKind.i64.wrap (256 * (k : Int) + 256) = 256 * (k : Int) + 256 := IntWalk.i64_in _ (by omega)
        have s3 : (0 : Int) ≤ 256 * (k : Int) := by omega
        have s4 : 256 * (k : Int) ≤ 256 * (k : Int) + 256 := by omega
        have s5 : 256 * (k : Int) + 256 ≤ (c : Int) := by omega
        have s6 : (256 * (k : Int)).toNat = 256 * k := by omega
        have s7 : (256 * (k : Int) + 256).toNat = 256 * k + 256 := by omega
        have s8 : 256 * k + 256 - 256 * k = 256 := by omega
        have hmix : Try.prog.follows .mixedOrders = true := by kernel_rfl
        have hree : ((re : Int) != (re : Int)) = false := by simp
        gi_wp2_with fail
        refine region_held_round 16 [false, false, false, false, false, false, false, false, false, false, false, false, false, false, false, false] (by kernel_rfl) (by kernel_rfl) hmix (by kernel_rfl) ?hno (fun w' => w'.cell? ⟨w.heap.size, 0, none⟩ = some (.slice (some ad) mm c) ∧ w'.cell? ⟨W9.heap.size, 0, none⟩ = some (.int .i64 (k : Int))) ⟨qp, qk⟩ (fun hS => ?_)
        case hno => rintro ⟨a, w, h⟩; exact h
        repeat (first
          | ((refine wpAnyH_take (i := 0) (oi := ⟨_, _, _, _, _, _⟩) (v := ?_) rfl (by kernel_rfl) (by decide +kernel) (by decide +kernel) (fun _ _ _ h => h) (Or.inl ⟨by rfl, ?_⟩) (by assumption) ?_); rotate_left; (focus (intro w hSw; (try dsimp only at hSw); go_simp; try with_reducible rfl)); simp only [Act.put, List.setIfInBounds_toArray, List.set_cons_zero, List.set_cons_succ])
          | ((refine wpAnyH_take (i := 1) (oi := ⟨_, _, _, _, _, _⟩) (v := ?_) rfl (by kernel_rfl) (by decide +kernel) (by decide +kernel) (fun _ _ _ h => h) (Or.inl ⟨by rfl, ?_⟩) (by assumption) ?_); rotate_left; (focus (intro w hSw; (try dsimp only at hSw); go_simp; try with_reducible rfl)); simp only [Act.put, List.setIfInBounds_toArray, List.set_cons_zero, List.set_cons_succ])
          | ((refine wpAnyH_take (i := 2) (oi := ⟨_, _, _, _, _, _⟩) (v := ?_) rfl (by kernel_rfl) (by decide +kernel) (by decide +kernel) (fun _ _ _ h => h) (Or.inl ⟨by rfl, ?_⟩) (by assumption) ?_); rotate_left; (focus (intro w hSw; (try dsimp only at hSw); go_simp; try with_reducible rfl)); simp only [Act.put, List.setIfInBounds_toArray, List.set_cons_zero, List.set_cons_succ])
          | ((refine wpAnyH_take (i := 3) (oi := ⟨_, _, _, _, _, _⟩) (v := ?_) rfl (by kernel_rfl) (by decide +kernel) (by decide +kernel) (fun _ _ _ h => h) (Or.inl ⟨by rfl, ?_⟩) (by assumption) ?_); rotate_left; (focus (intro w hSw; (try dsimp only at hSw); go_simp; try with_reducible rfl)); simp only [Act.put, List.setIfInBounds_toArray, List.set_cons_zero, List.set_cons_succ])
          | ((refine wpAnyH_take (i := 4) (oi := ⟨_, _, _, _, _, _⟩) (v := ?_) rfl (by kernel_rfl) (by decide +kernel) (by decide +kernel) (fun _ _ _ h => h) (Or.inl ⟨by rfl, ?_⟩) (by assumption) ?_); rotate_left; (focus (intro w hSw; (try dsimp only at hSw); go_simp; try with_reducible rfl)); simp only [Act.put, List.setIfInBounds_toArray, List.set_cons_zero, List.set_cons_succ])
          | ((refine wpAnyH_take (i := 5) (oi := ⟨_, _, _, _, _, _⟩) (v := ?_) rfl (by kernel_rfl) (by decide +kernel) (by decide +kernel) (fun _ _ _ h => h) (Or.inl ⟨by rfl, ?_⟩) (by assumption) ?_); rotate_left; (focus (intro w hSw; (try dsimp only at hSw); go_simp; try with_reducible rfl)); simp only [Act.put, List.setIfInBounds_toArray, List.set_cons_zero, List.set_cons_succ])
          | ((refine wpAnyH_take (i := 6) (oi := ⟨_, _, _, _, _, _⟩) (v := ?_) rfl (by kernel_rfl) (by decide +kernel) (by decide +kernel) (fun _ _ _ h => h) (Or.inl ⟨by rfl, ?_⟩) (by assumption) ?_); rotate_left; (focus (intro w hSw; (try dsimp only at hSw); go_simp; try with_reducible rfl)); simp only [Act.put, List.setIfInBounds_toArray, List.set_cons_zero, List.set_cons_succ])
          | ((refine wpAnyH_take (i := 7) (oi := ⟨_, _, _, _, _, _⟩) (v := ?_) rfl (by kernel_rfl) (by decide +kernel) (by decide +kernel) (fun _ _ _ h => h) (Or.inl ⟨by rfl, ?_⟩) (by assumption) ?_); rotate_left; (focus (intro w hSw; (try dsimp only at hSw); go_simp; try with_reducible rfl)); simp only [Act.put, List.setIfInBounds_toArray, List.set_cons_zero, List.set_cons_succ]))
        refine wpAnyH_ready (rs := [8]) (by decide +kernel) (by simp) ?_
        refine AllReadyH.cons rfl (fun K hKK => ?_) AllReadyH.nil
        go_wp2_with (go_at_call 30; refine (rread30 (k : Int) (some (ad.add (256 * k))) 256 (c - 256 * k) _ _ HR.drew (by omega) (by omega) (by omega) (by omega)).mono ?_; rw [hre.out]; rintro e Wa ⟨A1, n1, c1, rfl, hr1, hnc1, hb1, hf1⟩)
        have ka := boxed_below hk.drew_ hb1
        have qka := ka.cell
        have fka := ka.frozen
        clear s1 s2 s3 s4 s5 s6 s7 s8 hmix qk fk hS
        refine hKK.out _ _ ⟨(boxed_below p.drew_ hb1).cell, qka⟩ (fun hS => ?_)
        repeat (first
          | ((refine wpAnyH_take (i := 9) (oi := ⟨_, _, _, _, _, _⟩) (v := ?_) rfl (by kernel_rfl) (by decide +kernel) (by decide +kernel) (fun _ _ _ h => h) (Or.inl ⟨by rfl, ?_⟩) (by assumption) ?_); rotate_left; (focus (intro w hSw; (try dsimp only at hSw); go_simp; try with_reducible rfl)); simp only [Act.put, List.setIfInBounds_toArray, List.set_cons_zero, List.set_cons_succ])
          | ((refine wpAnyH_take (i := 10) (oi := ⟨_, _, _, _, _, _⟩) (v := ?_) rfl (by kernel_rfl) (by decide +kernel) (by decide +kernel) (fun _ _ _ h => h) (Or.inl ⟨by rfl, ?_⟩) (by assumption) ?_); rotate_left; (focus (intro w hSw; (try dsimp only at hSw); go_simp; try with_reducible rfl)); simp only [Act.put, List.setIfInBounds_toArray, List.set_cons_zero, List.set_cons_succ])
          | ((refine wpAnyH_take (i := 11) (oi := ⟨_, _, _, _, _, _⟩) (v := ?_) rfl (by kernel_rfl) (by decide +kernel) (by decide +kernel) (fun _ _ _ h => h) (Or.inl ⟨by rfl, ?_⟩) (by assumption) ?_); rotate_left; (focus (intro w hSw; (try dsimp only at hSw); go_simp; try with_reducible rfl)); simp only [Act.put, List.setIfInBounds_toArray, List.set_cons_zero, List.set_cons_succ])
          | ((refine wpAnyH_take (i := 12) (oi := ⟨_, _, _, _, _, _⟩) (v := ?_) rfl (by kernel_rfl) (by decide +kernel) (by decide +kernel) (fun _ _ _ h => h) (Or.inl ⟨by rfl, ?_⟩) (by assumption) ?_); rotate_left; (focus (intro w hSw; (try dsimp only at hSw); go_simp; try with_reducible rfl)); simp only [Act.put, List.setIfInBounds_toArray, List.set_cons_zero, List.set_cons_succ])
          | ((refine wpAnyH_take (i := 13) (oi := ⟨_, _, _, _, _, _⟩) (v := ?_) rfl (by kernel_rfl) (by decide +kernel) (by decide +kernel) (fun _ _ _ h => h) (Or.inl ⟨by rfl, ?_⟩) (by assumption) ?_); rotate_left; (focus (intro w hSw; (try dsimp only at hSw); go_simp; try with_reducible rfl)); simp only [Act.put, List.setIfInBounds_toArray, List.set_cons_zero, List.set_cons_succ])
          | ((refine wpAnyH_take (i := 14) (oi := ⟨_, _, _, _, _, _⟩) (v := ?_) rfl (by kernel_rfl) (by decide +kernel) (by decide +kernel) (fun _ _ _ h => h) (Or.inl ⟨by rfl, ?_⟩) (by assumption) ?_); rotate_left; (focus (intro w hSw; (try dsimp only at hSw); go_simp; try with_reducible rfl)); simp only [Act.put, List.setIfInBounds_toArray, List.set_cons_zero, List.set_cons_succ])
          | ((refine wpAnyH_take (i := 15) (oi := ⟨_, _, _, _, _, _⟩) (v := ?_) rfl (by kernel_rfl) (by decide +kernel) (by decide +kernel) (fun _ _ _ h => h) (Or.inl ⟨by rfl, ?_⟩) (by assumption) ?_); rotate_left; (focus (intro w hSw; (try dsimp only at hSw); go_simp; try with_reducible rfl)); simp only [Act.put, List.setIfInBounds_toArray, List.set_cons_zero, List.set_cons_succ]))
        refine wpAnyH_done (by decide +kernel) ?_ _
        have hb1' : Below W.heap.size W Wa := ⟨hb1.os, hb1.tape, hb1.output, hb1.size, hb1.block⟩
        clear hb1
        gi_wp2
        have hx : ∀ {B t v}, Boxed W B t v → B ≠ W9.heap.size → Boxed (Wa.setCell ⟨W9.heap.size, 0, none⟩ (.int .i64 ((k : Int) + 1))) B t v := fun hb hne => (boxed_below hb hb1').other hne _
        have hoa : Own8 (Wa.setCell ⟨W9.heap.size, 0, none⟩ (.int .i64 ((k : Int) + 1))) w1.heap.size M mm mc l := (ho.below hb1').grown (grownBy_setCell' _ _ _) (fun g hg e => by have := hM.out g hg; injection e with e; omega)
        have hka : Boxed (Wa.setCell ⟨W9.heap.size, 0, none⟩ (.int .i64 ((k : Int) + 1))) W9.heap.size 3 (.int .i64 ((k + 1 : Nat) : Int)) := ka.set _
        have hsa := hb1'.size
        refine ⟨(keeps_below hb1').trans (KeepsOthers.setCell _ _ _), ⟨?_, fun _ => hoa.rd⟩, ?_, ?_⟩
        · intro v hv
          rw [ee.cell] at hv
          cases hv
          exact (hx ee (by omega)).cell
        · rw [HKK.out]
          refine ⟨⟨hx p (by omega), hx e1 (by omega), hx m1 (by omega), hx ee (by omega), hoa, by simp; omega⟩, hka, hx hce (by omega), by simp; omega, ?_⟩
          exact (Below.heap_setCell _ _ _ _ (by simp; omega)).trans ((hb1'.block _ (Array.getElem?_eq_some_iff.1 hK).1).trans hK)
        · exact (hB.trans (hb1'.mono hB.size)).setCell (p := ⟨W9.heap.size, 0, none⟩) (by simp; omega) _
      · have ht : told l = [⟨-1, em⟩] := by unfold told; rw [h.len, hcnt.out, if_pos he]
        rw [ht] at hp
        obtain ⟨rfl, rfl⟩ := prefix_one hp
        have he0 : ((em : Int) != 0) = true := by simp; omega
        have hee : ((em : Int) != (em : Int)) = false := by simp
        clear hp ht
        simp only [List.length_nil] at hk qk
        gi_wp2
        have hx : ∀ {B t v}, Boxed W B t v → B ≠ W9.heap.size → Boxed (W.setCell ⟨W9.heap.size, 0, none⟩ (.int .i64 1)) B t v := fun hb hne => hb.other hne _
        have hoa : Own8 (W.setCell ⟨W9.heap.size, 0, none⟩ (.int .i64 1)) w1.heap.size M mm mc l := ho.grown (grownBy_setCell' _ _ _) (fun g hg e => by have := hM.out g hg; injection e with e; omega)
        have hka : Boxed (W.setCell ⟨W9.heap.size, 0, none⟩ (.int .i64 1)) W9.heap.size 3 (.int .i64 ((0 + 1 : Nat) : Int)) := hk.set _
        refine ⟨KeepsOthers.setCell _ _ _, ⟨?_, fun _ => hoa.rd⟩, ?_, ?_⟩
        · intro v hv
          rw [ee.cell] at hv
          cases hv
          exact (hx ee (by omega)).cell
        · refine ⟨⟨hx p (by omega), hx e1 (by omega), hx m1 (by omega), hx ee (by omega), hoa, by simp; omega⟩, hka, hx hce (by omega), by simp; omega, ?_⟩
          exact (Below.heap_setCell _ _ _ _ (by simp; omega)).trans hK
        · exact hB.setCell (p := ⟨W9.heap.size, 0, none⟩) (by simp; omega) _
    case done =>
      rintro D2 W hD2 ⟨⟨⟨p, e1, m1, ee, ho, hs⟩, hk, hce, hs2, hK⟩, hB⟩ _ hK2
      have qm := m1.cell; have qk := hk.cell; have qc := hce.cell; have q1 := e1.cell; have f1 := e1.frozen
      by_cases he : em = 0
      · subst he
        have ht : (told l).length = m := by unfold told; rw [h.len, hcnt.out, if_neg (by simp)]; simp
        rw [ht] at qk
        have h1 : ((m : Int) == (m : Int)) = true := by simp
        clear ht
        gi_wp2
        have x2 : (W.setCell ⟨w.heap.size + 1, 0, none⟩ (.bool true)).heap[D2]? = some (.deferred (some [])) := (KeepsOthers.setCell W _ _).same D2 _ hK2 rfl
        have x1 : (W.setCell ⟨w.heap.size + 1, 0, none⟩ (.bool true)).heap[D1]? = some (.deferred (some [])) := (KeepsOthers.setCell W _ _).same D1 _ hK rfl
        have x1' : ((W.setCell ⟨w.heap.size + 1, 0, none⟩ (.bool true)).putObj D2 (.deferred none)).heap[D1]? = some (.deferred (some [])) := (World.putObj_heap_other (by omega)).trans x1
        refine ⟨by simp, .inl ⟨_, _, rfl, run_takeDeferred x2, ?_⟩⟩
        refine ⟨by simp, .inl ⟨_, _, rfl, run_takeDeferred x1', ?_⟩⟩
        have hc := cell_kept (cell_kept (e1.set (.bool true)).cell (grownBy_putObj' _ D2 (.deferred none)) (fun r e => by cases e; exact ⟨_, x2, rfl⟩)) (grownBy_putObj' _ D1 (.deferred none)) (fun r e => by cases e; exact ⟨_, x1', rfl⟩)
        refine ⟨.bool true, ?_, rfl, ?_⟩
        · simp [results, Try.f7, go_sem, hc]
        · have b0 := hB.setCell (p := ⟨w.heap.size + 1, 0, none⟩) (by simp <;> omega) (.bool true)
          have b1 := b0.trans (belowK_b (w := w) (Nat.le_refl _) _ D2 _ (.deferred none) (by omega) x2 rfl rfl)
          exact b1.trans (belowK_b (w := w) (Nat.le_refl _) _ D1 _ (.deferred none) (by omega) x1' rfl rfl)
      · have ht : (told l).length = 1 := by unfold told; rw [h.len, hcnt.out, if_pos he]; rfl
        rw [ht] at qk
        have he0 : ((em : Int) != 0) = true := by simp; omega
        clear ht
        gi_wp2
        have x2 : (W.setCell ⟨w.heap.size + 1, 0, none⟩ (.bool true)).heap[D2]? = some (.deferred (some [])) := (KeepsOthers.setCell W _ _).same D2 _ hK2 rfl
        have x1 : (W.setCell ⟨w.heap.size + 1, 0, none⟩ (.bool true)).heap[D1]? = some (.deferred (some [])) := (KeepsOthers.setCell W _ _).same D1 _ hK rfl
        have x1' : ((W.setCell ⟨w.heap.size + 1, 0, none⟩ (.bool true)).putObj D2 (.deferred none)).heap[D1]? = some (.deferred (some [])) := (World.putObj_heap_other (by omega)).trans x1
        refine ⟨by simp, .inl ⟨_, _, rfl, run_takeDeferred x2, ?_⟩⟩
        refine ⟨by simp, .inl ⟨_, _, rfl, run_takeDeferred x1', ?_⟩⟩
        have hc := cell_kept (cell_kept (e1.set (.bool true)).cell (grownBy_putObj' _ D2 (.deferred none)) (fun r e => by cases e; exact ⟨_, x2, rfl⟩)) (grownBy_putObj' _ D1 (.deferred none)) (fun r e => by cases e; exact ⟨_, x1', rfl⟩)
        refine ⟨.bool true, ?_, rfl, ?_⟩
        · simp [results, Try.f7, go_sem, hc]
        · have b0 := hB.setCell (p := ⟨w.heap.size + 1, 0, none⟩) (by simp <;> omega) (.bool true)
          have b1 := b0.trans (belowK_b (w := w) (Nat.le_refl _) _ D2 _ (.deferred none) (by omega) x2 rfl rfl)
          exact b1.trans (belowK_b (w := w) (Nat.le_refl _) _ D1 _ (.deferred none) (by omega) x1' rfl rfl)
end Go.Proofs.Ytkgdcglnkodgnaa
