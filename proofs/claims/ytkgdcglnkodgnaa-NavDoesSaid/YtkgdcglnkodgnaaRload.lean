/-
  The document's reader in memory (folioref26), and its Load. No condition but sizes.
-/
import Derived.Test.YtkgdcglnkodgnaaRtake
import Derived.Test.YtkgdcglnkodgnaaNavR
namespace Go.Proofs.Ytkgdcglnkodgnaa
open Go.RowKit
/-- The document's reader in block g, its slices. -/
structure RefC (w : World) (g : Nat) (F : Nat → Prop) (r : RN) (A1 : Option Addr) (n1 c1 : Nat) (A2 : Option Addr) (n2 c2 : Nat) : Prop where
  heap : w.heap[g]? = some (.cells #[.slice A1 n1 c1, .int .i64 r.at', .slice A2 n2 c2] 175 (0, 0))
  o1 : OwnP w 0 A1 n1 c1 r.row
  o2 : OwnP w 0 A2 n2 c2 r.m
  fg : F g
  f1 : ∀ k, ownBlk A1 c1 = some k → F k
  f2 : ∀ k, ownBlk A2 c2 = some k → F k
  d12 : ∀ k, ownBlk A1 c1 = some k → ownBlk A2 c2 ≠ some k
  lt : ∀ k, F k → k < w.heap.size
def RefAt (w : World) (g : Nat) (F : Nat → Prop) (r : RN) : Prop := ∃ A1 n1 c1 A2 n2 c2, RefC w g F r A1 n1 c1 A2 n2 c2
def RefTo (w w' : World) (g : Nat) (F : Nat → Prop) (r : RN) : Prop := RefAt w' g (up F w w') r ∧ Tch F w w'
section
variable {w w' : World} {g : Nat} {F : Nat → Prop} {r : RN} {A1 A2 : Option Addr} {n1 c1 n2 c2 : Nat}
theorem ref_cells {a b c : Value} (h : w.heap[g]? = some (.cells #[a, b, c] 175 (0, 0))) :
    w.cell? ⟨g, 0, none⟩ = some a ∧ w.cell? ⟨g, 1, none⟩ = some b ∧ w.cell? ⟨g, 2, none⟩ = some c ∧ (∀ j, w.frozen? ⟨g, j, none⟩ = false) :=
  ⟨(cell_of_row _ _ 0 _ _ _ h).trans rfl, (cell_of_row _ _ 1 _ _ _ h).trans rfl, (cell_of_row _ _ 2 _ _ _ h).trans rfl, fun j => frozen_of_row w g j _ _ h⟩
theorem RefC.keep (h : RefC w g F r A1 n1 c1 A2 n2 c2) {G : Nat → Prop} (ht : Tch G w w') (hG : ∀ k, F k → ¬ G k) : RefC w' g F r A1 n1 c1 A2 n2 c2 :=
  ⟨(ht.block g (h.lt g h.fg) (hG g h.fg)).trans h.heap, Own.keep h.o1 fun k e _ hl => ht.block k hl (hG k (h.f1 k e)), Own.keep h.o2 fun k e _ hl => ht.block k hl (hG k (h.f2 k e)), h.fg, h.f1, h.f2, h.d12, fun k e => Nat.lt_of_lt_of_le (h.lt k e) ht.size⟩
theorem RefAt.keep (h : RefAt w g F r) {G : Nat → Prop} (ht : Tch G w w') (hG : ∀ k, F k → ¬ G k) : RefAt w' g F r := by
  obtain ⟨A1, n1, c1, A2, n2, c2, h⟩ := h
  exact ⟨A1, n1, c1, A2, n2, c2, h.keep ht hG⟩
theorem RefAt.below (h : RefAt w g F r) (hb : Below w.heap.size w w') : RefAt w' g F r := h.keep (Tch.of_below (F := fun _ => False) hb) (fun _ _ => id)
theorem RefAt.lt (h : RefAt w g F r) : ∀ k, F k → k < w.heap.size := by
  obtain ⟨A1, n1, c1, A2, n2, c2, h⟩ := h
  exact h.lt
theorem RefAt.mono (h : RefAt w g F r) {G : Nat → Prop} (hFG : ∀ k, F k → G k) (hG : ∀ k, G k → k < w.heap.size) : RefAt w g G r := by
  obtain ⟨A1, n1, c1, A2, n2, c2, h⟩ := h
  exact ⟨A1, n1, c1, A2, n2, c2, h.heap, h.o1, h.o2, hFG _ h.fg, fun k e => hFG k (h.f1 k e), fun k e => hFG k (h.f2 k e), h.d12, hG⟩
/-- A reader made of parts. -/
theorem ref_parts {B1 B2 : Nat} {L : Nat} (hx : w.heap[g]? = some (.cells #[.slice A1 n1 c1, .int .i64 r.at', .slice A2 n2 c2] 175 (0, 0))) (h0 : L ≤ g) (o1 : OwnP w B1 A1 n1 c1 r.row) (o2 : OwnP w B2 A2 n2 c2 r.m)
    (hB1 : L ≤ B1) (hB2 : L ≤ B2) (d : ∀ k, ownBlk A2 c2 = some k → k < B1) : RefAt w g (fun k => L ≤ k ∧ k < w.heap.size) r := by
  have l1 := fun k => Own.lt (g := k) o1
  have l2 := fun k => Own.lt (g := k) o2
  refine ⟨A1, n1, c1, A2, n2, c2, hx, Own.mono o1 (Nat.zero_le _), Own.mono o2 (Nat.zero_le _), ⟨h0, (Array.getElem?_eq_some_iff.1 hx).1⟩, fun k e => ?_, fun k e => ?_, fun k e e' => ?_, fun k e => e.2⟩
  · have := l1 k e; omega
  · have := l2 k e; omega
  · have := d k e'; have := l1 k e; omega
end
/-- What Load of the document answers. -/
def RetRLoad (w : World) (r : Option NS) (e : Ending) (w' : World) : Prop :=
  Below w.heap.size w w' ∧ (match r with
    | none => e = .returned (.tuple #[.pointer none, .int .i64 263])
    | some s => ∃ g F, e = .returned (.tuple #[.pointer (some ⟨g, 0, none⟩), .int .i64 0]) ∧ RefAt w' g F s.rn ∧ ∀ k, F k → w.heap.size ≤ k)
theorem retRLoad_none {w w' : World} {e : Ending} {r : Option NS} (hr : Hd (r = none)) (hb : Below w.heap.size w w') (he : e = .returned (.tuple #[.pointer none, .int .i64 263])) : RetRLoad w r e w' := by rw [hr.out]; exact ⟨hb, he⟩
theorem retRLoad_some {w w' : World} {e : Ending} {r : Option NS} {s : NS} {g : Nat} {F : Nat → Prop} (hr : Hd (r = some s)) (hb : Below w.heap.size w w') (he : e = .returned (.tuple #[.pointer (some ⟨g, 0, none⟩), .int .i64 0])) (h : RefAt w' g F s.rn) (hF : ∀ k, F k → w.heap.size ≤ k) : RetRLoad w r e w' := by rw [hr.out]; exact ⟨hb, g, F, he, h, hF⟩
theorem retRLoad_elim {w w' : World} {e : Ending} {r : Option NS} {s : NS} (hr : r = some s) (h : RetRLoad w r e w') :
    Below w.heap.size w w' ∧ ∃ g F, e = .returned (.tuple #[.pointer (some ⟨g, 0, none⟩), .int .i64 0]) ∧ RefAt w' g F s.rn ∧ ∀ k, F k → w.heap.size ≤ k := by subst hr; exact h
theorem load_magic {l m : List UInt8} {s1 : CS} (h : takeC ⟨l, 0, 0⟩ 4 = (m, s1)) (hm : m ≠ magicN) : loadN l = none := by
  unfold loadN
  rw [if_pos]
  unfold Lds.bad
  refine decide_eq_true (.inr (.inl ?_))
  show (takeC ⟨l, 0, 0⟩ 4).1 ≠ magicN
  rw [h]; exact hm
theorem own_cell' {W : World} {B : Nat} {A : Option Addr} {n cc j gx : Nat} {l : List Pl} {v : Value} (o : OwnP W B A n cc l) (hB : ∀ k, ownBlk A cc = some k → k ≠ gx) : OwnP (W.setCell ⟨gx, j, none⟩ v) B A n cc l :=
  Own.keep o fun k e _ _ => heap_setCell_other W ⟨gx, j, none⟩ k _ (hB k e)
/-- Two operations may come next. -/
theorem wpAnyZ_two {P : Program} {ops : Array Oper} {Q : Exit → Act → World → Prop} {md : Region.Mode} {S : World → Prop} {Z : List Nat} {i j : Nat} {oi oj : Oper} {fuel : Nat} {listed : Array Bool} {a : Act} {w : World} (hi : ops[i]? = some oi) (hj : ops[j]? = some oj) (hr : Region.ready md ops listed = [i, j])
    (h : ∀ K' : Act → World → Prop, Shut (∀ a w, (zDone Z (listed.setIfInBounds i true) = false → S w) → wpAnyZ P md ops Q S Z fuel (listed.setIfInBounds i true) a w → K' a w) → if Region.wanted oi (yielded ops a.tmps) = true then Oper.wp P oi a w K' Q else K' (a.put oi.dst undef) w)
    (h' : ∀ K' : Act → World → Prop, Shut (∀ a w, (zDone Z (listed.setIfInBounds j true) = false → S w) → wpAnyZ P md ops Q S Z fuel (listed.setIfInBounds j true) a w → K' a w) → if Region.wanted oj (yielded ops a.tmps) = true then Oper.wp P oj a w K' Q else K' (a.put oj.dst undef) w) :
    wpAnyZ P md ops Q S Z (fuel + 1) listed a w := by
  refine ⟨fun h0 => (by rw [hr] at h0; cases h0), ?_⟩
  rw [hr]
  intro k hk
  simp only [List.mem_cons, List.not_mem_nil, or_false] at hk
  rcases hk with rfl | rfl
  · exact wpOp_step hi (fun K' hK => h K' (fun a w hS hW => hK a w ⟨hS, hW⟩))
  · exact wpOp_step hj (fun K' hK => h' K' (fun a w hS hW => hK a w ⟨hS, hW⟩))
/-- What Load of the document holds: the cursor. -/
structure RlS (w W : World) (g : Nat) (c : CS) : Prop where
  c : Cur 170 W g c
  b : Below w.heap.size w W
  lo : w.heap.size ≤ g
theorem RlS.call {w W W' : World} {g : Nat} {c c' : CS} (h : RlS w W g c) (hc : Cur 170 W' g c') (T : Tch (fun k => k = g) W W') : RlS w W' g c' :=
  ⟨hc, h.b.trans (T.below (fun k e => by have := h.lo; omega) h.b.size), h.lo⟩
theorem ownc {W W' : World} {g B n c : Nat} {A : Option Addr} {l : List Pl} (o : OwnP W B A n c l) (hB : g < B) (T : Tch (fun k => k = g) W W') : OwnP W' B A n c l := own_call o hB T
set_option maxRecDepth 100000 in
set_option maxHeartbeats 4000000 in
theorem rload72 (A : Option Addr) (n c : Nat) (l : List UInt8) (w : World) (h : Rd8 w A n l) (hn : n ≤ 140737488355328) (hnc : n ≤ c) :
    Calls Try.prog 72 #[.slice A n c] w (RetRLoad w (loadN l)) := by
  obtain ⟨m, s1, E1⟩ : ∃ m s1, Hd (takeC ⟨l, 0, 0⟩ 4 = (m, s1)) := ⟨_, _, ⟨rfl⟩⟩
  obtain ⟨bh, s2, E2⟩ : ∃ x y, Hd (takenC s1 32 = (x, y)) := ⟨_, _, ⟨rfl⟩⟩
  obtain ⟨nw, s3, E3⟩ : ∃ x y, Hd (takenC s2 1 = (x, y)) := ⟨_, _, ⟨rfl⟩⟩
  obtain ⟨ah, s4, E4⟩ : ∃ x y, Hd (takenC s3 32 = (x, y)) := ⟨_, _, ⟨rfl⟩⟩
  obtain ⟨mk, s5, E5⟩ : ∃ x y, Hd (takenC s4 16 = (x, y)) := ⟨_, _, ⟨rfl⟩⟩
  have HX : Hd (ldsN l = ⟨m, bh, nw, ah, mk, s5⟩) := ⟨by
    unfold ldsN
    simp only [E1.out, E2.out, E3.out, E4.out, E5.out]⟩
  have hc0 : Hd (Cur 170 (w.alloc (.cells #[.slice A n c, .int .i64 0, .int .i64 0] 170)) w.heap.size ⟨l, 0, 0⟩) :=
    ⟨⟨A, n, c, heap_alloc_new w _, h.alloc _, hnc, Nat.zero_le _, hn, fun hn0 => Rd8.lt h hn0⟩⟩
  have hA0 := Hd.mk (below_alloc w (.cells #[.slice A n c, .int .i64 0, .int .i64 0] 170))
  have hmix := try_mixed
  go_enter Try.func72, Try.ntmps72
  go_wp2_with fail
  refine (rtake116 w.heap.size ⟨l, 0, 0⟩ 4 _ hc0.out (by omega) (by omega)).mono ?_
  rw [E1.out]
  rintro e w2 ⟨M, mn, mc, rfl, om, C1, g2⟩
  have hstr := run_str8 (c := mc) om.rd
  obtain ⟨g, hgx⟩ : ∃ g, Hd (w.heap.size = g) := ⟨_, ⟨rfl⟩⟩
  have HC2 := Hd.mk C1
  have HB2 := Hd.mk (hA0.out.grown g2 hA0.out.size (fun k e => by injection e with e; omega))
  obtain ⟨str, hs⟩ : ∃ str, Hd ((⟨m.toArray⟩ : ByteArray) = str) := ⟨_, ⟨rfl⟩⟩
  rw [hs.out] at hstr
  have hlt2 : Hd (w.heap.size < w2.heap.size) := ⟨C1.lt⟩
  clear om C1 g2 hA0 hc0
  by_cases hm : m = magicN
  · have hse : str = ⟨#[78, 65, 86, 49]⟩ := by rw [← hs.out, hm]; rfl
    subst hse
    go_wp2_with fail
    clear hstr
    have L2 : Hd (RlS w w2 g s1) := ⟨⟨hgx.out ▸ HC2.out, HB2.out, Nat.le_of_eq hgx.out⟩⟩
    rw [hgx.out]
    clear HC2 HB2 hlt2 hs
    refine (take117 g s1 32 w2 L2.out.c (by omega)).mono ?_
    rw [E2.out]
    rintro e w3 ⟨A1, n1, c1, bh', rfl, oa, hn2, he2, C2, T2⟩
    have L3 := Hd.mk (L2.out.call C2 T2)
    have HE2 := Hd.mk he2
    have Hoa3 := Hd.mk oa
    have doa := Hd.mk (sl_lt oa)
    have zoa := Hd.mk L2.out.c.lt
    have hz2 := Hd.mk T2.size
    clear oa he2 C2 T2 L2
    simp only
    go_wp2_with fail
    refine (take117 g s2 1 w3 L3.out.c (by omega)).mono ?_
    rw [E3.out]
    rintro e w4 ⟨A4, n4, c4, nw', rfl, od, hn3, he3, C3, T3⟩
    have L4 := Hd.mk (L3.out.call C3 T3)
    have HE3 := Hd.mk he3
    have Hod4 := Hd.mk od
    have dod := Hd.mk (sl_lt od)
    have zod := Hd.mk L3.out.c.lt
    have hz3 := Hd.mk T3.size
    have Hoa4 := Hd.mk (ownc Hoa3.out zoa.out T3)
    clear od he3 C3 T3 L3 Hoa3
    simp only
    go_wp2_with fail
    refine (take117 g s3 32 w4 L4.out.c (by omega)).mono ?_
    rw [E4.out]
    rintro e w5 ⟨A2, n2, c2, ah', rfl, ob, hn4, he4, C4, T4⟩
    have L5 := Hd.mk (L4.out.call C4 T4)
    have HE4 := Hd.mk he4
    have Hob5 := Hd.mk ob
    have dob := Hd.mk (sl_lt ob)
    have zob := Hd.mk L4.out.c.lt
    have hz4 := Hd.mk T4.size
    have Hoa5 := Hd.mk (ownc Hoa4.out zoa.out T4)
    have Hod5 := Hd.mk (ownc Hod4.out zod.out T4)
    clear ob he4 C4 T4 L4 Hoa4 Hod4
    simp only
    go_wp2_with fail
    refine (take117 g s4 16 w5 L5.out.c (by omega)).mono ?_
    rw [E5.out]
    rintro e w6 ⟨A3, n3, c3, mk', rfl, oc, hn5, he5, C5, T5⟩
    have L6 := Hd.mk (L5.out.call C5 T5)
    have HE5 := Hd.mk he5
    have Hoc6 := Hd.mk oc
    have doc := Hd.mk (sl_lt oc)
    have zoc := Hd.mk L5.out.c.lt
    have hz5 := Hd.mk T5.size
    have Hoa6 := Hd.mk (ownc Hoa5.out zoa.out T5)
    have Hod6 := Hd.mk (ownc Hod5.out zod.out T5)
    have Hob6 := Hd.mk (ownc Hob5.out zob.out T5)
    clear oc he5 C5 T5 L5 Hoa5 Hod5 Hob5
    simp only
    have L := L6
    simp only at L HE2 HE3 HE4 HE5
    clear L6
    have l1 := Hd.mk (OwnP.len Hoa6.out)
    have l2 := Hd.mk (OwnP.len Hob6.out)
    have l3 := Hd.mk (OwnP.len Hoc6.out)
    have l4 := Hd.mk (OwnP.len Hod6.out)
    have hz5L : Hd (w.heap.size ≤ w5.heap.size) := ⟨by have h1 := hz2.out; have h2 := hz3.out; have h3 := hz4.out; have h4 := zoa.out; have := L.out.lo; omega⟩
    have k1 : Hd (s2.err ≠ 0 → s3.err ≠ 0) := ⟨fun e => by have := E3.out; rw [takenC_bad e] at this; injection this with _ this; rw [← this]; exact e⟩
    have k2 : Hd (s3.err ≠ 0 → s4.err ≠ 0) := ⟨fun e => by have := E4.out; rw [takenC_bad e] at this; injection this with _ this; rw [← this]; exact e⟩
    have k3 : Hd (s4.err ≠ 0 → s5.err ≠ 0) := ⟨fun e => by have := E5.out; rw [takenC_bad e] at this; injection this with _ this; rw [← this]; exact e⟩
    by_cases h5 : s5.err = 0
    case neg =>
      have hN : Hd (loadN l = none) := ⟨by
        unfold loadN
        rw [HX.out, if_pos]
        refine decide_eq_true (.inl ?_)
        unfold endC
        rw [if_pos h5]; exact h5⟩
      have hf5 : decide (s5.err = 0) = false := decide_eq_false h5
      clear h5 HX E1 E2 E3 E4 E5 HE2 HE3 HE4 HE5 k3 l1 l2 l3 l4
      by_cases h2 : s2.err = 0
      · have hf2 : decide (s2.err = 0) = true := decide_eq_true h2
        by_cases h3 : s3.err = 0
        · have hf3 : decide (s3.err = 0) = true := decide_eq_true h3
          by_cases h4 : s4.err = 0
          · have hf4 : decide (s4.err = 0) = true := decide_eq_true h4
            clear h2 h3 h4
            simp only [hf2, hf3, hf4, hf5]
            go_wp2_with fail
            go_ret2
            exact retRLoad_none hN L.out.b rfl
          · have hf4 : decide (s4.err = 0) = false := decide_eq_false h4
            clear h2 h3 h4
            simp only [hf2, hf3, hf4, hf5]
            go_wp2_with fail
            go_ret2
            exact retRLoad_none hN L.out.b rfl
        · have hf3 : decide (s3.err = 0) = false := decide_eq_false h3
          clear h2 h3
          simp only [hf2, hf3, hf5]
          go_wp2_with fail
          go_ret2
          exact retRLoad_none hN L.out.b rfl
      · have hf2 : decide (s2.err = 0) = false := decide_eq_false h2
        clear h2
        simp only [hf2, hf5]
        go_wp2_with fail
        go_ret2
        exact retRLoad_none hN L.out.b rfl
    have h4 : s4.err = 0 := Decidable.byContradiction fun e => k3.out e h5
    have h3 : s3.err = 0 := Decidable.byContradiction fun e => k2.out e h4
    have h2 : s2.err = 0 := Decidable.byContradiction fun e => k1.out e h3
    have hf2 : decide (s2.err = 0) = true := decide_eq_true h2
    have hf3 : decide (s3.err = 0) = true := decide_eq_true h3
    have hf4 : decide (s4.err = 0) = true := decide_eq_true h4
    have hf5 : decide (s5.err = 0) = true := decide_eq_true h5
    obtain rfl := HE2.out h2
    obtain rfl := HE3.out h3
    obtain rfl := HE4.out h4
    obtain rfl := HE5.out h5
    have q1 : n1 ≤ 32 := by have := takenC_len s1 32; rw [E2.out, l1.out] at this; exact this
    have q2 : n2 ≤ 32 := by have := takenC_len s3 32; rw [E4.out, l2.out] at this; exact this
    have q3 : n3 ≤ 16 := by have := takenC_len s4 16; rw [E5.out, l3.out] at this; exact this
    have q4 : n4 ≤ 1 := by have := takenC_len s2 1; rw [E3.out, l4.out] at this; exact this
    have hwr : IntKind.i64.wrap ((n1 : Int) + (n2 : Int)) = (n1 : Int) + (n2 : Int) := IntWalk.i64_in _ (by omega)
    simp only [hf2, hf3, hf4, hf5]
    clear h2 h3 h4 hf2 hf3 hf4 hf5 HE2 HE3 HE4 HE5 k1 k2 k3 h5 E1 E2 E3 E4 E5
    by_cases hgood : Lds.bad ⟨m, bh', nw', ah', mk', s5⟩ = true
    · have hN : Hd (loadN l = none) := ⟨by unfold loadN; rw [HX.out, if_pos hgood]⟩
      have hg4 : endC s5 ≠ 0 ∨ 32 < n1 + n2 ∨ (n4 = 0 ∧ 0 < n1 + n2) := by
        have := hgood
        simp only [Lds.bad, decide_eq_true_eq] at this
        rw [l1.out, l2.out, l4.out] at this
        rcases this with e | e | e
        · exact .inl e
        · exact absurd hm e
        · exact .inr e
      clear HX l1 l2 l3 l4 hgood hm
      by_cases he : endC s5 = 0
      · have hE : ((endC s5 : Int) != 0) = false := by simp [he]
        by_cases hl : 32 < n1 + n2
        · have hgt : (32 : Int) < (n1 : Int) + (n2 : Int) := by omega
          clear hg4 he hl
          go_wp2_with fail
          refine (rend118 g s5 w6 L.out.c).mono ?_
          rintro e w7 ⟨rfl, kk, rfl⟩
          go_wp2_with fail
          go_ret2
          exact retRLoad_none hN (below_drewN L.out.b _) rfl
        · have hgt : ¬ (32 : Int) < (n1 : Int) + (n2 : Int) := by omega
          have hg5 : n4 = 0 ∧ 0 < n1 + n2 := by
            rcases hg4 with e | e | e
            · exact absurd he e
            · exact absurd e hl
            · exact e
          obtain ⟨rfl, hg5⟩ := hg5
          have h0 : (0 : Int) < (n1 : Int) + (n2 : Int) := by omega
          clear hg4 hg5 he hl
          go_wp2_with fail
          refine (rend118 g s5 w6 L.out.c).mono ?_
          rintro e w7 ⟨rfl, kk, rfl⟩
          go_wp2_with fail
          go_ret2
          exact retRLoad_none hN (below_drewN L.out.b _) rfl
      · have hE : ((endC s5 : Int) != 0) = true := by simp; omega
        clear hg4
        go_wp2_with fail
        refine (rend118 g s5 w6 L.out.c).mono ?_
        rintro e w7 ⟨rfl, kk, rfl⟩
        go_wp2_with fail
        go_ret2
        exact retRLoad_none hN (below_drewN L.out.b _) rfl
    · have hg4 : endC s5 = 0 ∧ ¬ 32 < n1 + n2 ∧ (n4 = 0 → n1 + n2 = 0) := by
        have := hgood
        simp only [Lds.bad, decide_eq_true_eq, not_or, not_and, Decidable.not_not] at this
        rw [l1.out, l2.out, l4.out] at this
        exact ⟨this.1, this.2.2.1, fun e => by have := this.2.2.2 e; omega⟩
      have hN : Hd (loadN l = if mk'.Nodup then some ⟨decide (n4 = 1), nw'.headD (0, 0), bh', ah', mk'⟩ else none) := ⟨by
        unfold loadN
        rw [HX.out, if_neg hgood]
        simp only [l4.out]⟩
      obtain ⟨he, hl, h40⟩ := hg4
      have hE : ((endC s5 : Int) != 0) = false := by simp [he]
      have hgt : ¬ (32 : Int) < (n1 : Int) + (n2 : Int) := by omega
      clear HX hgood he hl l1 l2 hm
      have hq1 : Hd (n1 ≤ 100) := ⟨by omega⟩
      have hq2 : Hd (n2 ≤ 100) := ⟨by omega⟩
      rcases (show (n4 = 0 ∧ n1 = 0 ∧ n2 = 0) ∨ n4 = 1 by omega) with ⟨rfl, rfl, rfl⟩ | rfl
      · clear h40 q1 q2 q4
        go_wp2_with fail
        refine (rend118 g s5 w6 L.out.c).mono ?_
        rintro e w7 ⟨rfl, kk, rfl⟩
        go_wp2_with fail
        obtain ⟨W, hW⟩ : ∃ W, Hd (w6.drewN kk = W) := ⟨_, ⟨rfl⟩⟩
        have LW : Hd (Below w.heap.size w W) := ⟨hW.out ▸ below_drewN L.out.b kk⟩
        have P1 : Hd (OwnP W _ A1 _ c1 bh') := ⟨hW.out ▸ (show OwnP (w6.drewN kk) _ A1 _ c1 bh' from Hoa6.out)⟩
        have P2 : Hd (OwnP W _ A2 _ c2 ah') := ⟨hW.out ▸ (show OwnP (w6.drewN kk) _ A2 _ c2 ah' from Hob6.out)⟩
        have P3 : Hd (OwnP W _ A3 _ c3 mk') := ⟨hW.out ▸ (show OwnP (w6.drewN kk) _ A3 _ c3 mk' from Hoc6.out)⟩
        have P4 : Hd (OwnP W _ A4 _ c4 nw') := ⟨hW.out ▸ (show OwnP (w6.drewN kk) _ A4 _ c4 nw' from Hod6.out)⟩
        have hz5W : Hd (w5.heap.size ≤ W.heap.size) := ⟨by rw [← hW.out]; exact hz5.out⟩
        rw [hW.out]
        clear hW L Hoa6 Hob6 Hoc6 Hod6 hgt hE hwr
        go_loopw [13] (fun i wr => ∃ k : Nat, i = .int .i64 (k : Int) ∧ k ≤ n3 ∧ Hd ((mk'.take k).Nodup) ∧ Hd (Below W.heap.size W wr))
          (fun i _ => n3 - (intOf i).toNat)
        case atStart => exact ⟨0, rfl, by omega, ⟨by simp⟩, ⟨Below.refl _ _⟩⟩
        case round =>
          obtain ⟨k, rfl, hk, hnd, hb⟩ := hrel
          obtain ⟨W0, hW0⟩ : ∃ W0, W0 = wr := ⟨_, rfl⟩
          subst hW0
          by_cases hlt : k < n3
          · obtain ⟨q, hq'⟩ : ∃ q, mk'[k]? = some q := ⟨mk'[k]'(by have := l3.out; omega), List.getElem?_eq_getElem _⟩
            have hq := Hd.mk hq'
            have hki : (k : Int) < (n3 : Int) := by omega
            have hki0 : (0 : Int) ≤ (k : Int) := by omega
            clear hq'
            go_wp2_with fail
            go_loopw [14] (fun i wr => ∃ j : Nat, i = .int .i64 (j : Int) ∧ j ≤ k ∧ Hd (q ∉ mk'.take j) ∧ Hd (Below W.heap.size W wr))
              (fun i _ => k - (intOf i).toNat)
            case atStart => exact ⟨0, rfl, by omega, ⟨by simp⟩, hb⟩
            case round =>
              obtain ⟨j, rfl, hj, hnm, hbj⟩ := hrel
              by_cases hjk : j < k
              · obtain ⟨p, hp'⟩ : ∃ p, mk'[j]? = some p := ⟨mk'[j]'(by have := l3.out; omega), List.getElem?_eq_getElem _⟩
                obtain ⟨ad, rfl, q0, q1⟩ := RdP.get' (Rd.below (Own.rd P3.out) hbj.out) hq.out
                obtain ⟨ad', e, p0, p1⟩ := RdP.get' (Rd.below (Own.rd P3.out) hbj.out) hp'
                injection e with e
                subst e
                have hjki : (j : Int) < (k : Int) := by omega
                have hji0 : (0 : Int) ≤ (j : Int) := by omega
                have hjn : (j : Int) < (n3 : Int) := by omega
                have hp := Hd.mk hp'
                clear hp'
                go_wp2_with fail
                refine region_zone 9 [false, false, false, false, false, false, false, false, false] (by kernel_rfl) (by kernel_rfl) hmix (fun w' => Below wr.heap.size wr w') [] ?_ (fun hS => ?_)
                · exact below_drew wr
                refine wpAnyZ_take0 (i := 0) (oi := ⟨_, _, _, _, _, _⟩) (v := ?_) rfl (by decide +kernel) (fun _ _ _ h => h) (Or.inl ⟨by rfl, ?_⟩) (fun _ => hS) ?_
                rotate_left
                focus (intro w _; go_simp; (try with_reducible rfl); done)
                simp only [Act.put, List.setIfInBounds_toArray, List.set_cons_zero, List.set_cons_succ]
                refine wpAnyZ_take0 (i := 1) (oi := ⟨_, _, _, _, _, _⟩) (v := ?_) rfl (by decide +kernel) (fun _ _ _ h => h) (Or.inl ⟨by rfl, ?_⟩) (fun _ => hS) ?_
                rotate_left
                focus (intro w _; go_simp; (try with_reducible rfl); done)
                simp only [Act.put, List.setIfInBounds_toArray, List.set_cons_zero, List.set_cons_succ]
                refine wpAnyZ_take0 (i := 2) (oi := ⟨_, _, _, _, _, _⟩) (v := ?_) rfl (by decide +kernel) (fun _ _ _ h => h) (Or.inl ⟨by rfl, ?_⟩) (fun _ => hS) ?_
                rotate_left
                focus (intro w _; go_simp; (try with_reducible rfl); done)
                simp only [Act.put, List.setIfInBounds_toArray, List.set_cons_zero, List.set_cons_succ]
                refine wpAnyZ_take (i := 3) (oi := ⟨_, _, _, _, _, _⟩) (v := ?_) rfl (by decide +kernel) (fun _ _ _ h => h) (Or.inl ⟨by rfl, ?_⟩) hS ?_
                rotate_left
                focus (intro w hSw; (try dsimp only at hSw); (have z0 := below_cell hSw p0; have z1 := below_cell hSw p1; have z2 := below_cell hSw q0; have z3 := below_cell hSw q1; clear hSw); go_simp; (try with_reducible rfl); done)
                simp only [Act.put, List.setIfInBounds_toArray, List.set_cons_zero, List.set_cons_succ]
                refine wpAnyZ_take0 (i := 4) (oi := ⟨_, _, _, _, _, _⟩) (v := ?_) rfl (by decide +kernel) (fun _ _ _ h => h) (Or.inl ⟨by rfl, ?_⟩) (fun _ => hS) ?_
                rotate_left
                focus (intro w _; go_simp; (try with_reducible rfl); done)
                simp only [Act.put, List.setIfInBounds_toArray, List.set_cons_zero, List.set_cons_succ]
                refine wpAnyZ_take0 (i := 5) (oi := ⟨_, _, _, _, _, _⟩) (v := ?_) rfl (by decide +kernel) (fun _ _ _ h => h) (Or.inl ⟨by rfl, ?_⟩) (fun _ => hS) ?_
                rotate_left
                focus (intro w _; go_simp; (try with_reducible rfl); done)
                simp only [Act.put, List.setIfInBounds_toArray, List.set_cons_zero, List.set_cons_succ]
                refine wpAnyZ_take0 (i := 6) (oi := ⟨_, _, _, _, _, _⟩) (v := ?_) rfl (by decide +kernel) (fun _ _ _ h => h) (Or.inl ⟨by rfl, ?_⟩) (fun _ => hS) ?_
                rotate_left
                focus (intro w _; go_simp; (try with_reducible rfl); done)
                simp only [Act.put, List.setIfInBounds_toArray, List.set_cons_zero, List.set_cons_succ]
                refine wpAnyZ_take (i := 7) (oi := ⟨_, _, _, _, _, _⟩) (v := ?_) rfl (by decide +kernel) (fun _ _ _ h => h) (Or.inl ⟨by rfl, ?_⟩) hS ?_
                rotate_left
                focus (intro w hSw; (try dsimp only at hSw); (have z0 := below_cell hSw p0; have z1 := below_cell hSw p1; have z2 := below_cell hSw q0; have z3 := below_cell hSw q1; clear hSw); go_simp; (try with_reducible rfl); done)
                simp only [Act.put, List.setIfInBounds_toArray, List.set_cons_zero, List.set_cons_succ]
                refine wpAnyZ_one (i := 8) rfl (by decide +kernel) (fun K hKK => ?_)
                go_simp
                refine (same106 q p _).mono ?_
                rintro e w3 ⟨rfl, b3⟩
                have hb3 := Hd.mk ((below_drew wr).trans b3)
                have hB := Hd.mk (hbj.out.trans (hb3.out.mono hbj.out.size))
                clear hS
                have hS := hb3.out
                refine hKK.out _ _ (fun _ => hS) ?_
                clear hKK
                refine wpAnyZ_done (by decide +kernel) ?_
                clear p0 p1 q0 q1 hS
                by_cases hpq : q = p
                · have hN' : Hd (loadN l = none) := ⟨by
                    rw [hN.out, if_neg]
                    intro hd
                    refine nodup_take hq.out hd ?_
                    rw [hpq]
                    exact List.mem_take_iff_getElem.2 (by
                      obtain ⟨h1, h2⟩ := List.getElem?_eq_some_iff.1 hp.out
                      exact ⟨j, by omega, h2⟩)⟩
                  have hdd : decide (q = p) = true := by simp [hpq]
                  simp only [hdd]
                  clear hpq hdd
                  go_wp2_with fail
                  go_ret2
                  exact retRLoad_none hN' (LW.out.trans (hB.out.mono LW.out.size)) rfl
                · have hdd : decide (q = p) = false := by simp [hpq]
                  have hnm' : Hd (q ∉ mk'.take (j + 1)) := ⟨by rw [take_snocP hp.out]; simp only [List.mem_append, List.mem_singleton, not_or]; exact ⟨hnm.out, hpq⟩⟩
                  simp only [hdd]
                  clear hpq hdd
                  go_wp2_with fail
                  go_roundw
                  case rel => exact ⟨j + 1, by go_num, by omega, hnm', hB⟩
                  case measure => simp [intOf]; omega
              · obtain rfl : j = k := by omega
                have hjki : ¬ ((j : Int) < (j : Int)) := by omega
                have hnd' := Hd.mk (nodup_step hq.out hnd.out hnm.out)
                go_wp2_with fail
                go_roundw
                case rel => exact ⟨j + 1, by go_num, by omega, hnd', hbj⟩
                case measure => simp [intOf]; omega
          · obtain rfl : k = n3 := by omega
            have hNn : Hd (mk'.Nodup) := ⟨by have := hnd.out; rwa [List.take_of_length_le (by rw [l3.out]; omega)] at this⟩
            have hki : ¬ ((k : Int) < (k : Int)) := by omega
            have hX := Hd.mk (heap_alloc_new W0 (.cells #[.slice none 0 0, .int .i64 (-1), .slice A3 k c3] 175))
            have hAX := Hd.mk (below_alloc W0 (.cells #[.slice none 0 0, .int .i64 (-1), .slice A3 k c3] 175))
            have HB := Hd.mk (LW.out.trans ((hb.out.trans (hAX.out.mono hb.out.size)).mono LW.out.size))
            have P3' := Hd.mk (Own.below (Own.below P3.out hb.out) hAX.out)
            have hnw : Hd (nw' = []) := ⟨List.eq_nil_of_length_eq_zero l4.out⟩
            have hbn : Hd (bh' = []) := ⟨List.eq_nil_of_length_eq_zero (OwnP.len P1.out)⟩
            have han : Hd (ah' = []) := ⟨List.eq_nil_of_length_eq_zero (OwnP.len P2.out)⟩
            go_wp2_with fail
            go_ret2
            have hs' : Hd (loadN l = some ⟨false, (0, 0), bh', ah', mk'⟩) := ⟨by rw [hN.out, if_pos hNn.out, hnw.out]; rfl⟩
            have hrn : (⟨false, (0, 0), bh', ah', mk'⟩ : NS).rn = ⟨[], -1, mk'⟩ := by rw [hbn.out, han.out]; rfl
            refine retRLoad_some hs' HB.out rfl (g := W0.heap.size) (F := fun q => w.heap.size ≤ q ∧ q < (W0.alloc (.cells #[.slice none 0 0, .int .i64 (-1), .slice A3 k c3] 175)).heap.size) ?_ (fun _ e => e.1)
            rw [hrn]
            exact ref_parts hX.out (by have := (LW.out.trans (hb.out.mono LW.out.size)).size; omega) (OwnP.nil_ _ (W0.heap.size + 1) _) P3'.out (by have := (LW.out.trans (hb.out.mono LW.out.size)).size; omega) hz5L.out (fun q e => by have := sl_lt P3'.out q e; simpa using this)
      · clear h40 q1 q2 q4
        go_wp2_with fail
        refine (rend118 g s5 w6 L.out.c).mono ?_
        rintro e w7 ⟨rfl, kk, rfl⟩
        go_wp2_with fail
        obtain ⟨W, hW⟩ : ∃ W, Hd (w6.drewN kk = W) := ⟨_, ⟨rfl⟩⟩
        have LW : Hd (Below w.heap.size w W) := ⟨hW.out ▸ below_drewN L.out.b kk⟩
        have P1 : Hd (OwnP W _ A1 _ c1 bh') := ⟨hW.out ▸ (show OwnP (w6.drewN kk) _ A1 _ c1 bh' from Hoa6.out)⟩
        have P2 : Hd (OwnP W _ A2 _ c2 ah') := ⟨hW.out ▸ (show OwnP (w6.drewN kk) _ A2 _ c2 ah' from Hob6.out)⟩
        have P3 : Hd (OwnP W _ A3 _ c3 mk') := ⟨hW.out ▸ (show OwnP (w6.drewN kk) _ A3 _ c3 mk' from Hoc6.out)⟩
        have P4 : Hd (OwnP W _ A4 _ c4 nw') := ⟨hW.out ▸ (show OwnP (w6.drewN kk) _ A4 _ c4 nw' from Hod6.out)⟩
        have hz5W : Hd (w5.heap.size ≤ W.heap.size) := ⟨by rw [← hW.out]; exact hz5.out⟩
        rw [hW.out]
        clear hW L Hoa6 Hob6 Hoc6 Hod6 hgt hE hwr
        go_loopw [13] (fun i wr => ∃ k : Nat, i = .int .i64 (k : Int) ∧ k ≤ n3 ∧ Hd ((mk'.take k).Nodup) ∧ Hd (Below W.heap.size W wr))
          (fun i _ => n3 - (intOf i).toNat)
        case atStart => exact ⟨0, rfl, by omega, ⟨by simp⟩, ⟨Below.refl _ _⟩⟩
        case round =>
          obtain ⟨k, rfl, hk, hnd, hb⟩ := hrel
          obtain ⟨W0, hW0⟩ : ∃ W0, W0 = wr := ⟨_, rfl⟩
          subst hW0
          by_cases hlt : k < n3
          · obtain ⟨q, hq'⟩ : ∃ q, mk'[k]? = some q := ⟨mk'[k]'(by have := l3.out; omega), List.getElem?_eq_getElem _⟩
            have hq := Hd.mk hq'
            have hki : (k : Int) < (n3 : Int) := by omega
            have hki0 : (0 : Int) ≤ (k : Int) := by omega
            clear hq'
            go_wp2_with fail
            go_loopw [14] (fun i wr => ∃ j : Nat, i = .int .i64 (j : Int) ∧ j ≤ k ∧ Hd (q ∉ mk'.take j) ∧ Hd (Below W.heap.size W wr))
              (fun i _ => k - (intOf i).toNat)
            case atStart => exact ⟨0, rfl, by omega, ⟨by simp⟩, hb⟩
            case round =>
              obtain ⟨j, rfl, hj, hnm, hbj⟩ := hrel
              by_cases hjk : j < k
              · obtain ⟨p, hp'⟩ : ∃ p, mk'[j]? = some p := ⟨mk'[j]'(by have := l3.out; omega), List.getElem?_eq_getElem _⟩
                obtain ⟨ad, rfl, q0, q1⟩ := RdP.get' (Rd.below (Own.rd P3.out) hbj.out) hq.out
                obtain ⟨ad', e, p0, p1⟩ := RdP.get' (Rd.below (Own.rd P3.out) hbj.out) hp'
                injection e with e
                subst e
                have hjki : (j : Int) < (k : Int) := by omega
                have hji0 : (0 : Int) ≤ (j : Int) := by omega
                have hjn : (j : Int) < (n3 : Int) := by omega
                have hp := Hd.mk hp'
                clear hp'
                go_wp2_with fail
                refine region_zone 9 [false, false, false, false, false, false, false, false, false] (by kernel_rfl) (by kernel_rfl) hmix (fun w' => Below wr.heap.size wr w') [] ?_ (fun hS => ?_)
                · exact below_drew wr
                refine wpAnyZ_take0 (i := 0) (oi := ⟨_, _, _, _, _, _⟩) (v := ?_) rfl (by decide +kernel) (fun _ _ _ h => h) (Or.inl ⟨by rfl, ?_⟩) (fun _ => hS) ?_
                rotate_left
                focus (intro w _; go_simp; (try with_reducible rfl); done)
                simp only [Act.put, List.setIfInBounds_toArray, List.set_cons_zero, List.set_cons_succ]
                refine wpAnyZ_take0 (i := 1) (oi := ⟨_, _, _, _, _, _⟩) (v := ?_) rfl (by decide +kernel) (fun _ _ _ h => h) (Or.inl ⟨by rfl, ?_⟩) (fun _ => hS) ?_
                rotate_left
                focus (intro w _; go_simp; (try with_reducible rfl); done)
                simp only [Act.put, List.setIfInBounds_toArray, List.set_cons_zero, List.set_cons_succ]
                refine wpAnyZ_take0 (i := 2) (oi := ⟨_, _, _, _, _, _⟩) (v := ?_) rfl (by decide +kernel) (fun _ _ _ h => h) (Or.inl ⟨by rfl, ?_⟩) (fun _ => hS) ?_
                rotate_left
                focus (intro w _; go_simp; (try with_reducible rfl); done)
                simp only [Act.put, List.setIfInBounds_toArray, List.set_cons_zero, List.set_cons_succ]
                refine wpAnyZ_take (i := 3) (oi := ⟨_, _, _, _, _, _⟩) (v := ?_) rfl (by decide +kernel) (fun _ _ _ h => h) (Or.inl ⟨by rfl, ?_⟩) hS ?_
                rotate_left
                focus (intro w hSw; (try dsimp only at hSw); (have z0 := below_cell hSw p0; have z1 := below_cell hSw p1; have z2 := below_cell hSw q0; have z3 := below_cell hSw q1; clear hSw); go_simp; (try with_reducible rfl); done)
                simp only [Act.put, List.setIfInBounds_toArray, List.set_cons_zero, List.set_cons_succ]
                refine wpAnyZ_take0 (i := 4) (oi := ⟨_, _, _, _, _, _⟩) (v := ?_) rfl (by decide +kernel) (fun _ _ _ h => h) (Or.inl ⟨by rfl, ?_⟩) (fun _ => hS) ?_
                rotate_left
                focus (intro w _; go_simp; (try with_reducible rfl); done)
                simp only [Act.put, List.setIfInBounds_toArray, List.set_cons_zero, List.set_cons_succ]
                refine wpAnyZ_take0 (i := 5) (oi := ⟨_, _, _, _, _, _⟩) (v := ?_) rfl (by decide +kernel) (fun _ _ _ h => h) (Or.inl ⟨by rfl, ?_⟩) (fun _ => hS) ?_
                rotate_left
                focus (intro w _; go_simp; (try with_reducible rfl); done)
                simp only [Act.put, List.setIfInBounds_toArray, List.set_cons_zero, List.set_cons_succ]
                refine wpAnyZ_take0 (i := 6) (oi := ⟨_, _, _, _, _, _⟩) (v := ?_) rfl (by decide +kernel) (fun _ _ _ h => h) (Or.inl ⟨by rfl, ?_⟩) (fun _ => hS) ?_
                rotate_left
                focus (intro w _; go_simp; (try with_reducible rfl); done)
                simp only [Act.put, List.setIfInBounds_toArray, List.set_cons_zero, List.set_cons_succ]
                refine wpAnyZ_take (i := 7) (oi := ⟨_, _, _, _, _, _⟩) (v := ?_) rfl (by decide +kernel) (fun _ _ _ h => h) (Or.inl ⟨by rfl, ?_⟩) hS ?_
                rotate_left
                focus (intro w hSw; (try dsimp only at hSw); (have z0 := below_cell hSw p0; have z1 := below_cell hSw p1; have z2 := below_cell hSw q0; have z3 := below_cell hSw q1; clear hSw); go_simp; (try with_reducible rfl); done)
                simp only [Act.put, List.setIfInBounds_toArray, List.set_cons_zero, List.set_cons_succ]
                refine wpAnyZ_one (i := 8) rfl (by decide +kernel) (fun K hKK => ?_)
                go_simp
                refine (same106 q p _).mono ?_
                rintro e w3 ⟨rfl, b3⟩
                have hb3 := Hd.mk ((below_drew wr).trans b3)
                have hB := Hd.mk (hbj.out.trans (hb3.out.mono hbj.out.size))
                clear hS
                have hS := hb3.out
                refine hKK.out _ _ (fun _ => hS) ?_
                clear hKK
                refine wpAnyZ_done (by decide +kernel) ?_
                clear p0 p1 q0 q1 hS
                by_cases hpq : q = p
                · have hN' : Hd (loadN l = none) := ⟨by
                    rw [hN.out, if_neg]
                    intro hd
                    refine nodup_take hq.out hd ?_
                    rw [hpq]
                    exact List.mem_take_iff_getElem.2 (by
                      obtain ⟨h1, h2⟩ := List.getElem?_eq_some_iff.1 hp.out
                      exact ⟨j, by omega, h2⟩)⟩
                  have hdd : decide (q = p) = true := by simp [hpq]
                  simp only [hdd]
                  clear hpq hdd
                  go_wp2_with fail
                  go_ret2
                  exact retRLoad_none hN' (LW.out.trans (hB.out.mono LW.out.size)) rfl
                · have hdd : decide (q = p) = false := by simp [hpq]
                  have hnm' : Hd (q ∉ mk'.take (j + 1)) := ⟨by rw [take_snocP hp.out]; simp only [List.mem_append, List.mem_singleton, not_or]; exact ⟨hnm.out, hpq⟩⟩
                  simp only [hdd]
                  clear hpq hdd
                  go_wp2_with fail
                  go_roundw
                  case rel => exact ⟨j + 1, by go_num, by omega, hnm', hB⟩
                  case measure => simp [intOf]; omega
              · obtain rfl : j = k := by omega
                have hjki : ¬ ((j : Int) < (j : Int)) := by omega
                have hnd' := Hd.mk (nodup_step hq.out hnd.out hnm.out)
                go_wp2_with fail
                go_roundw
                case rel => exact ⟨j + 1, by go_num, by omega, hnd', hbj⟩
                case measure => simp [intOf]; omega
          · obtain rfl : k = n3 := by omega
            have hNn : Hd (mk'.Nodup) := ⟨by have := hnd.out; rwa [List.take_of_length_le (by rw [l3.out]; omega)] at this⟩
            have hki : ¬ ((k : Int) < (k : Int)) := by omega
            have hX := Hd.mk (heap_alloc_new W0 (.cells #[.slice none 0 0, .int .i64 (-1), .slice A3 k c3] 175))
            have hAX := Hd.mk (below_alloc W0 (.cells #[.slice none 0 0, .int .i64 (-1), .slice A3 k c3] 175))
            have HB := Hd.mk (LW.out.trans ((hb.out.trans (hAX.out.mono hb.out.size)).mono LW.out.size))
            have P3' := Hd.mk (Own.below (Own.below P3.out hb.out) hAX.out)
            obtain ⟨p, hnw'⟩ : ∃ p, nw' = [p] := by
              match nw', l4.out with
              | [p], _ => exact ⟨p, rfl⟩
            obtain ⟨px, py⟩ := p
            have hs' : Hd (loadN l = some ⟨true, (px, py), bh', ah', mk'⟩) := ⟨by rw [hN.out, if_pos hNn.out, hnw']; rfl⟩
            have hlb := Hd.mk (OwnP.len P1.out)
            have q1 : n1 ≤ 100 := hq1.out
            have q2 : n2 ≤ 100 := hq2.out
            go_wp2_with fail
            obtain ⟨V, hV⟩ : ∃ V, Hd (W0.alloc (.cells #[.slice none 0 0, .int .i64 (-1), .slice A3 k c3] 175) = V) := ⟨_, ⟨rfl⟩⟩
            have hgl : Hd (W0.heap.size < V.heap.size) := ⟨by rw [← hV.out]; simp⟩
            rw [hV.out] at hX hAX HB P3' ⊢
            obtain ⟨gx, hgx'⟩ : ∃ gx, Hd (W0.heap.size = gx) := ⟨_, ⟨rfl⟩⟩
            have hgw : Hd (w.heap.size ≤ gx) := ⟨by rw [← hgx'.out]; exact (LW.out.trans (hb.out.mono LW.out.size)).size⟩
            have hgb : Hd (∀ q, ownBlk A3 c3 = some q → q ≠ gx) := ⟨fun q e => by have := sl_lt (Own.below P3.out hb.out) q e; rw [← hgx'.out]; omega⟩
            have R1 := Hd.mk (Rd.below (Rd.below (Own.rd P1.out) hb.out) hAX.out)
            have R2 := Hd.mk (Rd.below (Rd.below (Own.rd P2.out) hb.out) hAX.out)
            obtain ⟨ad, e, q0', q1'⟩ := RdP.get' (Rd.below (Rd.below (Own.rd P4.out) hb.out) hAX.out) (k := 0) (p := (px, py)) (by rw [hnw']; rfl)
            subst e
            rw [show (0 * 2 : Nat) = 0 from rfl, show ∀ a : Addr, a.add 0 = a from fun a => by simp [Addr.add]] at q0' q1'
            rw [hgx'.out] at hX hgl ⊢
            have Q0 := Hd.mk q0'
            have Q1 := Hd.mk q1'
            clear q0' q1' hnw' hV hgx'
            refine region_zone 13 [false, false, false, false, false, false, false, false, false, false, false, false, false] (by kernel_rfl) (by kernel_rfl) hmix (fun w' => Below V.heap.size V w') [12] ?_ (fun hS => ?_)
            · exact below_drew V
            refine wpAnyZ_take0 (i := 0) (oi := ⟨_, _, _, _, _, _⟩) (v := ?_) rfl (by decide +kernel) (fun _ _ _ h => h) (Or.inl ⟨by rfl, ?_⟩) (fun _ => hS) ?_
            rotate_left
            focus (intro w _; go_simp; (try with_reducible rfl); done)
            simp only [Act.put, List.setIfInBounds_toArray, List.set_cons_zero, List.set_cons_succ]
            refine wpAnyZ_take0 (i := 1) (oi := ⟨_, _, _, _, _, _⟩) (v := ?_) rfl (by decide +kernel) (fun _ _ _ h => h) (Or.inl ⟨by rfl, ?_⟩) (fun _ => hS) ?_
            rotate_left
            focus (intro w _; go_simp; (try with_reducible rfl); done)
            simp only [Act.put, List.setIfInBounds_toArray, List.set_cons_zero, List.set_cons_succ]
            refine wpAnyZ_take0 (i := 3) (oi := ⟨_, _, _, _, _, _⟩) (v := ?_) rfl (by decide +kernel) (fun _ _ _ h => h) (Or.inl ⟨by rfl, ?_⟩) (fun _ => hS) ?_
            rotate_left
            focus (intro w _; go_simp; (try with_reducible rfl); done)
            simp only [Act.put, List.setIfInBounds_toArray, List.set_cons_zero, List.set_cons_succ]
            refine wpAnyZ_take0 (i := 4) (oi := ⟨_, _, _, _, _, _⟩) (v := ?_) rfl (by decide +kernel) (fun _ _ _ h => h) (Or.inl ⟨by rfl, ?_⟩) (fun _ => hS) ?_
            rotate_left
            focus (intro w _; go_simp; (try with_reducible rfl); done)
            simp only [Act.put, List.setIfInBounds_toArray, List.set_cons_zero, List.set_cons_succ]
            refine wpAnyZ_take (i := 5) (oi := ⟨_, _, _, _, _, _⟩) (v := ?_) rfl (by decide +kernel) (fun _ _ _ h => h) (Or.inl ⟨by rfl, ?_⟩) hS ?_
            rotate_left
            focus (intro w hSw; (try dsimp only at hSw); (have z0 := below_cell hSw Q0.out; have z1 := below_cell hSw Q1.out; clear hSw); go_simp; (try with_reducible rfl); done)
            simp only [Act.put, List.setIfInBounds_toArray, List.set_cons_zero, List.set_cons_succ]
            refine wpAnyZ_take0 (i := 8) (oi := ⟨_, _, _, _, _, _⟩) (v := ?_) rfl (by decide +kernel) (fun _ _ _ h => h) (Or.inl ⟨by rfl, ?_⟩) (fun _ => hS) ?_
            rotate_left
            focus (intro w _; go_simp; (try with_reducible rfl); done)
            simp only [Act.put, List.setIfInBounds_toArray, List.set_cons_zero, List.set_cons_succ]
            refine wpAnyZ_two (i := 2) (j := 6) rfl rfl (by decide +kernel) (fun K hKK => ?_) (fun K hKK => ?_)
            · go_simp
              refine (rtwin119 A1 n1 c1 bh' V.drew (Rd.below R1.out (below_drew V)) (by omega)).mono ?_
              rintro e x1 ⟨A', c', rfl, o1, b1⟩
              have S1 := (below_drew V).trans b1
              clear hS
              have hS := S1
              refine hKK.out _ _ (fun _ => hS) ?_
              clear hKK
              refine wpAnyZ_one (i := 6) rfl (by decide +kernel) (fun K hKK => ?_)
              go_simp
              have S2 := S1.trans ((below_alloc x1 (.cells #[.int .i64 px, .int .i64 py] 58)).mono S1.size)
              clear hS
              have hS := S2
              refine hKK.out _ _ (fun _ => hS) ?_
              clear hKK
              have o1' := Own.alloc o1 (.cells #[.int .i64 px, .int .i64 py] 58)
              have rb := RdP.new x1 [(px, py)] (cs := #[.int .i64 px, .int .i64 py]) rfl (m := 1) rfl
              refine wpAnyZ_one (i := 7) rfl (by decide +kernel) (fun K hKK => ?_)
              refine st_appP (by rfl) (.tmp 111) (.tmp 115) (m := 1) (by rfl) (by rfl) (by rfl) o1' rb (by omega) S2.size ?_
              rintro v x2 ⟨A2', c2', rfl, o2, g2, _⟩
              have S3 := S2.grown g2 S2.size (fun q e => (Own.lt o1' e).1)
              clear hS
              have hS := S3
              refine hKK.out _ _ (fun _ => hS) ?_
              clear hKK
              simp only [Act.put, List.setIfInBounds_toArray, List.set_cons_zero, List.set_cons_succ]
              refine wpAnyZ_one (i := 9) rfl (by decide +kernel) (fun K hKK => ?_)
              refine st_appP (by rfl) (.tmp 116) (.tmp 117) (m := n2) (by rfl) (by rfl) (by rfl) o2 (Rd.below R2.out S3) (by omega) S3.size ?_
              rintro v x3 ⟨A3', c3', rfl, o3, g3, _⟩
              have S4 := S3.grown g3 S3.size (fun q e => (Own.lt o2 e).1)
              clear hS
              have hS := S4
              refine hKK.out _ _ (fun _ => hS) ?_
              clear hKK
              simp only [Act.put, List.setIfInBounds_toArray, List.set_cons_zero, List.set_cons_succ]
              refine wpAnyZ_take0 (i := 10) (oi := ⟨_, _, _, _, _, _⟩) (v := ?_) rfl (by decide +kernel) (fun _ _ _ h => h) (Or.inl ⟨by rfl, ?_⟩) (fun _ => hS) ?_
              rotate_left
              focus (intro w _; go_simp; (try with_reducible rfl); done)
              simp only [Act.put, List.setIfInBounds_toArray, List.set_cons_zero, List.set_cons_succ]
              refine wpAnyZ_take0 (i := 11) (oi := ⟨_, _, _, _, _, _⟩) (v := ?_) rfl (by decide +kernel) (fun _ _ _ h => h) (Or.inl ⟨by rfl, ?_⟩) (fun _ => hS) ?_
              rotate_left
              focus (intro w _; go_simp; (try with_reducible rfl); done)
              simp only [Act.put, List.setIfInBounds_toArray, List.set_cons_zero, List.set_cons_succ]
              have hx3 := (S4.block gx hgl.out).trans hX.out
              have O3 := Hd.mk o3
              have HS4 := Hd.mk S4
              have HX3 := Hd.mk hx3
              clear o3 S4 S3 S2 S1 o1' o1 b1 o2 g2 g3 rb
              obtain ⟨z0, z1, -, zf⟩ := ref_cells hx3
              have zf0 := zf 0
              refine wpAnyZ_one (i := 12) rfl (by decide +kernel) (fun K hKK => ?_)
              go_simp
              refine hKK.out _ _ (fun hz => absurd hz (by decide +kernel)) ?_
              clear hKK
              refine wpAnyZ_done (by decide +kernel) ?_
              clear z0 z1 zf0 zf hx3 hS
              have hx4 := Hd.mk (heap_setCell_same x3 gx 0 _ 175 (.slice A3' (n1 + 1 + n2) c3') HX3.out)
              obtain ⟨-, z1, -, zf⟩ := ref_cells hx4.out
              have zf1 := zf 1
              clear zf
              go_wp2_with fail
              go_ret2
              have hx5 := heap_setCell_same _ gx 1 _ 175 (.int .i64 (n1 : Int)) hx4.out
              have hb5 := (Tch.setCell (fun q => q = gx) x3 gx 0 (.slice A3' (n1 + 1 + n2) c3') (.inl rfl)).below (B := w.heap.size) (fun q e => by have := hgw.out; omega) (Nat.le_trans HB.out.size HS4.out.size)
              have hb6 := (Tch.setCell (fun q => q = gx) _ gx 1 (.int .i64 (n1 : Int)) (.inl rfl)).below (B := w.heap.size) (fun q e => by have := hgw.out; omega) (Nat.le_trans (Nat.le_trans HB.out.size HS4.out.size) hb5.size)
              have hrn : (⟨true, (px, py), bh', ah', mk'⟩ : NS).rn = ⟨bh' ++ [(px, py)] ++ ah', (n1 : Int), mk'⟩ := by simp [NS.rn, NS.row, hlb.out]
              refine retRLoad_some hs' (((HB.out.trans (HS4.out.mono HB.out.size)).trans hb5).trans hb6) rfl (g := gx) (F := fun q => w.heap.size ≤ q ∧ q < ((x3.setCell ⟨gx, 0, none⟩ (.slice A3' (n1 + 1 + n2) c3')).setCell ⟨gx, 1, none⟩ (.int .i64 (n1 : Int))).heap.size) ?_ (fun _ e => e.1)
              rw [hrn]
              exact ref_parts hx5 hgw.out (own_cell (own_cell O3.out hgl.out) hgl.out) (own_cell' (own_cell' (Own.below P3'.out HS4.out) hgb.out) hgb.out) HB.out.size hz5L.out (sl_lt P3'.out)
            · go_simp
              have S1 := (below_drew V).trans (below_alloc V.drew (.cells #[.int .i64 px, .int .i64 py] 58))
              clear hS
              have hS := S1
              refine hKK.out _ _ (fun _ => hS) ?_
              clear hKK
              refine wpAnyZ_one (i := 2) rfl (by decide +kernel) (fun K hKK => ?_)
              go_simp
              refine (rtwin119 A1 n1 c1 bh' _ (Rd.below R1.out S1) (by omega)).mono ?_
              rintro e x1 ⟨A', c', rfl, o1, b1⟩
              have S2 := S1.trans (b1.mono S1.size)
              clear hS
              have hS := S2
              refine hKK.out _ _ (fun _ => hS) ?_
              clear hKK
              have o1' : OwnP x1 V.heap.size A' n1 c' bh' := Own.mono o1 S1.size
              have rb := Rd.below (RdP.new V.drew [(px, py)] (cs := #[.int .i64 px, .int .i64 py]) rfl (m := 1) rfl) b1
              refine wpAnyZ_one (i := 7) rfl (by decide +kernel) (fun K hKK => ?_)
              refine st_appP (by rfl) (.tmp 111) (.tmp 115) (m := 1) (by rfl) (by rfl) (by rfl) o1' rb (by omega) S2.size ?_
              rintro v x2 ⟨A2', c2', rfl, o2, g2, _⟩
              have S3 := S2.grown g2 S2.size (fun q e => (Own.lt o1' e).1)
              clear hS
              have hS := S3
              refine hKK.out _ _ (fun _ => hS) ?_
              clear hKK
              simp only [Act.put, List.setIfInBounds_toArray, List.set_cons_zero, List.set_cons_succ]
              refine wpAnyZ_one (i := 9) rfl (by decide +kernel) (fun K hKK => ?_)
              refine st_appP (by rfl) (.tmp 116) (.tmp 117) (m := n2) (by rfl) (by rfl) (by rfl) o2 (Rd.below R2.out S3) (by omega) S3.size ?_
              rintro v x3 ⟨A3', c3', rfl, o3, g3, _⟩
              have S4 := S3.grown g3 S3.size (fun q e => (Own.lt o2 e).1)
              clear hS
              have hS := S4
              refine hKK.out _ _ (fun _ => hS) ?_
              clear hKK
              simp only [Act.put, List.setIfInBounds_toArray, List.set_cons_zero, List.set_cons_succ]
              refine wpAnyZ_take0 (i := 10) (oi := ⟨_, _, _, _, _, _⟩) (v := ?_) rfl (by decide +kernel) (fun _ _ _ h => h) (Or.inl ⟨by rfl, ?_⟩) (fun _ => hS) ?_
              rotate_left
              focus (intro w _; go_simp; (try with_reducible rfl); done)
              simp only [Act.put, List.setIfInBounds_toArray, List.set_cons_zero, List.set_cons_succ]
              refine wpAnyZ_take0 (i := 11) (oi := ⟨_, _, _, _, _, _⟩) (v := ?_) rfl (by decide +kernel) (fun _ _ _ h => h) (Or.inl ⟨by rfl, ?_⟩) (fun _ => hS) ?_
              rotate_left
              focus (intro w _; go_simp; (try with_reducible rfl); done)
              simp only [Act.put, List.setIfInBounds_toArray, List.set_cons_zero, List.set_cons_succ]
              have hx3 := (S4.block gx hgl.out).trans hX.out
              have O3 := Hd.mk o3
              have HS4 := Hd.mk S4
              have HX3 := Hd.mk hx3
              clear o3 S4 S3 S2 S1 o1' o1 b1 o2 g2 g3 rb
              obtain ⟨z0, z1, -, zf⟩ := ref_cells hx3
              have zf0 := zf 0
              refine wpAnyZ_one (i := 12) rfl (by decide +kernel) (fun K hKK => ?_)
              go_simp
              refine hKK.out _ _ (fun hz => absurd hz (by decide +kernel)) ?_
              clear hKK
              refine wpAnyZ_done (by decide +kernel) ?_
              clear z0 z1 zf0 zf hx3 hS
              have hx4 := Hd.mk (heap_setCell_same x3 gx 0 _ 175 (.slice A3' (n1 + 1 + n2) c3') HX3.out)
              obtain ⟨-, z1, -, zf⟩ := ref_cells hx4.out
              have zf1 := zf 1
              clear zf
              go_wp2_with fail
              go_ret2
              have hx5 := heap_setCell_same _ gx 1 _ 175 (.int .i64 (n1 : Int)) hx4.out
              have hb5 := (Tch.setCell (fun q => q = gx) x3 gx 0 (.slice A3' (n1 + 1 + n2) c3') (.inl rfl)).below (B := w.heap.size) (fun q e => by have := hgw.out; omega) (Nat.le_trans HB.out.size HS4.out.size)
              have hb6 := (Tch.setCell (fun q => q = gx) _ gx 1 (.int .i64 (n1 : Int)) (.inl rfl)).below (B := w.heap.size) (fun q e => by have := hgw.out; omega) (Nat.le_trans (Nat.le_trans HB.out.size HS4.out.size) hb5.size)
              have hrn : (⟨true, (px, py), bh', ah', mk'⟩ : NS).rn = ⟨bh' ++ [(px, py)] ++ ah', (n1 : Int), mk'⟩ := by simp [NS.rn, NS.row, hlb.out]
              refine retRLoad_some hs' (((HB.out.trans (HS4.out.mono HB.out.size)).trans hb5).trans hb6) rfl (g := gx) (F := fun q => w.heap.size ≤ q ∧ q < ((x3.setCell ⟨gx, 0, none⟩ (.slice A3' (n1 + 1 + n2) c3')).setCell ⟨gx, 1, none⟩ (.int .i64 (n1 : Int))).heap.size) ?_ (fun _ e => e.1)
              rw [hrn]
              exact ref_parts hx5 hgw.out (own_cell (own_cell O3.out hgl.out) hgl.out) (own_cell' (own_cell' (Own.below P3'.out HS4.out) hgb.out) hgb.out) HB.out.size hz5L.out (sl_lt P3'.out)
  · have hM : (str.toList == [78, 65, 86, 49]) = false := by rw [← hs.out, toList_mk, beq_eq_false_iff_ne]; exact hm
    have hN := Hd.mk (load_magic E1.out hm)
    clear hm
    go_wp2_with fail
    go_ret2
    exact retRLoad_none hN HB2.out rfl
end Go.Proofs.Ytkgdcglnkodgnaa

