/-
  Load of a reader (nav): what it makes of bytes. No condition but sizes.
-/
import Derived.Test.YtkgdcglnkodgnaaTaken
import Derived.Test.YtkgdcglnkodgnaaSame
import Derived.BigQuiet
namespace Go.Proofs.Ytkgdcglnkodgnaa
open Go.RowKit
/-- What Load holds: the cursor, the reader that is made. -/
structure LdS (w W : World) (g gx : Nat) (c : CS) (v1 v2 v3 : Value) : Prop where
  x : W.heap[gx]? = some (.cells #[.int .i64 1, .int .i64 0, .int .i64 0, .int .i64 0, v1, v2, v3] 78 (0, 0))
  c : Cur 200 W g c
  b : Below w.heap.size w W
  lo : w.heap.size ≤ g
  gg : g < gx
section
variable {w W W' : World} {g gx : Nat} {c c' : CS} {v1 v2 v3 : Value}
theorem LdS.xlt (h : LdS w W g gx c v1 v2 v3) : gx < W.heap.size := (Array.getElem?_eq_some_iff.1 h.x).1
theorem LdS.call (h : LdS w W g gx c v1 v2 v3) (hc : Cur 200 W' g c') (T : Tch (fun k => k = g) W W') : LdS w W' g gx c' v1 v2 v3 :=
  ⟨(T.block gx h.xlt (fun e => by have := h.gg; omega)).trans h.x, hc, h.b.trans (T.below (fun k e => by have := h.lo; omega) h.b.size), h.lo, h.gg⟩
theorem LdS.set4 (h : LdS w W g gx c v1 v2 v3) (v : Value) : LdS w (W.setCell ⟨gx, 4, none⟩ v) g gx c v v2 v3 :=
  ⟨heap_setCell_same W gx 4 _ 78 v h.x, h.c.far (grown_cell v) (fun k e => by injection e with e; have := h.gg; omega), h.b.trans ((Tch.setCell (fun k => k = gx) W gx 4 v (.inl rfl)).below (fun k e => by have := h.lo; have := h.gg; omega) h.b.size), h.lo, h.gg⟩
theorem LdS.set5 (h : LdS w W g gx c v1 v2 v3) (v : Value) : LdS w (W.setCell ⟨gx, 5, none⟩ v) g gx c v1 v v3 :=
  ⟨heap_setCell_same W gx 5 _ 78 v h.x, h.c.far (grown_cell v) (fun k e => by injection e with e; have := h.gg; omega), h.b.trans ((Tch.setCell (fun k => k = gx) W gx 5 v (.inl rfl)).below (fun k e => by have := h.lo; have := h.gg; omega) h.b.size), h.lo, h.gg⟩
theorem LdS.set6 (h : LdS w W g gx c v1 v2 v3) (v : Value) : LdS w (W.setCell ⟨gx, 6, none⟩ v) g gx c v1 v2 v :=
  ⟨heap_setCell_same W gx 6 _ 78 v h.x, h.c.far (grown_cell v) (fun k e => by injection e with e; have := h.gg; omega), h.b.trans ((Tch.setCell (fun k => k = gx) W gx 6 v (.inl rfl)).below (fun k e => by have := h.lo; have := h.gg; omega) h.b.size), h.lo, h.gg⟩
theorem LdS.later (h : LdS w W g gx c v1 v2 v3) (hb : Below W.heap.size W W') : LdS w W' g gx c v1 v2 v3 :=
  ⟨(hb.block gx h.xlt).trans h.x, h.c.below hb, h.b.trans (hb.mono h.b.size), h.lo, h.gg⟩
theorem own_call {B : Nat} {A : Option Addr} {n cc : Nat} {l : List Pl} (o : OwnP W B A n cc l) (hB : g < B) (T : Tch (fun k => k = g) W W') : OwnP W' B A n cc l :=
  Own.keep o fun k _ h1 h2 => T.block k h2 (fun e => by omega)
theorem own_cell {B : Nat} {A : Option Addr} {n cc j : Nat} {l : List Pl} {v : Value} (o : OwnP W B A n cc l) (hB : gx < B) : OwnP (W.setCell ⟨gx, j, none⟩ v) B A n cc l :=
  Own.keep o fun k _ h1 h2 => heap_setCell_other W ⟨gx, j, none⟩ k _ (by show k ≠ gx; omega)
/-- A reader made of parts. -/
theorem nav_parts {A1 A2 A3 : Option Addr} {n1 c1 n2 c2 n3 c3 B1 B2 B3 : Nat} {s : NS} (hx : W.heap[gx]? = some (.cells #[.int .i64 1, .int .i64 (if s.has then 1 else 0), .int .i64 s.now.1, .int .i64 s.now.2, .slice A1 n1 c1, .slice A2 n2 c2, .slice A3 n3 c3] 78 (0, 0)))
    (h0 : w.heap.size ≤ gx) (o1 : OwnP W B1 A1 n1 c1 s.bh) (o2 : OwnP W B2 A2 n2 c2 s.ah) (o3 : OwnP W B3 A3 n3 c3 s.mks) (hB1 : gx < B1) (hB2 : gx < B2) (hB3 : gx < B3)
    (d1 : ∀ k, ownBlk A1 c1 = some k → k < B2) (d2 : ∀ k, ownBlk A2 c2 = some k → k < B3) (h23 : B2 ≤ B3) : NavAt W gx (fun k => w.heap.size ≤ k ∧ k < W.heap.size) s := by
  have l1 := fun k => Own.lt (g := k) o1
  have l2 := fun k => Own.lt (g := k) o2
  have l3 := fun k => Own.lt (g := k) o3
  refine ⟨A1, n1, c1, A2, n2, c2, A3, n3, c3, hx, Own.mono o1 (Nat.zero_le _), Own.mono o2 (Nat.zero_le _), Own.mono o3 (Nat.zero_le _), ⟨h0, (Array.getElem?_eq_some_iff.1 hx).1⟩, fun k e => ?_, fun k e => ?_, fun k e => ?_, fun k e e' => ?_, fun k e e' => ?_, fun k e e' => ?_, fun k e => e.2⟩
  · have := l1 k e; omega
  · have := l2 k e; omega
  · have := l3 k e; omega
  · have := d1 k e; have := l2 k e'; omega
  · have := d1 k e; have := l3 k e'; omega
  · have := d2 k e; have := l3 k e'; omega
end

theorem toList_mk (m : List UInt8) : (⟨m.toArray⟩ : ByteArray).toList = m := by rw [ByteArray.toList_eq]
theorem sl_lt {W : World} {B n c : Nat} {A : Option Addr} {l : List Pl} (o : OwnP W B A n c l) : ∀ k, ownBlk A c = some k → k < W.heap.size := fun _ e => (Own.lt o e).2
theorem quiet_of_drewN {P : Program} {f : FuncId} {args : Array Value} {w : World} {n : Nat} {v : Value}
    (h : Calls P f args (w.drewN n) fun e w' => e = .returned v ∧ ∃ k, w' = (w.drewN n).drewN k) : Calls P f args (w.drewN n) fun e w'' => e = .returned v ∧ ∃ m, w'' = w.drewN m :=
  h.mono fun _ _ ⟨he, k, hm⟩ => ⟨he, n + k, by rw [hm, World.drewN_drewN]⟩
theorem takeMany_len (n : Nat) (s : CS) : (takeMany n s).1.length = n := by
  induction n generalizing s with
  | zero => rfl
  | succ n ih => simp [takeMany, ih]
theorem takenC_len (s : CS) (most : Nat) : (takenC s most).1.length ≤ most := by
  unfold takenC
  rw [takeMany_len]
  have := indexC_lt s (lim := most + 1) (by omega)
  omega
theorem nodup_take {l : List Pl} {k : Nat} {x : Pl} (h : l[k]? = some x) : l.Nodup → x ∉ l.take k := by
  intro hn hx
  have e : l = l.take k ++ x :: l.drop (k + 1) := by
    obtain ⟨hk, e⟩ := List.getElem?_eq_some_iff.1 h
    rw [← e, ← List.drop_eq_getElem_cons hk, List.take_append_drop]
  rw [e, List.nodup_append] at hn
  exact hn.2.2 x hx x (by simp) rfl
theorem nodup_step {l : List Pl} {k : Nat} {x : Pl} (h : l[k]? = some x) (hn : (l.take k).Nodup) (hx : x ∉ l.take k) : (l.take (k + 1)).Nodup := by
  rw [take_snocP h, List.nodup_append]
  exact ⟨hn, by simp, fun a ha b hb e => by simp at hb; subst hb; subst e; exact hx ha⟩
/-- What Load answers. -/
def RetLoad (w : World) (r : Option NS) (e : Ending) (w' : World) : Prop :=
  Below w.heap.size w w' ∧ (match r with
    | none => e = .returned (.tuple #[.pointer none, .int .i64 263])
    | some s => ∃ g F, e = .returned (.tuple #[.pointer (some ⟨g, 0, none⟩), .int .i64 0]) ∧ NavAt w' g F s ∧ ∀ k, F k → w.heap.size ≤ k)
theorem retLoad_none {w w' : World} {e : Ending} {r : Option NS} (hr : Hd (r = none)) (hb : Below w.heap.size w w') (he : e = .returned (.tuple #[.pointer none, .int .i64 263])) : RetLoad w r e w' := by rw [hr.out]; exact ⟨hb, he⟩
theorem retLoad_some {w w' : World} {e : Ending} {r : Option NS} {s : NS} {g : Nat} {F : Nat → Prop} (hr : Hd (r = some s)) (hb : Below w.heap.size w w') (he : e = .returned (.tuple #[.pointer (some ⟨g, 0, none⟩), .int .i64 0])) (h : NavAt w' g F s) (hF : ∀ k, F k → w.heap.size ≤ k) : RetLoad w r e w' := by rw [hr.out]; exact ⟨hb, g, F, he, h, hF⟩
set_option maxRecDepth 100000 in
set_option maxHeartbeats 2000000 in
theorem load71 (A : Option Addr) (n c : Nat) (l : List UInt8) (w : World) (h : Rd8 w A n l) (hn : n ≤ 140737488355328) :
    Calls Try.prog 71 #[.slice A n c] w (RetLoad w (loadN l)) := by
  obtain ⟨m, s1, E1⟩ : ∃ m s1, Hd (takeC ⟨l, 0, 0⟩ 4 = (m, s1)) := ⟨_, _, ⟨rfl⟩⟩
  obtain ⟨bh, s2, E2⟩ : ∃ x y, Hd (takenC s1 32 = (x, y)) := ⟨_, _, ⟨rfl⟩⟩
  obtain ⟨nw, s3, E3⟩ : ∃ x y, Hd (takenC s2 1 = (x, y)) := ⟨_, _, ⟨rfl⟩⟩
  obtain ⟨ah, s4, E4⟩ : ∃ x y, Hd (takenC s3 32 = (x, y)) := ⟨_, _, ⟨rfl⟩⟩
  obtain ⟨mk, s5, E5⟩ : ∃ x y, Hd (takenC s4 16 = (x, y)) := ⟨_, _, ⟨rfl⟩⟩
  have HX : Hd (ldsN l = ⟨m, bh, nw, ah, mk, s5⟩) := ⟨by
    unfold ldsN
    simp only [E1.out, E2.out, E3.out, E4.out, E5.out]⟩
  have hmix := try_mixed
  go_enter Try.func71, Try.ntmps71
  go_wp2_with fail
  refine (new88 A n c l _ h hn).mono ?_
  rintro e w1 ⟨g, rfl, hg, C0, b1⟩
  have HB1 := Hd.mk b1
  have HC1 := Hd.mk C0
  have HG := Hd.mk hg
  clear b1 C0 hg
  go_wp2_with fail
  refine (take91 g ⟨l, 0, 0⟩ 4 w1 HC1.out (by omega) (by omega)).mono ?_
  rw [E1.out]
  rintro e w2 ⟨M, mn, mc, rfl, om, C1, g2⟩
  have hstr := run_str8 (c := mc) om.rd
  have HC2 := Hd.mk C1
  have HB2 := Hd.mk (HB1.out.grown g2 HB1.out.size (fun k e => by injection e with e; have := HG.out; omega))
  have hlt2 : Hd (g < w2.heap.size) := ⟨C1.lt⟩
  clear om C1 g2 HB1 HC1
  go_wp2_with fail
  refine (new52 _).mono ?_
  rintro e w3 ⟨rfl, rfl⟩
  have L3 := Hd.mk (LdS.mk (w := w) (g := g) (v1 := .slice none 0 0) (v2 := .slice none 0 0) (v3 := .slice none 0 0) (heap_alloc_new w2 _) (HC2.out.alloc _) (HB2.out.alloc HB2.out.size _) HG.out hlt2.out)
  obtain ⟨gx, hgx⟩ : ∃ gx, Hd (gx = w2.heap.size) := ⟨_, ⟨rfl⟩⟩
  rw [← hgx.out] at L3 ⊢
  generalize w2.alloc _ = w3 at L3 ⊢
  obtain ⟨str, hs⟩ : ∃ str, Hd ((⟨m.toArray⟩ : ByteArray) = str) := ⟨_, ⟨rfl⟩⟩
  rw [hs.out]
  clear hstr HC2 HB2 hlt2 HG hgx
  go_wp2_with fail
  refine (taken114 g s1 32 w3 L3.out.c (by omega)).mono ?_
  rw [E2.out]
  rintro e w4 ⟨A1, n1, c1, rfl, o1, C4, T4⟩
  have L4 := Hd.mk (L3.out.call C4 T4)
  have z1 := Hd.mk L3.out.xlt
  have O1 := Hd.mk o1
  obtain ⟨-, -, -, -, a4, -, -, af⟩ := nav_cells L4.out.x
  have af := af 4
  clear o1 C4 T4 L3
  go_wp2_with fail
  have L5 := Hd.mk (L4.out.set4 (.slice A1 n1 c1))
  have O1' := Hd.mk (own_cell (j := 4) (v := .slice A1 n1 c1) O1.out z1.out)
  clear a4 af O1 L4
  generalize w4.setCell _ _ = w5 at L5 O1' ⊢
  refine (taken114 g s2 1 w5 L5.out.c (by omega)).mono ?_
  rw [E3.out]
  rintro e w6 ⟨A4, n4, c4, rfl, o4, C6, T6⟩
  have L6 := Hd.mk (L5.out.call C6 T6)
  have O1 := Hd.mk (own_call O1'.out (Nat.lt_trans L5.out.gg z1.out) T6)
  have O4 := Hd.mk o4
  have z4 := Hd.mk L5.out.xlt
  clear o4 C6 T6 L5 O1'
  go_wp2_with fail
  refine (taken114 g s3 32 w6 L6.out.c (by omega)).mono ?_
  rw [E4.out]
  rintro e w7 ⟨A2, n2, c2, rfl, o2, C7, T7⟩
  have L7 := Hd.mk (L6.out.call C7 T7)
  have O1' := Hd.mk (own_call O1.out (Nat.lt_trans L6.out.gg z1.out) T7)
  have O4' := Hd.mk (own_call O4.out (Nat.lt_trans L6.out.gg z4.out) T7)
  have O2 := Hd.mk o2
  have z2 := Hd.mk L6.out.xlt
  have d1 := Hd.mk (sl_lt O1.out)
  obtain ⟨-, -, -, -, -, a5, -, af⟩ := nav_cells L7.out.x
  have af := af 5
  have hz7 := Hd.mk T7.size
  clear o2 C7 T7 L6 O1 O4
  go_wp2_with fail
  have L8 := Hd.mk (L7.out.set5 (.slice A2 n2 c2))
  have O1 := Hd.mk (own_cell (j := 5) (v := .slice A2 n2 c2) O1'.out z1.out)
  have O2' := Hd.mk (own_cell (j := 5) (v := .slice A2 n2 c2) O2.out z2.out)
  have O4 := Hd.mk (own_cell (j := 5) (v := .slice A2 n2 c2) O4'.out z4.out)
  have hsz : Hd (w6.heap.size ≤ (w7.setCell ⟨gx, 5, none⟩ (.slice A2 n2 c2)).heap.size) := ⟨by have := hz7.out; simpa [World.setCell] using this⟩
  clear a5 af L7 O1' O2 O4' hz7
  generalize w7.setCell _ _ = w8 at L8 O1 O2' O4 hsz ⊢
  refine (taken114 g s4 16 w8 L8.out.c (by omega)).mono ?_
  rw [E5.out]
  rintro e w9 ⟨A3, n3, c3, rfl, o3, C9, T9⟩
  have L9 := Hd.mk (L8.out.call C9 T9)
  have O1' := Hd.mk (own_call O1.out (Nat.lt_trans L8.out.gg z1.out) T9)
  have O4' := Hd.mk (own_call O4.out (Nat.lt_trans L8.out.gg z4.out) T9)
  have O2 := Hd.mk (own_call O2'.out (Nat.lt_trans L8.out.gg z2.out) T9)
  have O3 := Hd.mk o3
  have z3 := Hd.mk L8.out.xlt
  have d2 := Hd.mk (sl_lt O2'.out)
  obtain ⟨-, -, -, -, -, -, a6, af⟩ := nav_cells L9.out.x
  have af := af 6
  clear o3 C9 T9 L8 O1 O2' O4
  go_wp2_with fail
  have L10 := Hd.mk (L9.out.set6 (.slice A3 n3 c3))
  have O1 := Hd.mk (own_cell (j := 6) (v := .slice A3 n3 c3) O1'.out z1.out)
  have O2' := Hd.mk (own_cell (j := 6) (v := .slice A3 n3 c3) O2.out z2.out)
  have O3' := Hd.mk (own_cell (j := 6) (v := .slice A3 n3 c3) O3.out z3.out)
  have O4 := Hd.mk (own_cell (j := 6) (v := .slice A3 n3 c3) O4'.out z4.out)
  clear a6 af L9 O1' O2 O3 O4'
  generalize w9.setCell _ _ = w10 at L10 O1 O2' O3' O4 ⊢
  obtain ⟨-, -, -, -, a4, a5, a6, -⟩ := nav_cells L10.out.x
  have l1 := Hd.mk (OwnP.len O1.out)
  have l2 := Hd.mk (OwnP.len O2'.out)
  have l3 := Hd.mk (OwnP.len O3'.out)
  have l4 := Hd.mk (OwnP.len O4.out)
  have q1 : n1 ≤ 32 := by have := takenC_len s1 32; rw [E2.out, l1.out] at this; exact this
  have q2 : n2 ≤ 32 := by have := takenC_len s3 32; rw [E4.out, l2.out] at this; exact this
  have q3 : n3 ≤ 16 := by have := takenC_len s4 16; rw [E5.out, l3.out] at this; exact this
  have q4 : n4 ≤ 1 := by have := takenC_len s2 1; rw [E3.out, l4.out] at this; exact this
  have hwr : IntKind.i64.wrap ((n1 : Int) + (n2 : Int)) = (n1 : Int) + (n2 : Int) := IntWalk.i64_in _ (by omega)
  by_cases hgood : Lds.bad ⟨m, bh, nw, ah, mk, s5⟩ = true
  · have hN : Hd (loadN l = none) := ⟨by unfold loadN; rw [HX.out, if_pos hgood]⟩
    have hg4 : endC s5 ≠ 0 ∨ m ≠ magicN ∨ 32 < n1 + n2 ∨ (n4 = 0 ∧ 0 < n1 + n2) := by
      have := hgood
      simp only [Lds.bad, decide_eq_true_eq] at this
      rw [l1.out, l2.out, l4.out] at this
      exact this
    clear O1 O2' O3' O4 d1 d2 hsz z1 z2 z3 z4 HX E1 E2 E3 E4 E5 l1 l2 l3 l4 hgood
    by_cases he : endC s5 = 0
    · have hE : ((endC s5 : Int) != 0) = false := by simp [he]
      by_cases hm : m = magicN
      · have hstr : str = ⟨#[78, 65, 86, 49]⟩ := by rw [← hs.out, hm]; rfl
        subst hstr
        by_cases hl : 32 < n1 + n2
        · have hgt : decide ((32 : Int) < (n1 : Int) + (n2 : Int)) = true := by simp; omega
          clear hg4 he hl
          go_quiet ((go_at_call 115; refine quiet_of_drewN (end115 g s5 _ L10.out.c)))
          go_wp2_with fail
          go_ret2
          exact retLoad_none hN (below_drewN L10.out.b _) rfl
        · have hgt : decide ((32 : Int) < (n1 : Int) + (n2 : Int)) = false := by simp; omega
          have hg5 : n4 = 0 ∧ 0 < n1 + n2 := by
            rcases hg4 with e | e | e | e
            · exact absurd he e
            · exact absurd hm e
            · exact absurd e hl
            · exact e
          have h4 : ((n4 : Int) == 0) = true := by simp; omega
          have h0 : decide ((0 : Int) < (n1 : Int) + (n2 : Int)) = true := by simp; omega
          clear hg4 hg5 he hl
          go_quiet ((go_at_call 115; refine quiet_of_drewN (end115 g s5 _ L10.out.c)))
          go_wp2_with fail
          go_ret2
          exact retLoad_none hN (below_drewN L10.out.b _) rfl
      · have hM : (str.toList == [78, 65, 86, 49]) = false := by rw [← hs.out, toList_mk, beq_eq_false_iff_ne]; exact hm
        clear hg4 he
        go_quiet ((go_at_call 115; refine quiet_of_drewN (end115 g s5 _ L10.out.c)))
        go_wp2_with fail
        go_ret2
        exact retLoad_none hN (below_drewN L10.out.b _) rfl
    · have hE : ((endC s5 : Int) != 0) = true := by simp; omega
      clear hg4
      go_quiet ((go_at_call 115; refine quiet_of_drewN (end115 g s5 _ L10.out.c)))
      go_wp2_with fail
      go_ret2
      exact retLoad_none hN (below_drewN L10.out.b _) rfl
  · have hg4 : endC s5 = 0 ∧ m = magicN ∧ ¬ 32 < n1 + n2 ∧ (n4 = 0 → n1 + n2 = 0) := by
      have := hgood
      simp only [Lds.bad, decide_eq_true_eq, not_or, not_and, Decidable.not_not] at this
      rw [l1.out, l2.out, l4.out] at this
      exact ⟨this.1, this.2.1, this.2.2.1, fun e => by have := this.2.2.2 e; omega⟩
    have hN : Hd (loadN l = if mk.Nodup then some ⟨decide (n4 = 1), nw.headD (0, 0), bh, ah, mk⟩ else none) := ⟨by
      unfold loadN
      rw [HX.out, if_neg hgood]
      simp only [l4.out]⟩
    obtain ⟨he, hm, hl, h40⟩ := hg4
    have hE : ((endC s5 : Int) != 0) = false := by simp [he]
    have hstr : str = ⟨#[78, 65, 86, 49]⟩ := by rw [← hs.out, hm]; rfl
    subst hstr
    have hgt : decide ((32 : Int) < (n1 : Int) + (n2 : Int)) = false := by simp; omega
    clear HX E1 E2 E3 E4 E5 hgood he hm hl l1 l2 hs
    rcases (show (n4 = 0 ∧ n1 = 0 ∧ n2 = 0) ∨ n4 = 1 by omega) with ⟨rfl, rfl, rfl⟩ | rfl
    · clear h40 q1 q2 q4
      go_quiet ((go_at_call 115; refine quiet_of_drewN (end115 g s5 _ L10.out.c)))
      go_wp2_with fail
      obtain ⟨W, hW⟩ : ∃ W, Hd (w10.drewN nq = W) := ⟨_, ⟨rfl⟩⟩
      have LW : Hd (LdS w W g gx s5 _ _ _) := ⟨hW.out ▸ L10.out.later (below_drewN (Below.refl _ _) nq)⟩
      have P1 : Hd (OwnP W _ A1 _ c1 bh) := ⟨hW.out ▸ (show OwnP (w10.drewN nq) _ A1 _ c1 bh from O1.out)⟩
      have P2 : Hd (OwnP W _ A2 _ c2 ah) := ⟨hW.out ▸ (show OwnP (w10.drewN nq) _ A2 _ c2 ah from O2'.out)⟩
      have P3 : Hd (OwnP W _ A3 _ c3 mk) := ⟨hW.out ▸ (show OwnP (w10.drewN nq) _ A3 _ c3 mk from O3'.out)⟩
      have P4 : Hd (OwnP W _ A4 _ c4 nw) := ⟨hW.out ▸ (show OwnP (w10.drewN nq) _ A4 _ c4 nw from O4.out)⟩
      rw [hW.out]
      clear a4 a5 a6 hW L10 O1 O2' O3' O4 hgt hE hwr
      go_loopw [78] (fun i wr => ∃ k : Nat, i = .int .i64 (k : Int) ∧ k ≤ n3 ∧ Hd ((mk.take k).Nodup) ∧ Hd (Below W.heap.size W wr))
        (fun i _ => n3 - (intOf i).toNat)
      case atStart => exact ⟨0, rfl, by omega, ⟨by simp⟩, ⟨Below.refl _ _⟩⟩
      case round =>
        obtain ⟨k, rfl, hk, hnd, hb⟩ := hrel
        have LR := Hd.mk (LW.out.later hb.out)
        by_cases hlt : k < n3
        · obtain ⟨q, hq⟩ : ∃ q, mk[k]? = some q := ⟨mk[k]'(by have := l3.out; omega), List.getElem?_eq_getElem _⟩
          obtain ⟨ad, rfl, q0, q1⟩ := RdP.get' (Rd.below (Own.rd P3.out) hb.out) hq
          obtain ⟨x, y⟩ := q
          simp only at q0 q1
          have hki : (k : Int) < (n3 : Int) := by omega
          have hki0 : (0 : Int) ≤ (k : Int) := by omega
          have hkc : (k : Int) ≤ (c3 : Int) := by have := (Own.le P3.out).1; omega
          have HRd := Hd.mk (OwnP.takeRd (Own.below P3.out hb.out) (k := k) (by omega))
          have hA := Hd.mk (below_alloc wr (.cells #[.int .i64 x, .int .i64 y] 58))
          have hbx := Hd.mk (heap_alloc_new wr (.cells #[.int .i64 x, .int .i64 y] 58))
          have hq' := Hd.mk hq
          clear hq
          go_wp2_with fail
          clear q0 q1
          obtain ⟨W1, hW1⟩ : ∃ W1, Hd (wr.alloc (.cells #[.int .i64 x, .int .i64 y] 58) = W1) := ⟨_, ⟨rfl⟩⟩
          rw [hW1.out] at hA hbx ⊢
          have LR1 := Hd.mk (LR.out.later hA.out)
          have HRd1 := Hd.mk (Rd.below HRd.out hA.out)
          have HB1 := Hd.mk (hb.out.trans (hA.out.mono hb.out.size))
          obtain ⟨-, -, -, -, -, -, a6, -⟩ := nav_cells LR1.out.x
          obtain ⟨bx0, bx1⟩ := box_load hbx.out
          have Ha6 := Hd.mk a6
          have Hb0 := Hd.mk bx0
          have Hb1 := Hd.mk bx1
          clear a6 bx0 bx1 LR HRd hA hbx hW1
          by_cases hmem : (x, y) ∈ mk.take k
          · have hd : Hd (decide ((x, y) ∈ mk.take k) = true) := ⟨decide_eq_true hmem⟩
            have hN' : Hd (loadN l = none) := ⟨by rw [hN.out, if_neg (fun e => nodup_take hq'.out e hmem)]⟩
            clear hmem
            refine region_zone 8 [false, false, false, false, false, false, false, false] (by kernel_rfl) (by kernel_rfl) hmix (fun w' => Below W1.heap.size W1 w') [] ?_ (fun hS => ?_)
            · exact below_drew W1
            refine wpAnyZ_take0 (i := 0) (oi := ⟨_, _, _, _, _, _⟩) (v := ?_) rfl (by decide +kernel) (fun _ _ _ h => h) (Or.inl ⟨by rfl, ?_⟩) (fun _ => hS) ?_
            rotate_left
            focus (intro w _; go_simp; (try with_reducible rfl); done)
            simp only [Act.put, List.setIfInBounds_toArray, List.set_cons_zero, List.set_cons_succ]
            refine wpAnyZ_take0 (i := 1) (oi := ⟨_, _, _, _, _, _⟩) (v := ?_) rfl (by decide +kernel) (fun _ _ _ h => h) (Or.inl ⟨by rfl, ?_⟩) (fun _ => hS) ?_
            rotate_left
            focus (intro w _; go_simp; (try with_reducible rfl); done)
            simp only [Act.put, List.setIfInBounds_toArray, List.set_cons_zero, List.set_cons_succ]
            refine wpAnyZ_take0 (i := 2) (oi := ⟨_, _, _, _, _, _⟩) (v := ?_) rfl (by decide +kernel) (fun _ _ _ h => h) (Or.inl ⟨by rfl, ?_⟩) (fun _ => hS) ?_
            rotate_left
            focus (intro w _; go_simp; (try with_reducible rfl); done)
            simp only [Act.put, List.setIfInBounds_toArray, List.set_cons_zero, List.set_cons_succ]
            refine wpAnyZ_take (i := 3) (oi := ⟨_, _, _, _, _, _⟩) (v := ?_) rfl (by decide +kernel) (fun _ _ _ h => h) (Or.inl ⟨by rfl, ?_⟩) hS ?_
            rotate_left
            focus (intro w hSw; (try dsimp only at hSw); have a6 := below_cell hSw Ha6.out; have bx0 := below_cell hSw Hb0.out; have bx1 := below_cell hSw Hb1.out; clear hSw; go_simp; (try with_reducible rfl); done)
            simp only [Act.put, List.setIfInBounds_toArray, List.set_cons_zero, List.set_cons_succ]
            refine wpAnyZ_take0 (i := 4) (oi := ⟨_, _, _, _, _, _⟩) (v := ?_) rfl (by decide +kernel) (fun _ _ _ h => h) (Or.inl ⟨by rfl, ?_⟩) (fun _ => hS) ?_
            rotate_left
            focus (intro w _; go_simp; (try with_reducible rfl); done)
            simp only [Act.put, List.setIfInBounds_toArray, List.set_cons_zero, List.set_cons_succ]
            refine wpAnyZ_take0 (i := 5) (oi := ⟨_, _, _, _, _, _⟩) (v := ?_) rfl (by decide +kernel) (fun _ _ _ h => h) (Or.inl ⟨by rfl, ?_⟩) (fun _ => hS) ?_
            rotate_left
            focus (intro w _; go_simp; (try with_reducible rfl); done)
            simp only [Act.put, List.setIfInBounds_toArray, List.set_cons_zero, List.set_cons_succ]
            refine wpAnyZ_take (i := 6) (oi := ⟨_, _, _, _, _, _⟩) (v := ?_) rfl (by decide +kernel) (fun _ _ _ h => h) (Or.inl ⟨by rfl, ?_⟩) hS ?_
            rotate_left
            focus (intro w hSw; (try dsimp only at hSw); have a6 := below_cell hSw Ha6.out; have bx0 := below_cell hSw Hb0.out; have bx1 := below_cell hSw Hb1.out; clear hSw; go_simp; (try with_reducible rfl); done)
            simp only [Act.put, List.setIfInBounds_toArray, List.set_cons_zero, List.set_cons_succ]
            refine wpAnyZ_one (i := 7) rfl (by decide +kernel) (fun K hKK => ?_)
            go_simp
            refine (contains107 (some ad) k c3 (mk.take k) (x, y) W1.drew (Rd.below HRd1.out (below_drew W1)) (by omega)).mono ?_
            rw [hd.out]
            rintro e W2 ⟨rfl, b2⟩
            have hS0 := hS
            clear hS
            have hS := hS0.trans (b2.mono hS0.size)
            refine hKK.out _ _ (fun _ => hS) ?_
            clear hKK
            refine wpAnyZ_done (by decide +kernel) ?_
            go_wp2_with fail
            go_ret2
            exact retLoad_none hN' ((LR1.out.later hS).b) rfl
          · have hd : Hd (decide ((x, y) ∈ mk.take k) = false) := ⟨decide_eq_false hmem⟩
            have hnd' := Hd.mk (nodup_step hq'.out hnd.out hmem)
            clear hmem
            refine region_zone 8 [false, false, false, false, false, false, false, false] (by kernel_rfl) (by kernel_rfl) hmix (fun w' => Below W1.heap.size W1 w') [] ?_ (fun hS => ?_)
            · exact below_drew W1
            refine wpAnyZ_take0 (i := 0) (oi := ⟨_, _, _, _, _, _⟩) (v := ?_) rfl (by decide +kernel) (fun _ _ _ h => h) (Or.inl ⟨by rfl, ?_⟩) (fun _ => hS) ?_
            rotate_left
            focus (intro w _; go_simp; (try with_reducible rfl); done)
            simp only [Act.put, List.setIfInBounds_toArray, List.set_cons_zero, List.set_cons_succ]
            refine wpAnyZ_take0 (i := 1) (oi := ⟨_, _, _, _, _, _⟩) (v := ?_) rfl (by decide +kernel) (fun _ _ _ h => h) (Or.inl ⟨by rfl, ?_⟩) (fun _ => hS) ?_
            rotate_left
            focus (intro w _; go_simp; (try with_reducible rfl); done)
            simp only [Act.put, List.setIfInBounds_toArray, List.set_cons_zero, List.set_cons_succ]
            refine wpAnyZ_take0 (i := 2) (oi := ⟨_, _, _, _, _, _⟩) (v := ?_) rfl (by decide +kernel) (fun _ _ _ h => h) (Or.inl ⟨by rfl, ?_⟩) (fun _ => hS) ?_
            rotate_left
            focus (intro w _; go_simp; (try with_reducible rfl); done)
            simp only [Act.put, List.setIfInBounds_toArray, List.set_cons_zero, List.set_cons_succ]
            refine wpAnyZ_take (i := 3) (oi := ⟨_, _, _, _, _, _⟩) (v := ?_) rfl (by decide +kernel) (fun _ _ _ h => h) (Or.inl ⟨by rfl, ?_⟩) hS ?_
            rotate_left
            focus (intro w hSw; (try dsimp only at hSw); have a6 := below_cell hSw Ha6.out; have bx0 := below_cell hSw Hb0.out; have bx1 := below_cell hSw Hb1.out; clear hSw; go_simp; (try with_reducible rfl); done)
            simp only [Act.put, List.setIfInBounds_toArray, List.set_cons_zero, List.set_cons_succ]
            refine wpAnyZ_take0 (i := 4) (oi := ⟨_, _, _, _, _, _⟩) (v := ?_) rfl (by decide +kernel) (fun _ _ _ h => h) (Or.inl ⟨by rfl, ?_⟩) (fun _ => hS) ?_
            rotate_left
            focus (intro w _; go_simp; (try with_reducible rfl); done)
            simp only [Act.put, List.setIfInBounds_toArray, List.set_cons_zero, List.set_cons_succ]
            refine wpAnyZ_take0 (i := 5) (oi := ⟨_, _, _, _, _, _⟩) (v := ?_) rfl (by decide +kernel) (fun _ _ _ h => h) (Or.inl ⟨by rfl, ?_⟩) (fun _ => hS) ?_
            rotate_left
            focus (intro w _; go_simp; (try with_reducible rfl); done)
            simp only [Act.put, List.setIfInBounds_toArray, List.set_cons_zero, List.set_cons_succ]
            refine wpAnyZ_take (i := 6) (oi := ⟨_, _, _, _, _, _⟩) (v := ?_) rfl (by decide +kernel) (fun _ _ _ h => h) (Or.inl ⟨by rfl, ?_⟩) hS ?_
            rotate_left
            focus (intro w hSw; (try dsimp only at hSw); have a6 := below_cell hSw Ha6.out; have bx0 := below_cell hSw Hb0.out; have bx1 := below_cell hSw Hb1.out; clear hSw; go_simp; (try with_reducible rfl); done)
            simp only [Act.put, List.setIfInBounds_toArray, List.set_cons_zero, List.set_cons_succ]
            refine wpAnyZ_one (i := 7) rfl (by decide +kernel) (fun K hKK => ?_)
            go_simp
            refine (contains107 (some ad) k c3 (mk.take k) (x, y) W1.drew (Rd.below HRd1.out (below_drew W1)) (by omega)).mono ?_
            rw [hd.out]
            rintro e W2 ⟨rfl, b2⟩
            have hS0 := hS
            clear hS
            have hS := hS0.trans (b2.mono hS0.size)
            refine hKK.out _ _ (fun _ => hS) ?_
            clear hKK
            refine wpAnyZ_done (by decide +kernel) ?_
            go_wp2_with fail
            go_roundw
            case rel => exact ⟨k + 1, by go_num, by omega, hnd', ⟨HB1.out.trans (hS.mono HB1.out.size)⟩⟩
            case measure => simp [intOf]; omega
        · obtain rfl : k = n3 := by omega
          have hNn : Hd (mk.Nodup) := ⟨by have := hnd.out; rwa [List.take_of_length_le (by rw [l3.out]; omega)] at this⟩
          have hki : ¬ ((k : Int) < (k : Int)) := by omega
          have hnw : Hd (nw = []) := ⟨List.eq_nil_of_length_eq_zero l4.out⟩
          go_wp2_with fail
          go_ret2
          have hs' : Hd (loadN l = some ⟨false, (0, 0), bh, ah, mk⟩) := ⟨by rw [hN.out, if_pos hNn.out, hnw.out]; rfl⟩
          exact retLoad_some hs' LR.out.b rfl (nav_parts (w := w) LR.out.x (by have := LR.out.lo; have := LR.out.gg; omega) (Own.below P1.out hb.out) (Own.below P2.out hb.out) (Own.below P3.out hb.out) z1.out z2.out z3.out d1.out d2.out hsz.out) (fun _ e => e.1)
    · clear h40 q1 q2 q4
      go_quiet ((go_at_call 115; refine quiet_of_drewN (end115 g s5 _ L10.out.c)))
      go_wp2_with fail
      obtain ⟨W, hW⟩ : ∃ W, Hd (w10.drewN nq = W) := ⟨_, ⟨rfl⟩⟩
      have LW : Hd (LdS w W g gx s5 _ _ _) := ⟨hW.out ▸ L10.out.later (below_drewN (Below.refl _ _) nq)⟩
      have P1 : Hd (OwnP W _ A1 _ c1 bh) := ⟨hW.out ▸ (show OwnP (w10.drewN nq) _ A1 _ c1 bh from O1.out)⟩
      have P2 : Hd (OwnP W _ A2 _ c2 ah) := ⟨hW.out ▸ (show OwnP (w10.drewN nq) _ A2 _ c2 ah from O2'.out)⟩
      have P3 : Hd (OwnP W _ A3 _ c3 mk) := ⟨hW.out ▸ (show OwnP (w10.drewN nq) _ A3 _ c3 mk from O3'.out)⟩
      have P4 : Hd (OwnP W _ A4 _ c4 nw) := ⟨hW.out ▸ (show OwnP (w10.drewN nq) _ A4 _ c4 nw from O4.out)⟩
      rw [hW.out]
      clear a4 a5 a6 hW L10 O1 O2' O3' O4 hgt hE hwr
      go_loopw [78] (fun i wr => ∃ k : Nat, i = .int .i64 (k : Int) ∧ k ≤ n3 ∧ Hd ((mk.take k).Nodup) ∧ Hd (Below W.heap.size W wr))
        (fun i _ => n3 - (intOf i).toNat)
      case atStart => exact ⟨0, rfl, by omega, ⟨by simp⟩, ⟨Below.refl _ _⟩⟩
      case round =>
        obtain ⟨k, rfl, hk, hnd, hb⟩ := hrel
        have LR := Hd.mk (LW.out.later hb.out)
        by_cases hlt : k < n3
        · obtain ⟨q, hq⟩ : ∃ q, mk[k]? = some q := ⟨mk[k]'(by have := l3.out; omega), List.getElem?_eq_getElem _⟩
          obtain ⟨ad, rfl, q0, q1⟩ := RdP.get' (Rd.below (Own.rd P3.out) hb.out) hq
          obtain ⟨x, y⟩ := q
          simp only at q0 q1
          have hki : (k : Int) < (n3 : Int) := by omega
          have hki0 : (0 : Int) ≤ (k : Int) := by omega
          have hkc : (k : Int) ≤ (c3 : Int) := by have := (Own.le P3.out).1; omega
          have HRd := Hd.mk (OwnP.takeRd (Own.below P3.out hb.out) (k := k) (by omega))
          have hA := Hd.mk (below_alloc wr (.cells #[.int .i64 x, .int .i64 y] 58))
          have hbx := Hd.mk (heap_alloc_new wr (.cells #[.int .i64 x, .int .i64 y] 58))
          have hq' := Hd.mk hq
          clear hq
          go_wp2_with fail
          clear q0 q1
          obtain ⟨W1, hW1⟩ : ∃ W1, Hd (wr.alloc (.cells #[.int .i64 x, .int .i64 y] 58) = W1) := ⟨_, ⟨rfl⟩⟩
          rw [hW1.out] at hA hbx ⊢
          have LR1 := Hd.mk (LR.out.later hA.out)
          have HRd1 := Hd.mk (Rd.below HRd.out hA.out)
          have HB1 := Hd.mk (hb.out.trans (hA.out.mono hb.out.size))
          obtain ⟨-, -, -, -, -, -, a6, -⟩ := nav_cells LR1.out.x
          obtain ⟨bx0, bx1⟩ := box_load hbx.out
          have Ha6 := Hd.mk a6
          have Hb0 := Hd.mk bx0
          have Hb1 := Hd.mk bx1
          clear a6 bx0 bx1 LR HRd hA hbx hW1
          by_cases hmem : (x, y) ∈ mk.take k
          · have hd : Hd (decide ((x, y) ∈ mk.take k) = true) := ⟨decide_eq_true hmem⟩
            have hN' : Hd (loadN l = none) := ⟨by rw [hN.out, if_neg (fun e => nodup_take hq'.out e hmem)]⟩
            clear hmem
            refine region_zone 8 [false, false, false, false, false, false, false, false] (by kernel_rfl) (by kernel_rfl) hmix (fun w' => Below W1.heap.size W1 w') [] ?_ (fun hS => ?_)
            · exact below_drew W1
            refine wpAnyZ_take0 (i := 0) (oi := ⟨_, _, _, _, _, _⟩) (v := ?_) rfl (by decide +kernel) (fun _ _ _ h => h) (Or.inl ⟨by rfl, ?_⟩) (fun _ => hS) ?_
            rotate_left
            focus (intro w _; go_simp; (try with_reducible rfl); done)
            simp only [Act.put, List.setIfInBounds_toArray, List.set_cons_zero, List.set_cons_succ]
            refine wpAnyZ_take0 (i := 1) (oi := ⟨_, _, _, _, _, _⟩) (v := ?_) rfl (by decide +kernel) (fun _ _ _ h => h) (Or.inl ⟨by rfl, ?_⟩) (fun _ => hS) ?_
            rotate_left
            focus (intro w _; go_simp; (try with_reducible rfl); done)
            simp only [Act.put, List.setIfInBounds_toArray, List.set_cons_zero, List.set_cons_succ]
            refine wpAnyZ_take0 (i := 2) (oi := ⟨_, _, _, _, _, _⟩) (v := ?_) rfl (by decide +kernel) (fun _ _ _ h => h) (Or.inl ⟨by rfl, ?_⟩) (fun _ => hS) ?_
            rotate_left
            focus (intro w _; go_simp; (try with_reducible rfl); done)
            simp only [Act.put, List.setIfInBounds_toArray, List.set_cons_zero, List.set_cons_succ]
            refine wpAnyZ_take (i := 3) (oi := ⟨_, _, _, _, _, _⟩) (v := ?_) rfl (by decide +kernel) (fun _ _ _ h => h) (Or.inl ⟨by rfl, ?_⟩) hS ?_
            rotate_left
            focus (intro w hSw; (try dsimp only at hSw); have a6 := below_cell hSw Ha6.out; have bx0 := below_cell hSw Hb0.out; have bx1 := below_cell hSw Hb1.out; clear hSw; go_simp; (try with_reducible rfl); done)
            simp only [Act.put, List.setIfInBounds_toArray, List.set_cons_zero, List.set_cons_succ]
            refine wpAnyZ_take0 (i := 4) (oi := ⟨_, _, _, _, _, _⟩) (v := ?_) rfl (by decide +kernel) (fun _ _ _ h => h) (Or.inl ⟨by rfl, ?_⟩) (fun _ => hS) ?_
            rotate_left
            focus (intro w _; go_simp; (try with_reducible rfl); done)
            simp only [Act.put, List.setIfInBounds_toArray, List.set_cons_zero, List.set_cons_succ]
            refine wpAnyZ_take0 (i := 5) (oi := ⟨_, _, _, _, _, _⟩) (v := ?_) rfl (by decide +kernel) (fun _ _ _ h => h) (Or.inl ⟨by rfl, ?_⟩) (fun _ => hS) ?_
            rotate_left
            focus (intro w _; go_simp; (try with_reducible rfl); done)
            simp only [Act.put, List.setIfInBounds_toArray, List.set_cons_zero, List.set_cons_succ]
            refine wpAnyZ_take (i := 6) (oi := ⟨_, _, _, _, _, _⟩) (v := ?_) rfl (by decide +kernel) (fun _ _ _ h => h) (Or.inl ⟨by rfl, ?_⟩) hS ?_
            rotate_left
            focus (intro w hSw; (try dsimp only at hSw); have a6 := below_cell hSw Ha6.out; have bx0 := below_cell hSw Hb0.out; have bx1 := below_cell hSw Hb1.out; clear hSw; go_simp; (try with_reducible rfl); done)
            simp only [Act.put, List.setIfInBounds_toArray, List.set_cons_zero, List.set_cons_succ]
            refine wpAnyZ_one (i := 7) rfl (by decide +kernel) (fun K hKK => ?_)
            go_simp
            refine (contains107 (some ad) k c3 (mk.take k) (x, y) W1.drew (Rd.below HRd1.out (below_drew W1)) (by omega)).mono ?_
            rw [hd.out]
            rintro e W2 ⟨rfl, b2⟩
            have hS0 := hS
            clear hS
            have hS := hS0.trans (b2.mono hS0.size)
            refine hKK.out _ _ (fun _ => hS) ?_
            clear hKK
            refine wpAnyZ_done (by decide +kernel) ?_
            go_wp2_with fail
            go_ret2
            exact retLoad_none hN' ((LR1.out.later hS).b) rfl
          · have hd : Hd (decide ((x, y) ∈ mk.take k) = false) := ⟨decide_eq_false hmem⟩
            have hnd' := Hd.mk (nodup_step hq'.out hnd.out hmem)
            clear hmem
            refine region_zone 8 [false, false, false, false, false, false, false, false] (by kernel_rfl) (by kernel_rfl) hmix (fun w' => Below W1.heap.size W1 w') [] ?_ (fun hS => ?_)
            · exact below_drew W1
            refine wpAnyZ_take0 (i := 0) (oi := ⟨_, _, _, _, _, _⟩) (v := ?_) rfl (by decide +kernel) (fun _ _ _ h => h) (Or.inl ⟨by rfl, ?_⟩) (fun _ => hS) ?_
            rotate_left
            focus (intro w _; go_simp; (try with_reducible rfl); done)
            simp only [Act.put, List.setIfInBounds_toArray, List.set_cons_zero, List.set_cons_succ]
            refine wpAnyZ_take0 (i := 1) (oi := ⟨_, _, _, _, _, _⟩) (v := ?_) rfl (by decide +kernel) (fun _ _ _ h => h) (Or.inl ⟨by rfl, ?_⟩) (fun _ => hS) ?_
            rotate_left
            focus (intro w _; go_simp; (try with_reducible rfl); done)
            simp only [Act.put, List.setIfInBounds_toArray, List.set_cons_zero, List.set_cons_succ]
            refine wpAnyZ_take0 (i := 2) (oi := ⟨_, _, _, _, _, _⟩) (v := ?_) rfl (by decide +kernel) (fun _ _ _ h => h) (Or.inl ⟨by rfl, ?_⟩) (fun _ => hS) ?_
            rotate_left
            focus (intro w _; go_simp; (try with_reducible rfl); done)
            simp only [Act.put, List.setIfInBounds_toArray, List.set_cons_zero, List.set_cons_succ]
            refine wpAnyZ_take (i := 3) (oi := ⟨_, _, _, _, _, _⟩) (v := ?_) rfl (by decide +kernel) (fun _ _ _ h => h) (Or.inl ⟨by rfl, ?_⟩) hS ?_
            rotate_left
            focus (intro w hSw; (try dsimp only at hSw); have a6 := below_cell hSw Ha6.out; have bx0 := below_cell hSw Hb0.out; have bx1 := below_cell hSw Hb1.out; clear hSw; go_simp; (try with_reducible rfl); done)
            simp only [Act.put, List.setIfInBounds_toArray, List.set_cons_zero, List.set_cons_succ]
            refine wpAnyZ_take0 (i := 4) (oi := ⟨_, _, _, _, _, _⟩) (v := ?_) rfl (by decide +kernel) (fun _ _ _ h => h) (Or.inl ⟨by rfl, ?_⟩) (fun _ => hS) ?_
            rotate_left
            focus (intro w _; go_simp; (try with_reducible rfl); done)
            simp only [Act.put, List.setIfInBounds_toArray, List.set_cons_zero, List.set_cons_succ]
            refine wpAnyZ_take0 (i := 5) (oi := ⟨_, _, _, _, _, _⟩) (v := ?_) rfl (by decide +kernel) (fun _ _ _ h => h) (Or.inl ⟨by rfl, ?_⟩) (fun _ => hS) ?_
            rotate_left
            focus (intro w _; go_simp; (try with_reducible rfl); done)
            simp only [Act.put, List.setIfInBounds_toArray, List.set_cons_zero, List.set_cons_succ]
            refine wpAnyZ_take (i := 6) (oi := ⟨_, _, _, _, _, _⟩) (v := ?_) rfl (by decide +kernel) (fun _ _ _ h => h) (Or.inl ⟨by rfl, ?_⟩) hS ?_
            rotate_left
            focus (intro w hSw; (try dsimp only at hSw); have a6 := below_cell hSw Ha6.out; have bx0 := below_cell hSw Hb0.out; have bx1 := below_cell hSw Hb1.out; clear hSw; go_simp; (try with_reducible rfl); done)
            simp only [Act.put, List.setIfInBounds_toArray, List.set_cons_zero, List.set_cons_succ]
            refine wpAnyZ_one (i := 7) rfl (by decide +kernel) (fun K hKK => ?_)
            go_simp
            refine (contains107 (some ad) k c3 (mk.take k) (x, y) W1.drew (Rd.below HRd1.out (below_drew W1)) (by omega)).mono ?_
            rw [hd.out]
            rintro e W2 ⟨rfl, b2⟩
            have hS0 := hS
            clear hS
            have hS := hS0.trans (b2.mono hS0.size)
            refine hKK.out _ _ (fun _ => hS) ?_
            clear hKK
            refine wpAnyZ_done (by decide +kernel) ?_
            go_wp2_with fail
            go_roundw
            case rel => exact ⟨k + 1, by go_num, by omega, hnd', ⟨HB1.out.trans (hS.mono HB1.out.size)⟩⟩
            case measure => simp [intOf]; omega
        · obtain rfl : k = n3 := by omega
          have hNn : Hd (mk.Nodup) := ⟨by have := hnd.out; rwa [List.take_of_length_le (by rw [l3.out]; omega)] at this⟩
          have hki : ¬ ((k : Int) < (k : Int)) := by omega
          obtain ⟨p, hnw'⟩ : ∃ p, nw = [p] := by
            match nw, l4.out with
            | [p], _ => exact ⟨p, rfl⟩
          have hnw := Hd.mk hnw'
          obtain ⟨px, py⟩ := p
          obtain ⟨ad, e, q0, q1⟩ := RdP.get' (Rd.below (Own.rd P4.out) hb.out) (k := 0) (p := (px, py)) (by rw [hnw']; rfl)
          subst e
          rw [show (0 * 2 : Nat) = 0 from rfl, show ∀ a : Addr, a.add 0 = a from fun a => by simp [Addr.add]] at q0 q1
          obtain ⟨a0, a1, a2, a3, -, -, -, af⟩ := nav_cells LR.out.x
          have f1 := af 1
          have f2 := af 2
          have f3 := af 3
          clear hnw'
          go_wp2_with fail
          go_ret2
          have hs' : Hd (loadN l = some ⟨true, (px, py), bh, ah, mk⟩) := ⟨by rw [hN.out, if_pos hNn.out, hnw.out]; rfl⟩
          have x1 := heap_setCell_same wr gx 1 _ 78 (.int .i64 1) LR.out.x
          have x2 := heap_setCell_same _ gx 2 _ 78 (.int .i64 px) x1
          have x3 := heap_setCell_same _ gx 3 _ 78 (.int .i64 py) x2
          have hgw : w.heap.size ≤ gx := by have := LR.out.lo; have := LR.out.gg; omega
          have hb1 := (Tch.setCell (fun k => k = gx) wr gx 1 (.int .i64 1) (.inl rfl)).below (B := w.heap.size) (fun k e => by omega) LR.out.b.size
          have hb2 := (Tch.setCell (fun k => k = gx) _ gx 2 (.int .i64 px) (.inl rfl)).below (B := w.heap.size) (fun k e => by omega) (Nat.le_trans LR.out.b.size hb1.size)
          have hb3 := (Tch.setCell (fun k => k = gx) _ gx 3 (.int .i64 py) (.inl rfl)).below (B := w.heap.size) (fun k e => by omega) (Nat.le_trans LR.out.b.size (Nat.le_trans hb1.size hb2.size))
          exact retLoad_some hs' (((LR.out.b.trans hb1).trans hb2).trans hb3) rfl
            (nav_parts (w := w) (s := ⟨true, (px, py), bh, ah, mk⟩) x3 hgw (own_cell (own_cell (own_cell (Own.below P1.out hb.out) z1.out) z1.out) z1.out) (own_cell (own_cell (own_cell (Own.below P2.out hb.out) z2.out) z2.out) z2.out) (own_cell (own_cell (own_cell (Own.below P3.out hb.out) z3.out) z3.out) z3.out) z1.out z2.out z3.out d1.out d2.out hsz.out) (fun _ e => e.1)
end Go.Proofs.Ytkgdcglnkodgnaa

