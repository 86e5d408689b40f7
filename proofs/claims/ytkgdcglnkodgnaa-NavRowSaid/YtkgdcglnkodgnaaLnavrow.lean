/-
  Law NavRow walked: a script without Drops, and any script behind a Drop, leaves no two places alike side by side.
-/
import Derived.Test.YtkgdcglnkodgnaaLnavback
namespace Go.Proofs.Ytkgdcglnkodgnaa
open Go.RowKit
/-! Slices of acts, appended to. -/
theorem ac_append (l k : List ActN) : ac (l ++ k) = ac l ++ ac k := by
  induction l with
  | nil => rfl
  | cons a r ih => simp only [List.cons_append, ac, ih, List.append_assoc]
theorem ac_one (l : List ActN) : ∀ u ∈ ac l, u.oneCell' = true := by
  induction l with
  | nil => intro u h; cases h
  | cons a r ih =>
    intro u h
    simp only [ac, aCells, List.mem_append, List.mem_cons, List.not_mem_nil, or_false] at h
    rcases h with (rfl | rfl | rfl | rfl) | h
    · rfl
    · rfl
    · rfl
    · rfl
    · exact ih u h
def OwnA (w : World) (base : Nat) (A : Option Addr) (n c : Nat) (l : List ActN) : Prop := Own w base 71 4 A n c (ac l)
def AppA (w : World) (base : Nat) (A : Option Addr) (c n' : Nat) (l' : List ActN) (v : Value) (w' : World) : Prop :=
  ∃ A' c', v = .slice A' n' c' ∧ OwnA w' base A' n' c' l' ∧ w.grownBy w' (ownBlk A c) ∧ ((A' = A ∧ c' = c ∧ n' ≤ c) ∨ A' = some ⟨w.heap.size, 0, none⟩)
theorem info71 : (Try.prog.info? 71).map (fun i => (i.zero, i.size, i.bytes)) = some (some (.agg #[.int .i64 0, .int .i64 0, .int .i64 0, .int .i64 0]), 4, 32) := by kernel_rfl
section
variable {w : World} {ops : Array Oper} {rest : List Oper} {o : Oper} {a : Act} {Q : Exit → Act → World → Prop}
theorem wl_appA (hgd : o.guard = none) (s x : Operand) (ho : o.op = .call { callee := .builtin .append, args := #[s, x], argTypes := #[56, 56] })
    {base : Nat} {A S : Option Addr} {n c m cs : Nat} {l k : List ActN} (hs : a.eval s = .slice A n c) (hx : a.eval x = .slice S m cs)
    (hown : OwnA w base A n c l) (hr : RdA w S m k) (hb : n + m ≤ 4398046511104) (hbase : base ≤ w.heap.size)
    (h : ∀ v w', AppA w base A c (n + m) (l ++ k) v w' → wpList Try.prog ops Q rest (a.put o.dst v) w') : wpList Try.prog ops Q (o :: rest) a w := by
  obtain ⟨i0, hi, hz0, hz1, hz2⟩ := info_parts info71
  obtain ⟨A', c', w', hrun, hap⟩ := run_append_rd (P := Try.prog) w base 56 o.type 71 i0 _ 4 32 Try.underlying56 hi hz0 hz1 hz2 rfl A n c (ac l) hown S m cs (ac k) hr (ac_one k) (by unfold maxLen; omega) (by omega) hbase
  refine wpList_run w hgd s x 56 56 ho _ _ hs hx (R := AppA w base A c (n + m) (l ++ k)) ⟨_, w', hrun, A', c', rfl, ?_, hap.2⟩ h
  have := hap.1
  rw [← ac_append] at this
  exact this
end
theorem below_appA {w0 w w' : World} {base : Nat} {A : Option Addr} {n c : Nat} {l : List ActN} (hb : Below base w0 w) (hsz : base ≤ w.heap.size) (ho : OwnA w base A n c l) (hg : w.grownBy w' (ownBlk A c)) : Below base w0 w' :=
  hb.grown hg hsz fun _ h => (Own.lt ho h).1
theorem RdA.newAt (w : World) (a : ActN) {cs : Array Value} (h : cs = (ac [a]).toArray) {H : Nat} (hH : H = w.heap.size) : RdA (w.alloc (.cells cs 71)) (some ⟨H, 0, none⟩) 1 [a] := by
  subst hH; subst h
  refine ⟨by simp [ac, aCells], fun _ => ⟨_, rfl, fun j u hu => ?_⟩⟩
  have hrow := heap_alloc_new w (.cells (ac [a]).toArray 71)
  rw [add_plain, cell_of_row _ _ _ _ _ _ hrow, Nat.zero_add]
  simpa using hu
/-- A script without its Drops. -/
def plainL (l : List ActN) : List ActN := l.filter fun a => a.kind ≠ 6
theorem plainL_snoc {l : List ActN} {k : Nat} {a : ActN} (h : l[k]? = some a) : plainL (l.take (k + 1)) = plainL (l.take k) ++ (if a.kind = 6 then [] else [a]) := by
  rw [take_snocA h]
  unfold plainL
  rw [List.filter_append]
  congr 1
  by_cases h6 : a.kind = 6 <;> simp [h6]
theorem plainL_run (l : List ActN) (n : Nat) : NoTwin (runN NS.new ((plainL l).take n)).row :=
  row_run NInv.new (by show NoTwin []; trivial) (fun a ha => by
    have := List.mem_of_mem_take ha
    simpa [plainL] using (List.mem_filter.1 this).2)
theorem NoTwin.get2 {l : List Pl} (h : NoTwin l) {i : Nat} {p q : Pl} (hp : l[i]? = some p) (hq : l[i + 1]? = some q) : p ≠ q := by
  obtain ⟨h1, e1⟩ := List.getElem?_eq_some_iff.1 hp
  obtain ⟨h2, e2⟩ := List.getElem?_eq_some_iff.1 hq
  rw [← e1, ← e2]
  exact h.get h2
set_option maxRecDepth 100000 in
set_option maxHeartbeats 1000000 in
theorem navRow10 (A : Option Addr) (n c : Nat) (l : List ActN) (t : Int) (w : World) (h : RdA w A n l) (hn : n ≤ 4398046511104) :
    Calls Try.prog 10 #[.slice A n c, .int .i64 t] w fun e w' => e = .returned (.bool true) ∧ Below w.heap.size w w' := by
  have HL := Hd.mk h.len
  go_enter Try.func10, Try.ntmps10
  go_wp2_with fail
  refine (awake42 _).mono ?_
  rintro e w1 ⟨rfl, b1⟩
  have HB1 := Hd.mk b1
  have hr1 := Hd.mk (Rd.below h HB1.out)
  clear b1
  go_wp2
  go_loopw [5, 6] (fun v i wr => ∃ (k : Nat) (P : Option Addr) (m d : Nat), v = .slice P m d ∧ i = .int .i64 (k : Int) ∧ k ≤ n ∧ m ≤ k ∧ OwnA wr w.heap.size P m d (plainL (l.take k)) ∧ Hd (Below w.heap.size w wr) ∧ Hd (w.heap.size ≤ wr.heap.size))
    (fun _ i _ => n - (intOf i).toNat)
  case atStart => exact ⟨0, none, 0, 0, rfl, rfl, by omega, by omega, Own.nil_ _ _ _ _ _, HB1, ⟨HB1.out.size⟩⟩
  case round =>
    obtain ⟨k, P, m, d, rfl, rfl, hk, hmk, ho, hb, hsz⟩ := hrel
    by_cases hlt : k < n
    · obtain ⟨a, ha⟩ : ∃ a, l[k]? = some a := ⟨l[k]'(by have := HL.out; omega), List.getElem?_eq_getElem _⟩
      have hls := plainL_snoc ha
      obtain ⟨ad, rfl, q0, q1, q2, q3⟩ := RdA.get' (Rd.below h hb.out) ha
      have hki : (k : Int) < (n : Int) := by omega
      have hki0 : (0 : Int) ≤ (k : Int) := by omega
      by_cases h6 : a.kind = 6
      · rw [if_pos h6, List.append_nil] at hls
        have HLS := Hd.mk hls
        rw [h6] at q0
        clear hls
        go_wp2_with fail
        go_roundw
        case rel => exact ⟨k + 1, P, m, d, rfl, by go_num, by omega, by omega, by rw [HLS.out]; exact ho, hb, hsz⟩
        case measure => simp [intOf]; omega
      · rw [if_neg h6] at hls
        have HLS := Hd.mk hls
        clear hls
        obtain ⟨kd, ⟨px, py⟩, x⟩ := a
        simp only at q0 q1 q2 q3 h6
        go_wp2_with (at_builtin; refine wl_appA rfl (.tmp 27) (.tmp 32) rfl (m := 1) rfl rfl (Own.alloc ho _) (RdA.newAt _ ⟨kd, (px, py), x⟩ rfl rfl) (by omega) (by have := hsz.out; simp; omega) ?_; rintro v w2 ⟨P', d', rfl, ho1, hg1, _⟩)
        go_roundw
        case rel =>
          have hb2 := Hd.mk (below_appA (hb.out.trans ((below_alloc wr _).mono hsz.out)) (by have := hsz.out; simp; omega) (Own.alloc ho _) hg1)
          exact ⟨k + 1, P', m + 1, d', rfl, by go_num, by omega, by omega, by rw [HLS.out]; exact ho1, hb2, ⟨hb2.out.size⟩⟩
        case measure => simp [intOf]; omega
    · obtain rfl : k = n := by omega
      have hki : ¬ ((k : Int) < (k : Int)) := by omega
      rw [List.take_of_length_le (by have := HL.out; omega)] at ho
      have hplain := Hd.mk (Own.rd ho)
      have hm4 : m ≤ 4398046511104 := by omega
      clear ho
      obtain ⟨W0, hW0⟩ : ∃ W0, W0 = wr := ⟨_, rfl⟩
      subst hW0
      go_wp2
      go_loopw [7] (fun i wr => ∃ k : Nat, i = .int .i64 (k : Int) ∧ k ≤ 2 ∧ Hd (Below W0.heap.size W0 wr))
        (fun i _ => 2 - (intOf i).toNat)
      case atStart => exact ⟨0, rfl, by omega, ⟨Below.refl _ _⟩⟩
      case round =>
        obtain ⟨q, rfl, hq, hb2⟩ := hrel
        have hcase : q = 0 ∨ q = 1 ∨ q = 2 := by omega
        rcases hcase with rfl | rfl | rfl
        · go_wp2_with fail
          refine (run43 P m d _ wr (Rd.below hplain.out hb2.out) hm4).mono ?_
          rintro e w5 ⟨g, F, rfl, N5, hF5, b5⟩
          have hrow := Hd.mk (plainL_run l 400)
          have hI := Hd.mk (NInv.new.run ((plainL l).take 400))
          have NX := Hd.mk N5
          have BX := Hd.mk (hb2.out.trans (b5.mono hb2.out.size))
          generalize runN NS.new ((plainL l).take 400) = s at *
          clear N5 hF5 b5 hb2
          go_wp2_with fail
          refine (behind51 g _ s w5 NX.out (by have := hI.out.small; omega)).mono ?_
          rintro e w6 ⟨R, rn, rc, rfl, ho, b6⟩
          have C6 := Hd.mk b6
          have HLn := Hd.mk (OwnP.len ho)
          clear b6
          go_wp2_with fail
          refine (now47 g _ s w6 (NX.out.below C6.out)).mono ?_
          obtain ⟨⟨t1, t2⟩, htd⟩ : ∃ t, Hd (s.told = t) := ⟨_, ⟨rfl⟩⟩
          obtain ⟨hs', hhas⟩ : ∃ hs', Hd (s.has = hs') := ⟨_, ⟨rfl⟩⟩
          rw [htd.out, hhas.out]
          rintro e w7 ⟨rfl, b7⟩
          unfold plV
          have C7 := Hd.mk (C6.out.trans (b7.mono C6.out.size))
          have C := Hd.mk (C7.out.trans ((below_alloc w7 (.cells #[.int .i64 t1, .int .i64 t2] 58)).mono C7.out.size))
          have ho7 := Own.alloc (Own.below ho b7) (.cells #[.int .i64 t1, .int .i64 t2] 58)
          obtain ⟨bx0, bx1⟩ := box_load (heap_alloc_new w7 (.cells #[.int .i64 t1, .int .i64 t2] 58))
          have hsm := Hd.mk hI.out.small
          clear ho b7 C6 C7
          cases hs' with
          | false =>
            have hrw : Hd (s.row = s.bh ++ s.ah) := ⟨by unfold NS.row; rw [hhas.out]; simp⟩
            go_wp2_with fail
            clear bx0 bx1
            have hLn : Hd (s.bh.length ≤ 100) := ⟨by have := hsm.out; omega⟩
            generalize w7.alloc (.cells #[.int .i64 t1, .int .i64 t2] 58) = W at *
            generalize s.bh = L at *
            have ho := ho7
            clear ho7
            refine (ahead49 g _ s W (NX.out.below C.out) (by have := hsm.out; omega)).mono ?_
            rintro e w9 ⟨Q, qn, qc, rfl, oa, b9⟩
            have ho9 := Own.below ho b9
            have C9 := Hd.mk (C.out.trans (b9.mono C.out.size))
            have hQn := Hd.mk (OwnP.len oa)
            have hRn := Hd.mk (OwnP.len ho)
            have hmm : rn + qn ≤ 8796093022208 := by have := hsm.out; have := hQn.out; have := hRn.out; have := hLn.out; omega
            clear ho b9 C
            go_wp2_with (at_builtin; refine wl_appP rfl (.tmp 59) (.tmp 61) rfl rfl rfl ho9 (Own.rd oa) hmm C9.out.size ?_; rintro v wA ⟨R2, rc2, rfl, hoA, hgA, _⟩)
            have CA := Hd.mk (BX.out.trans ((below_appP C9.out C9.out.size ho9 hgA).mono BX.out.size))
            rw [← hrw.out] at hoA
            clear C9 ho9 oa hgA hrw hQn hRn hLn hsm htd hhas NX HLn
            obtain ⟨M, hM⟩ : ∃ M, rn + qn = M := ⟨_, rfl⟩
            rw [hM] at hoA hmm ⊢
            have HM := Hd.mk (OwnP.len hoA)
            have hrd := Hd.mk (Own.rd hoA)
            clear hoA
            go_wp2
            go_loopw [12] (fun i wr => ∃ j : Nat, i = .int .i64 ((j : Int) + 1) ∧ (j + 1 ≤ M ∨ j = 0) ∧ Hd (Below wA.heap.size wA wr))
              (fun i _ => M - (intOf i).toNat)
            case atStart => exact ⟨0, rfl, .inr rfl, ⟨Below.refl _ _⟩⟩
            case round =>
              obtain ⟨j, rfl, hj, hbz⟩ := hrel
              by_cases hlt : j + 1 < M
              · obtain ⟨p, hp⟩ : ∃ p, s.row[j]? = some p := ⟨s.row[j]'(by have := HM.out; omega), List.getElem?_eq_getElem _⟩
                obtain ⟨q, hq⟩ : ∃ q, s.row[j + 1]? = some q := ⟨s.row[j + 1]'(by have := HM.out; omega), List.getElem?_eq_getElem _⟩
                have hne := hrow.out.get2 hp hq
                obtain ⟨ad, rfl, p0, p1⟩ := RdP.get' (Rd.below hrd.out hbz.out) hp
                obtain ⟨ad', e, q0, q1⟩ := RdP.get' (Rd.below hrd.out hbz.out) hq
                injection e with e
                subst e
                obtain ⟨px, py⟩ := p
                obtain ⟨qx, qy⟩ := q
                simp only at p0 p1 q0 q1
                have hcase : ¬ qx = px ∨ (px = qx ∧ ¬ qy = py) := by
                  by_cases h1 : qx = px
                  · exact .inr ⟨h1.symm, fun h2 => hne (by rw [h1, h2])⟩
                  · exact .inl h1
                clear hne hp hq
                have hki : (j : Int) + 1 < (M : Int) := by omega
                have hki1 : (j : Int) < (M : Int) := by omega
                have hki0 : (0 : Int) ≤ (j : Int) + 1 := by omega
                have hki2 : (0 : Int) ≤ (j : Int) := by omega
                have htn : ((j : Int) + 1).toNat = j + 1 := by omega
                rcases hcase with h1 | ⟨rfl, h2⟩
                all_goals
                  go_wp2_with fail
                  go_quiet (fail)
                  go_wp2_with fail
                  go_roundw
                  case rel => exact ⟨j + 1, by go_num, .inl (by omega), ⟨below_drewN hbz.out _⟩⟩
                  case measure => simp [intOf]; omega
              · have hki : ¬ ((j : Int) + 1 < (M : Int)) := by omega
                go_wp2
                go_roundw
                case rel =>
                  have hE := Hd.mk (CA.out.trans (hbz.out.mono CA.out.size))
                  first
                    | exact ⟨1, by go_num, by omega, hE⟩
                    | exact ⟨2, by go_num, by omega, hE⟩
                case measure => simp [intOf]
          | true =>
            have hrw : Hd (s.row = (s.bh ++ [(t1, t2)]) ++ s.ah) := ⟨by unfold NS.row; rw [hhas.out]; have := htd.out; unfold NS.told at this; rw [hhas.out] at this; simp only [if_true] at this ⊢; rw [this]⟩
            go_wp2_with (at_builtin; refine wl_appP rfl (.tmp 55) (.tmp 57) rfl (m := 1) rfl rfl (Own.alloc ho7 _) (RdP.newAt _ [(t1, t2)] rfl rfl (by simp)) (by have := hsm.out; have := HLn.out; omega) (by have := C.out.size; simp at this ⊢; omega) ?_; rintro v W ⟨R1, rc1, rfl, ho, hg8, _⟩)
            have C8 := Hd.mk (below_appP (C.out.trans ((below_alloc _ (.cells #[.int .i64 t1, .int .i64 t2] 58)).mono C.out.size)) (by have := C.out.size; simp at this ⊢; omega) (Own.alloc ho7 _) hg8)
            clear C ho7 hg8 bx0 bx1
            have C := C8
            have hLn : Hd ((s.bh ++ [(t1, t2)]).length ≤ 100) := ⟨by have := hsm.out; simp; omega⟩
            clear C8
            generalize s.bh ++ [(t1, t2)] = L at *
            generalize rn + 1 = rn at *
            generalize R1 = R at *
            generalize rc1 = rc at *
            refine (ahead49 g _ s W (NX.out.below C.out) (by have := hsm.out; omega)).mono ?_
            rintro e w9 ⟨Q, qn, qc, rfl, oa, b9⟩
            have ho9 := Own.below ho b9
            have C9 := Hd.mk (C.out.trans (b9.mono C.out.size))
            have hQn := Hd.mk (OwnP.len oa)
            have hRn := Hd.mk (OwnP.len ho)
            have hmm : rn + qn ≤ 8796093022208 := by have := hsm.out; have := hQn.out; have := hRn.out; have := hLn.out; omega
            clear ho b9 C
            go_wp2_with (at_builtin; refine wl_appP rfl (.tmp 59) (.tmp 61) rfl rfl rfl ho9 (Own.rd oa) hmm C9.out.size ?_; rintro v wA ⟨R2, rc2, rfl, hoA, hgA, _⟩)
            have CA := Hd.mk (BX.out.trans ((below_appP C9.out C9.out.size ho9 hgA).mono BX.out.size))
            rw [← hrw.out] at hoA
            clear C9 ho9 oa hgA hrw hQn hRn hLn hsm htd hhas NX HLn
            obtain ⟨M, hM⟩ : ∃ M, rn + qn = M := ⟨_, rfl⟩
            rw [hM] at hoA hmm ⊢
            have HM := Hd.mk (OwnP.len hoA)
            have hrd := Hd.mk (Own.rd hoA)
            clear hoA
            go_wp2
            go_loopw [12] (fun i wr => ∃ j : Nat, i = .int .i64 ((j : Int) + 1) ∧ (j + 1 ≤ M ∨ j = 0) ∧ Hd (Below wA.heap.size wA wr))
              (fun i _ => M - (intOf i).toNat)
            case atStart => exact ⟨0, rfl, .inr rfl, ⟨Below.refl _ _⟩⟩
            case round =>
              obtain ⟨j, rfl, hj, hbz⟩ := hrel
              by_cases hlt : j + 1 < M
              · obtain ⟨p, hp⟩ : ∃ p, s.row[j]? = some p := ⟨s.row[j]'(by have := HM.out; omega), List.getElem?_eq_getElem _⟩
                obtain ⟨q, hq⟩ : ∃ q, s.row[j + 1]? = some q := ⟨s.row[j + 1]'(by have := HM.out; omega), List.getElem?_eq_getElem _⟩
                have hne := hrow.out.get2 hp hq
                obtain ⟨ad, rfl, p0, p1⟩ := RdP.get' (Rd.below hrd.out hbz.out) hp
                obtain ⟨ad', e, q0, q1⟩ := RdP.get' (Rd.below hrd.out hbz.out) hq
                injection e with e
                subst e
                obtain ⟨px, py⟩ := p
                obtain ⟨qx, qy⟩ := q
                simp only at p0 p1 q0 q1
                have hcase : ¬ qx = px ∨ (px = qx ∧ ¬ qy = py) := by
                  by_cases h1 : qx = px
                  · exact .inr ⟨h1.symm, fun h2 => hne (by rw [h1, h2])⟩
                  · exact .inl h1
                clear hne hp hq
                have hki : (j : Int) + 1 < (M : Int) := by omega
                have hki1 : (j : Int) < (M : Int) := by omega
                have hki0 : (0 : Int) ≤ (j : Int) + 1 := by omega
                have hki2 : (0 : Int) ≤ (j : Int) := by omega
                have htn : ((j : Int) + 1).toNat = j + 1 := by omega
                rcases hcase with h1 | ⟨rfl, h2⟩
                all_goals
                  go_wp2_with fail
                  go_quiet (fail)
                  go_wp2_with fail
                  go_roundw
                  case rel => exact ⟨j + 1, by go_num, .inl (by omega), ⟨below_drewN hbz.out _⟩⟩
                  case measure => simp [intOf]; omega
              · have hki : ¬ ((j : Int) + 1 < (M : Int)) := by omega
                go_wp2
                go_roundw
                case rel =>
                  have hE := Hd.mk (CA.out.trans (hbz.out.mono CA.out.size))
                  first
                    | exact ⟨1, by go_num, by omega, hE⟩
                    | exact ⟨2, by go_num, by omega, hE⟩
                case measure => simp [intOf]
        · go_wp2_with fail
          refine (run43 P m d _ wr (Rd.below hplain.out hb2.out) hm4).mono ?_
          rintro e w3 ⟨g0, F0, rfl, N0, hF0, b3⟩
          have hb3 := Hd.mk (hb2.out.trans (b3.mono hb2.out.size))
          clear N0 hF0 b3 hb2
          go_wp2_with fail
          refine (run43 A k c _ w3 (Rd.below (Rd.below h hb.out) hb3.out) hn).mono ?_
          rintro e w4 ⟨g, F, rfl, N4, hF4, b4⟩
          have hb4 := Hd.mk (hb3.out.trans (b4.mono hb3.out.size))
          have hI4 := Hd.mk (NInv.new.run (l.take 400))
          have hB4 : Hd (∀ k, F k → W0.heap.size ≤ k) := ⟨fun k e => Nat.le_trans hb3.out.size (hF4 k e)⟩
          clear b4 hF4 hb3
          go_wp2_with fail
          refine (drop50 g F _ t w4 N4 hI4.out).mono ?_
          rintro e w5 ⟨rfl, T5⟩
          have hrow := Hd.mk (row_drop hI4.out t)
          have hI := Hd.mk (hI4.out.drop t)
          have NX := Hd.mk T5.1
          have BX := Hd.mk (hb4.out.trans (T5.2.below (B := W0.heap.size) (fun k e => hB4.out k e) hb4.out.size))
          generalize (runN NS.new (l.take 400)).drop t = s at *
          clear N4 T5 hB4 hb4 hI4
          go_wp2_with fail
          refine (behind51 g _ s w5 NX.out (by have := hI.out.small; omega)).mono ?_
          rintro e w6 ⟨R, rn, rc, rfl, ho, b6⟩
          have C6 := Hd.mk b6
          have HLn := Hd.mk (OwnP.len ho)
          clear b6
          go_wp2_with fail
          refine (now47 g _ s w6 (NX.out.below C6.out)).mono ?_
          obtain ⟨⟨t1, t2⟩, htd⟩ : ∃ t, Hd (s.told = t) := ⟨_, ⟨rfl⟩⟩
          obtain ⟨hs', hhas⟩ : ∃ hs', Hd (s.has = hs') := ⟨_, ⟨rfl⟩⟩
          rw [htd.out, hhas.out]
          rintro e w7 ⟨rfl, b7⟩
          unfold plV
          have C7 := Hd.mk (C6.out.trans (b7.mono C6.out.size))
          have C := Hd.mk (C7.out.trans ((below_alloc w7 (.cells #[.int .i64 t1, .int .i64 t2] 58)).mono C7.out.size))
          have ho7 := Own.alloc (Own.below ho b7) (.cells #[.int .i64 t1, .int .i64 t2] 58)
          obtain ⟨bx0, bx1⟩ := box_load (heap_alloc_new w7 (.cells #[.int .i64 t1, .int .i64 t2] 58))
          have hsm := Hd.mk hI.out.small
          clear ho b7 C6 C7
          cases hs' with
          | false =>
            have hrw : Hd (s.row = s.bh ++ s.ah) := ⟨by unfold NS.row; rw [hhas.out]; simp⟩
            go_wp2_with fail
            clear bx0 bx1
            have hLn : Hd (s.bh.length ≤ 100) := ⟨by have := hsm.out; omega⟩
            generalize w7.alloc (.cells #[.int .i64 t1, .int .i64 t2] 58) = W at *
            generalize s.bh = L at *
            have ho := ho7
            clear ho7
            refine (ahead49 g _ s W (NX.out.below C.out) (by have := hsm.out; omega)).mono ?_
            rintro e w9 ⟨Q, qn, qc, rfl, oa, b9⟩
            have ho9 := Own.below ho b9
            have C9 := Hd.mk (C.out.trans (b9.mono C.out.size))
            have hQn := Hd.mk (OwnP.len oa)
            have hRn := Hd.mk (OwnP.len ho)
            have hmm : rn + qn ≤ 8796093022208 := by have := hsm.out; have := hQn.out; have := hRn.out; have := hLn.out; omega
            clear ho b9 C
            go_wp2_with (at_builtin; refine wl_appP rfl (.tmp 59) (.tmp 61) rfl rfl rfl ho9 (Own.rd oa) hmm C9.out.size ?_; rintro v wA ⟨R2, rc2, rfl, hoA, hgA, _⟩)
            have CA := Hd.mk (BX.out.trans ((below_appP C9.out C9.out.size ho9 hgA).mono BX.out.size))
            rw [← hrw.out] at hoA
            clear C9 ho9 oa hgA hrw hQn hRn hLn hsm htd hhas NX HLn
            obtain ⟨M, hM⟩ : ∃ M, rn + qn = M := ⟨_, rfl⟩
            rw [hM] at hoA hmm ⊢
            have HM := Hd.mk (OwnP.len hoA)
            have hrd := Hd.mk (Own.rd hoA)
            clear hoA
            go_wp2
            go_loopw [12] (fun i wr => ∃ j : Nat, i = .int .i64 ((j : Int) + 1) ∧ (j + 1 ≤ M ∨ j = 0) ∧ Hd (Below wA.heap.size wA wr))
              (fun i _ => M - (intOf i).toNat)
            case atStart => exact ⟨0, rfl, .inr rfl, ⟨Below.refl _ _⟩⟩
            case round =>
              obtain ⟨j, rfl, hj, hbz⟩ := hrel
              by_cases hlt : j + 1 < M
              · obtain ⟨p, hp⟩ : ∃ p, s.row[j]? = some p := ⟨s.row[j]'(by have := HM.out; omega), List.getElem?_eq_getElem _⟩
                obtain ⟨q, hq⟩ : ∃ q, s.row[j + 1]? = some q := ⟨s.row[j + 1]'(by have := HM.out; omega), List.getElem?_eq_getElem _⟩
                have hne := hrow.out.get2 hp hq
                obtain ⟨ad, rfl, p0, p1⟩ := RdP.get' (Rd.below hrd.out hbz.out) hp
                obtain ⟨ad', e, q0, q1⟩ := RdP.get' (Rd.below hrd.out hbz.out) hq
                injection e with e
                subst e
                obtain ⟨px, py⟩ := p
                obtain ⟨qx, qy⟩ := q
                simp only at p0 p1 q0 q1
                have hcase : ¬ qx = px ∨ (px = qx ∧ ¬ qy = py) := by
                  by_cases h1 : qx = px
                  · exact .inr ⟨h1.symm, fun h2 => hne (by rw [h1, h2])⟩
                  · exact .inl h1
                clear hne hp hq
                have hki : (j : Int) + 1 < (M : Int) := by omega
                have hki1 : (j : Int) < (M : Int) := by omega
                have hki0 : (0 : Int) ≤ (j : Int) + 1 := by omega
                have hki2 : (0 : Int) ≤ (j : Int) := by omega
                have htn : ((j : Int) + 1).toNat = j + 1 := by omega
                rcases hcase with h1 | ⟨rfl, h2⟩
                all_goals
                  go_wp2_with fail
                  go_quiet (fail)
                  go_wp2_with fail
                  go_roundw
                  case rel => exact ⟨j + 1, by go_num, .inl (by omega), ⟨below_drewN hbz.out _⟩⟩
                  case measure => simp [intOf]; omega
              · have hki : ¬ ((j : Int) + 1 < (M : Int)) := by omega
                go_wp2
                go_roundw
                case rel =>
                  have hE := Hd.mk (CA.out.trans (hbz.out.mono CA.out.size))
                  first
                    | exact ⟨1, by go_num, by omega, hE⟩
                    | exact ⟨2, by go_num, by omega, hE⟩
                case measure => simp [intOf]
          | true =>
            have hrw : Hd (s.row = (s.bh ++ [(t1, t2)]) ++ s.ah) := ⟨by unfold NS.row; rw [hhas.out]; have := htd.out; unfold NS.told at this; rw [hhas.out] at this; simp only [if_true] at this ⊢; rw [this]⟩
            go_wp2_with (at_builtin; refine wl_appP rfl (.tmp 55) (.tmp 57) rfl (m := 1) rfl rfl (Own.alloc ho7 _) (RdP.newAt _ [(t1, t2)] rfl rfl (by simp)) (by have := hsm.out; have := HLn.out; omega) (by have := C.out.size; simp at this ⊢; omega) ?_; rintro v W ⟨R1, rc1, rfl, ho, hg8, _⟩)
            have C8 := Hd.mk (below_appP (C.out.trans ((below_alloc _ (.cells #[.int .i64 t1, .int .i64 t2] 58)).mono C.out.size)) (by have := C.out.size; simp at this ⊢; omega) (Own.alloc ho7 _) hg8)
            clear C ho7 hg8 bx0 bx1
            have C := C8
            have hLn : Hd ((s.bh ++ [(t1, t2)]).length ≤ 100) := ⟨by have := hsm.out; simp; omega⟩
            clear C8
            generalize s.bh ++ [(t1, t2)] = L at *
            generalize rn + 1 = rn at *
            generalize R1 = R at *
            generalize rc1 = rc at *
            refine (ahead49 g _ s W (NX.out.below C.out) (by have := hsm.out; omega)).mono ?_
            rintro e w9 ⟨Q, qn, qc, rfl, oa, b9⟩
            have ho9 := Own.below ho b9
            have C9 := Hd.mk (C.out.trans (b9.mono C.out.size))
            have hQn := Hd.mk (OwnP.len oa)
            have hRn := Hd.mk (OwnP.len ho)
            have hmm : rn + qn ≤ 8796093022208 := by have := hsm.out; have := hQn.out; have := hRn.out; have := hLn.out; omega
            clear ho b9 C
            go_wp2_with (at_builtin; refine wl_appP rfl (.tmp 59) (.tmp 61) rfl rfl rfl ho9 (Own.rd oa) hmm C9.out.size ?_; rintro v wA ⟨R2, rc2, rfl, hoA, hgA, _⟩)
            have CA := Hd.mk (BX.out.trans ((below_appP C9.out C9.out.size ho9 hgA).mono BX.out.size))
            rw [← hrw.out] at hoA
            clear C9 ho9 oa hgA hrw hQn hRn hLn hsm htd hhas NX HLn
            obtain ⟨M, hM⟩ : ∃ M, rn + qn = M := ⟨_, rfl⟩
            rw [hM] at hoA hmm ⊢
            have HM := Hd.mk (OwnP.len hoA)
            have hrd := Hd.mk (Own.rd hoA)
            clear hoA
            go_wp2
            go_loopw [12] (fun i wr => ∃ j : Nat, i = .int .i64 ((j : Int) + 1) ∧ (j + 1 ≤ M ∨ j = 0) ∧ Hd (Below wA.heap.size wA wr))
              (fun i _ => M - (intOf i).toNat)
            case atStart => exact ⟨0, rfl, .inr rfl, ⟨Below.refl _ _⟩⟩
            case round =>
              obtain ⟨j, rfl, hj, hbz⟩ := hrel
              by_cases hlt : j + 1 < M
              · obtain ⟨p, hp⟩ : ∃ p, s.row[j]? = some p := ⟨s.row[j]'(by have := HM.out; omega), List.getElem?_eq_getElem _⟩
                obtain ⟨q, hq⟩ : ∃ q, s.row[j + 1]? = some q := ⟨s.row[j + 1]'(by have := HM.out; omega), List.getElem?_eq_getElem _⟩
                have hne := hrow.out.get2 hp hq
                obtain ⟨ad, rfl, p0, p1⟩ := RdP.get' (Rd.below hrd.out hbz.out) hp
                obtain ⟨ad', e, q0, q1⟩ := RdP.get' (Rd.below hrd.out hbz.out) hq
                injection e with e
                subst e
                obtain ⟨px, py⟩ := p
                obtain ⟨qx, qy⟩ := q
                simp only at p0 p1 q0 q1
                have hcase : ¬ qx = px ∨ (px = qx ∧ ¬ qy = py) := by
                  by_cases h1 : qx = px
                  · exact .inr ⟨h1.symm, fun h2 => hne (by rw [h1, h2])⟩
                  · exact .inl h1
                clear hne hp hq
                have hki : (j : Int) + 1 < (M : Int) := by omega
                have hki1 : (j : Int) < (M : Int) := by omega
                have hki0 : (0 : Int) ≤ (j : Int) + 1 := by omega
                have hki2 : (0 : Int) ≤ (j : Int) := by omega
                have htn : ((j : Int) + 1).toNat = j + 1 := by omega
                rcases hcase with h1 | ⟨rfl, h2⟩
                all_goals
                  go_wp2_with fail
                  go_quiet (fail)
                  go_wp2_with fail
                  go_roundw
                  case rel => exact ⟨j + 1, by go_num, .inl (by omega), ⟨below_drewN hbz.out _⟩⟩
                  case measure => simp [intOf]; omega
              · have hki : ¬ ((j : Int) + 1 < (M : Int)) := by omega
                go_wp2
                go_roundw
                case rel =>
                  have hE := Hd.mk (CA.out.trans (hbz.out.mono CA.out.size))
                  first
                    | exact ⟨1, by go_num, by omega, hE⟩
                    | exact ⟨2, by go_num, by omega, hE⟩
                case measure => simp [intOf]
        · go_wp2_with fail
          go_ret
          exact ⟨rfl, hb.out.trans (hb2.out.mono hsz.out)⟩
end Go.Proofs.Ytkgdcglnkodgnaa
