/-
  The cursor of the reference (folioref03): what its calls do. No condition but sizes.
-/
import Derived.Test.YtkgdcglnkodgnaaCur
namespace Go.Proofs.Ytkgdcglnkodgnaa
open Go.RowKit
theorem Rd8.lt {w : World} {A : Option Addr} {n : Nat} {l : List UInt8} (h : Rd8 w A n l) (hn : 0 < n) : ∀ ad, A = some ad → ad.block < w.heap.size := by
  intro ad e
  obtain ⟨ad', x, e', _, hc⟩ := h.at_ hn
  rw [e] at e'
  injection e' with e'
  subst e'
  have := cell_lt hc
  rwa [block_add] at this
theorem Rd8.drewN {w : World} {A : Option Addr} {n : Nat} {l : List UInt8} (h : Rd8 w A n l) (k : Nat) : Rd8 (w.drewN k) A n l := h
set_option maxRecDepth 100000 in
set_option maxHeartbeats 400000 in
theorem rleft157 (g : Nat) (s : CS) (w : World) (h : Cur 170 w g s) :
    Calls Try.prog 157 #[.pointer (some ⟨g, 0, none⟩)] w fun e w' => e = .returned (.int .i64 ((s.l.length - s.at' : Nat) : Int)) ∧ ∃ k, w' = w.drewN k := by
  obtain ⟨B, n, c, h0, h1, h2, f0, f1, f2, hr, hnc, hat, hn⟩ := h.cells
  have HL := Hd.mk hr.len
  go_enter Try.func157, Try.ntmps157
  go_wp2_with fail
  go_quiet (fail)
  go_wp2
  go_ret
  refine ⟨?_, _, rfl⟩
  have e : ((s.l.length - s.at' : Nat) : Int) = (n : Int) - (s.at' : Int) := by have := HL.out; omega
  rw [e]
  rfl
set_option maxRecDepth 100000 in
set_option maxHeartbeats 400000 in
theorem rstop156 (g : Nat) (s : CS) (x : Nat) (w : World) (h : Cur 170 w g s) :
    Calls Try.prog 156 #[.pointer (some ⟨g, 0, none⟩), .int .i64 (x : Int)] w fun e w' => e = .returned (.tuple #[]) ∧ Cur 170 w' g (s.fail x) ∧ w.grownBy w' (some g) := by
  obtain ⟨B, n, c, h0, h1, h2, f0, f1, f2, hr, hnc, hat, hn⟩ := h.cells
  by_cases he : s.err = 0
  · have hb : ((s.err : Int) == 0) = true := by rw [beq_iff_eq]; omega
    have e1 : s.fail x = { s with err := x } := if_pos he
    rw [e1]
    have HC := Hd.mk (h.setErr (x := x))
    clear he e1
    go_enter Try.func156, Try.ntmps156
    go_wp2
    go_end0
    exact ⟨rfl, HC.out, grown_cell _⟩
  · have hb : ((s.err : Int) == 0) = false := by rw [beq_eq_false_iff_ne]; omega
    have e1 : s.fail x = s := if_neg he
    rw [e1]
    clear he e1
    go_enter Try.func156, Try.ntmps156
    go_wp2
    go_end0
    exact ⟨rfl, h, World.grownBy.refl _ _⟩
set_option maxRecDepth 100000 in
set_option maxHeartbeats 4000000 in
theorem rtake116 (g : Nat) (s : CS) (m : Int) (w : World) (h : Cur 170 w g s) (hm1 : -9223372036854775808 ≤ m) (hm2 : m ≤ 9223372036854775807) :
    Calls Try.prog 116 #[.pointer (some ⟨g, 0, none⟩), .int .i64 m] w (RetC8 170 w g (takeC s m)) := by
  obtain ⟨B, n, c, h0, h1, h2, f0, f1, f2, hr, hnc, hat, hn⟩ := h.cells
  have HL := Hd.mk hr.len
  by_cases he : s.err = 0
  · have hd : ((s.err : Int) != 0) = false := by simp; omega
    by_cases hm0 : m < 0
    · have e1 : takeC s m = ([], { s with err := 1 }) := by unfold takeC; rw [if_neg (by simp [he]), if_pos hm0]
      have e2 : s.fail 1 = { s with err := 1 } := if_pos he
      rw [e1, ← e2]
      clear e1 e2 he
      go_enter Try.func116, Try.ntmps116
      go_wp2_with (go_at_call 156; refine (rstop156 g s 1 w h).mono ?_; rintro e w1 ⟨rfl, hc1, hg1⟩)
      go_ret
      exact ⟨_, _, _, rfl, Own8.nil_ _ _ _, hc1, hg1⟩
    · have hm3 : 0 ≤ m := by omega
      by_cases hm4 : ((s.l.length - s.at' : Nat) : Int) < m
      · have e1 : takeC s m = ([], { s with err := 30 }) := by unfold takeC; rw [if_neg (by simp [he]), if_neg hm0, if_pos hm4]
        have e2 : s.fail 30 = { s with err := 30 } := if_pos he
        rw [e1, ← e2]
        clear e1 e2 he hm0
        go_enter Try.func116, Try.ntmps116
        go_wp2_with (first
          | (go_at_call 157; refine (rleft157 g s w h).mono ?_; rintro e w' ⟨rfl, kk, rfl⟩)
          | (go_at_call 156; refine (rstop156 g s 30 (w.drewN kk) h).mono ?_; rintro e w1 ⟨rfl, hc1, hg1⟩))
        go_ret
        exact ⟨_, _, _, rfl, Own8.nil_ _ _ _, hc1, grown_drewN hg1⟩
      · obtain ⟨q, rfl⟩ := Int.eq_ofNat_of_zero_le hm3
        have e1 : takeC s (q : Int) = ((s.l.drop s.at').take q, { s with at' := s.at' + q }) := by unfold takeC; rw [if_neg (by simp [he]), if_neg hm0, if_neg hm4]; rfl
        rw [e1]
        clear e1 he hm0
        have hq : s.at' + q ≤ n := by have := HL.out; omega
        have hat' : ((s.at' : Nat) : Int) ≤ (n : Int) := by omega
        have hcut0 := hr.cut (a := s.at') (b := s.at' + q) (m := c) (by omega) hq (by omega)
        have hcut : Rd8 w (if c = s.at' then B else B.map (·.add s.at')) q ((s.l.drop s.at').take q) := by
          have e : s.at' + q - s.at' = q := by omega
          rw [e] at hcut0
          simpa using hcut0
        clear hcut0
        go_enter Try.func116, Try.ntmps116
        go_wp2_with (go_at_call 157; refine (rleft157 g s w h).mono ?_; rintro e w' ⟨rfl, kk, rfl⟩)
        have hle0 : (0 : Int) ≤ (s.at' : Int) + (q : Int) := by omega
        have hle1 : (s.at' : Int) + (q : Int) ≤ (c : Int) := by omega
        have hle3 : s.at' ≤ s.at' + q := by omega
        have hlt := h.lt
        have hton : ((s.at' : Int) + (q : Int)).toNat = s.at' + q := by omega
        have hsum : IntKind.i64.wrap ((s.at' : Int) + (q : Int)) = (s.at' : Int) + (q : Int) := IntWalk.i64_in _ (by omega)
        go_region_law ((refine st_app8 (by rfl) (.const (.slice none 0 0)) (.tmp 38) (by rfl) (by rfl) (by rfl) (Own8.nil_ _ w.heap.size none) (hcut.drewN _) (by omega) (Nat.le_refl _) ?_; rintro v w2 ⟨A2, c2, rfl, ho2, hg2, _⟩))
        all_goals
          have hb2 : Below w.heap.size w w2 := below_drewN' (k := kk + 1) (below_app (Below.refl _ _) (Nat.le_refl _) (Own8.nil_ _ w.heap.size none) hg2)
          have h1'' : w2.cell? ⟨g, 1, none⟩ = some (.int .i64 (s.at' : Int)) := (hb2.cell (p := ⟨g, 1, none⟩) hlt).trans h1
          have f1'' : w2.frozen? ⟨g, 1, none⟩ = false := (hb2.frozen (p := ⟨g, 1, none⟩) hlt).trans f1
          have HC := Hd.mk ((h.below hb2).setAt (x := s.at' + q) (by rw [HL.out]; exact hq))
          have HO := Hd.mk (ho2.setFar (i := 1) hlt (.int .i64 ((s.at' + q : Nat) : Int)))
          clear h0 h1 h2 f0 f1 f2 ho2
          go_wp2
          all_goals
            have e' : (s.at' : Int) + (q : Int) = ((s.at' + q : Nat) : Int) := by omega
            have HO' := HO.out
            rw [List.nil_append, Nat.zero_add] at HO'
            go_ret
            refine ⟨_, _, _, rfl, ?_, ?_, ?_⟩
            · rw [e']; exact HO'
            · rw [e']; exact HC.out
            · exact grown_trans (grown_of_below hb2 _) (grown_cell _)
  · have hd : ((s.err : Int) != 0) = true := by simp; omega
    have e1 : takeC s m = ([], s) := if_pos he
    rw [e1]
    clear e1 he
    go_enter Try.func116, Try.ntmps116
    go_wp2
    go_ret
    exact ⟨_, _, _, rfl, Own8.nil_ _ _ _, h, World.grownBy.refl _ _⟩
theorem leN_drop (l : List UInt8) (k : Nat) (x : UInt8) (h : l[k]? = some x) : leN (l.drop k) = 256 * leN (l.drop (k + 1)) + x.toNat := by
  obtain ⟨hk, rfl⟩ := List.getElem?_eq_some_iff.1 h
  rw [List.drop_eq_getElem_cons hk, leN]
  omega
set_option maxRecDepth 100000 in
set_option maxHeartbeats 1000000 in
theorem rfixed143 (g : Nat) (s : CS) (m : Nat) (w : World) (h : Cur 170 w g s) (hm : m ≤ 4) :
    Calls Try.prog 143 #[.pointer (some ⟨g, 0, none⟩), .int .i64 m] w fun e w' => e = .returned (.int .u64 (leN (takeC s m).1 : Nat)) ∧ Cur 170 w' g (takeC s m).2 ∧ w.grownBy w' (some g) := by
  have hlen := takeC_len s m
  go_enter Try.func143, Try.ntmps143
  go_wp2_with (go_at_call 116; refine (rtake116 g s m w h (by omega) (by omega)).mono ?_; rintro e w1 ⟨A, n, c, rfl, ho, hc, hg⟩; have hn4 : n ≤ 4 := (by have := ho.len; omega))
  have HL := Hd.mk ho.len
  go_loop [6, 7] (fun r i => ∃ k : Nat, k ≤ n ∧ i = .int .i64 ((k : Int) - 1) ∧ r = .int .u64 (leN ((takeC s m).1.drop k) : Nat)) (fun _ i => (intOf i + 1).toNat)
  case atStart => exact ⟨n, Nat.le_refl _, rfl, by rw [List.drop_of_length_le (by rw [HL.out]; omega)]; rfl⟩
  case round =>
    obtain ⟨k, hk, rfl, rfl⟩ := hrel
    by_cases hlt : 0 < k
    · obtain ⟨k, rfl⟩ : ∃ j, k = j + 1 := ⟨k - 1, by omega⟩
      obtain ⟨ad, x, rfl, hx, hcell⟩ := ho.rd.at_ (k := k) (by omega)
      have hb := byte_lt x
      have hb' : (x.toNat : Int) < 256 := by omega
      have HST := Hd.mk (leN_drop _ k x hx)
      have hi : ((k + 1 : Nat) : Int) - 1 = (k : Int) := by omega
      rw [hi]
      have hbd : ((leN ((takeC s m).1.drop (k + 1)) : Nat) : Int) < 16777216 := by
        have h1 := leN_lt ((takeC s m).1.drop (k + 1))
        have h2 : (256 : Nat) ^ ((takeC s m).1.drop (k + 1)).length ≤ 256 ^ 3 := Nat.pow_le_pow_right (by omega) (by rw [List.length_drop]; omega)
        omega
      clear hi
      go_wp2
      go_round
      case rel => exact ⟨k, by omega, rfl, by rw [HST.out]; go_num⟩
      case measure => simp [intOf]
    · obtain rfl : k = 0 := by omega
      go_wp2
      go_ret
      exact ⟨rfl, hc, hg⟩
set_option maxRecDepth 100000 in
set_option maxHeartbeats 400000 in
theorem low92 (A : Option Addr) (n c : Nat) (l : List UInt8) (w : World) (h : Rd8 w A n l) (hn : n ≤ 4) (hnc : n ≤ c) :
    Calls Try.prog 92 #[.slice A n c] w fun e w' => e = .returned (.int .u64 (leN l : Nat)) ∧ Below w.heap.size w w' := by
  have HL := Hd.mk h.len
  have hc0 : Cur 170 (w.alloc (.cells #[.slice A n c, .int .i64 0, .int .i64 0] 170)) w.heap.size ⟨l, 0, 0⟩ :=
    ⟨A, n, c, heap_alloc_new w _, h.alloc _, hnc, Nat.zero_le _, by omega, fun hn0 => Rd8.lt h hn0⟩
  have HT := Hd.mk (show (takeC ⟨l, 0, 0⟩ (n : Int)).1 = l by
    unfold takeC
    rw [if_neg (by simp), if_neg (by omega), if_neg (by simp [HL.out])]
    simp [List.take_of_length_le, HL.out])
  go_enter Try.func92, Try.ntmps92
  go_wp2_with (go_at_call 143; refine (rfixed143 w.heap.size _ n _ hc0 hn).mono ?_; rw [HT.out]; rintro e w1 ⟨rfl, hc, hg⟩)
  go_ret
  exact ⟨rfl, (((Below.refl _ _).alloc (Nat.le_refl _) _)).grown hg (by simp) (by intro k hk; injection hk with hk; omega)⟩
end Go.Proofs.Ytkgdcglnkodgnaa
