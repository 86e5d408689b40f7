/-
  The cursor's Bytes (octet) and the twin's End.
-/
import Derived.Test.YtkgdcglnkodgnaaUint
namespace Go.Proofs.Ytkgdcglnkodgnaa
open Go.RowKit
set_option maxRecDepth 100000 in
set_option maxHeartbeats 400000 in
theorem bytes153 (g : Nat) (s : CS) (lim : Nat) (w : World) (h : Cur 200 w g s) (hl : lim ≤ 1099511627776) :
    Calls Try.prog 153 #[.pointer (some ⟨g, 0, none⟩), .int .i64 (lim : Int)] w (RetC8 200 w g (bytesC s lim)) := by
  obtain ⟨hat, hnb⟩ := h.len
  obtain ⟨v, s', hu⟩ : ∃ v s', Hd (uintC s = (v, s')) := ⟨_, _, ⟨rfl⟩⟩
  have hv : (v : Int) ≤ 18446744073709551615 := by have := uintC_lt s; rw [hu.out] at this; simp only at this; omega
  have HI : Hd (bytesC s lim = if s'.err ≠ 0 then ([], s') else if lim < v then ([], { s with err := 2 }) else if (s.l.length - s'.at') < v then ([], { s with err := 30 }) else takeC s' (v : Int)) := ⟨by unfold bytesC; rw [hu.out]⟩
  have hlo : ¬ ((lim : Int) < 0) := by omega
  have hsl : Hd (s'.at' ≤ s.l.length ∧ s'.l = s.l) := ⟨by have h2 := uintC_at s hat; rw [hu.out] at h2; exact h2⟩
  by_cases he : s'.err = 0
  · have hd : decide (s'.err = 0) = true := by simpa using he
    have HS : ∀ x, Hd ((({ s' with at' := s.at' } : CS).fail x) = { s with err := x }) := fun x => ⟨by
      have e1 : ({ s' with at' := s.at' } : CS).fail x = { ({ s' with at' := s.at' } : CS) with err := x } := if_pos he
      rw [e1]
      simp only
      rw [hsl.out.2]⟩
    have hat' : Hd (s.at' ≤ s'.l.length) := ⟨by rw [hsl.out.2]; exact hat⟩
    by_cases hv2 : lim < v
    · have hv3 : (lim : Int) < (v : Int) := by omega
      have HS2 := HS 2
      rw [HI.out, if_neg (by simp [he]), if_pos hv2]
      clear he hv2 HS
      go_enter Try.func153, Try.ntmps153
      go_wp2_with (first
        | (go_at_call 171; refine (at171 g s w h).mono ?_; rintro e w' ⟨rfl, rfl⟩)
        | (go_at_call 154; refine (uint154 g s w h).mono ?_; rw [hu.out]; rintro e w1 ⟨rfl, hc1, hg1⟩)
        | (go_at_call 140; refine (fine140 g s' w1 hc1).mono ?_; rw [hd]; rintro e w' ⟨rfl, rfl⟩)
        | (go_at_call 172; refine (back172 g s' s.at' 2 w1 hc1 hat'.out).mono ?_; rw [HS2.out]; rintro e w2 ⟨rfl, hc2, hg2⟩))
      go_ret
      exact ⟨_, _, _, rfl, Own8.nil_ _ _ _, hc2, grown_trans hg1 hg2⟩
    · have hv3 : ¬ (lim : Int) < (v : Int) := by omega
      have hv5 : (v : Int) ≤ 1099511627776 := by omega
      by_cases hv6 : (s.l.length - s'.at') < v
      · have HS3 := HS 30
        have hv7 : ((s'.l.length - s'.at' : Nat) : Int) < (v : Int) := by rw [hsl.out.2]; omega
        have hv8 : ((s'.l.length - s'.at' : Nat) : Int) ≤ 1099511627776 := by omega
        rw [HI.out, if_neg (by simp [he]), if_neg hv2, if_pos hv6]
        clear he hv2 hv6 HS
        go_enter Try.func153, Try.ntmps153
        go_wp2_with (first
          | (go_at_call 171; refine (at171 g s w h).mono ?_; rintro e w' ⟨rfl, rfl⟩)
          | (go_at_call 154; refine (uint154 g s w h).mono ?_; rw [hu.out]; rintro e w1 ⟨rfl, hc1, hg1⟩)
          | (go_at_call 140; refine (fine140 g s' w1 hc1).mono ?_; rw [hd]; rintro e w' ⟨rfl, rfl⟩)
          | (go_at_call 142; refine (left142 g s' w1 hc1).mono ?_; rintro e w' ⟨rfl, kk, rfl⟩)
          | (go_at_call 172; refine (back172 g s' s.at' 30 (w1.drewN kk) hc1 hat'.out).mono ?_; rw [HS3.out]; rintro e w2 ⟨rfl, hc2, hg2⟩))
        go_ret
        exact ⟨_, _, _, rfl, Own8.nil_ _ _ _, hc2, grown_trans hg1 (grown_drewN hg2)⟩
      · have hv7 : ¬ ((s'.l.length - s'.at' : Nat) : Int) < (v : Int) := by rw [hsl.out.2]; omega
        have hv8 : ((s'.l.length - s'.at' : Nat) : Int) ≤ 140737488355328 := by rw [hsl.out.2]; omega
        rw [HI.out, if_neg (by simp [he]), if_neg hv2, if_neg hv6]
        clear he hv2 hv6 HS
        go_enter Try.func153, Try.ntmps153
        go_wp2_with (first
          | (go_at_call 171; refine (at171 g s w h).mono ?_; rintro e w' ⟨rfl, rfl⟩)
          | (go_at_call 154; refine (uint154 g s w h).mono ?_; rw [hu.out]; rintro e w1 ⟨rfl, hc1, hg1⟩)
          | (go_at_call 140; refine (fine140 g s' w1 hc1).mono ?_; rw [hd]; rintro e w' ⟨rfl, rfl⟩)
          | (go_at_call 142; refine (left142 g s' w1 hc1).mono ?_; rintro e w' ⟨rfl, kk, rfl⟩)
          | (go_at_call 91; refine (take91 g s' (v : Int) (w1.drewN kk) hc1 (by omega) (by omega)).mono ?_; rintro e w2 ⟨A, n, c, rfl, ho, hc2, hg2⟩))
        go_ret
        exact ⟨A, n, c, rfl, Own8.mono ho (by obtain ⟨_, _, _, h, _⟩ := hg1; exact h), hc2, grown_trans hg1 (grown_drewN hg2)⟩
  · have hd : decide (s'.err = 0) = false := by simpa using he
    rw [HI.out, if_pos he]
    clear he
    go_enter Try.func153, Try.ntmps153
    go_wp2_with (first
      | (go_at_call 171; refine (at171 g s w h).mono ?_; rintro e w' ⟨rfl, rfl⟩)
      | (go_at_call 154; refine (uint154 g s w h).mono ?_; rw [hu.out]; rintro e w1 ⟨rfl, hc1, hg1⟩)
      | (go_at_call 140; refine (fine140 g s' w1 hc1).mono ?_; rw [hd]; rintro e w' ⟨rfl, rfl⟩))
    go_ret
    exact ⟨_, _, _, rfl, Own8.nil_ _ _ _, hc1, hg1⟩
set_option maxRecDepth 100000 in
set_option maxHeartbeats 400000 in
theorem rend118 (g : Nat) (s : CS) (w : World) (h : Cur 170 w g s) :
    Calls Try.prog 118 #[.pointer (some ⟨g, 0, none⟩)] w fun e w' => e = .returned (.int .i64 (endC s : Int)) ∧ ∃ k, w' = w.drewN k := by
  obtain ⟨B, n, c, h0, h1, h2, f0, f1, f2, hr, hnc, hat, hn⟩ := h.cells
  by_cases he : s.err = 0
  · have he0 : ((s.err : Int) == 0) = true := by rw [beq_iff_eq]; omega
    have hez : Hd ((s.err : Int) = 0) := ⟨by omega⟩
    by_cases hl : s.at' < s.l.length
    · have HE : Hd (endC s = 31) := ⟨by unfold endC; rw [if_neg (by simp [he]), if_pos hl]⟩
      have hl' : (0 : Int) < ((s.l.length - s.at' : Nat) : Int) := by omega
      rw [HE.out]
      have HH := Hd.mk h
      clear he hl h
      go_enter Try.func118, Try.ntmps118
      go_wp2_with (go_at_call 157; refine (rleft157 g s w HH.out).mono ?_; rintro e w' ⟨rfl, kk, rfl⟩)
      go_ret
      exact ⟨rfl, _, rfl⟩
    · have HE : Hd (endC s = s.err) := ⟨by unfold endC; rw [if_neg (by simp [he]), if_neg hl, he]⟩
      have hl' : ¬ (0 : Int) < ((s.l.length - s.at' : Nat) : Int) := by omega
      rw [HE.out]
      have HH := Hd.mk h
      clear he hl h
      go_enter Try.func118, Try.ntmps118
      go_wp2_with (go_at_call 157; refine (rleft157 g s w HH.out).mono ?_; rintro e w' ⟨rfl, kk, rfl⟩)
      go_ret
      exact ⟨rfl, _, rfl⟩
  · have he0 : ((s.err : Int) == 0) = false := by rw [beq_eq_false_iff_ne]; omega
    have HE : Hd (endC s = s.err) := ⟨if_pos he⟩
    rw [HE.out]
    have HH := Hd.mk h
    clear he h
    go_enter Try.func118, Try.ntmps118
    go_wp2_with (go_at_call 157; refine (rleft157 g s w HH.out).mono ?_; rintro e w' ⟨rfl, kk, rfl⟩)
    go_ret
    exact ⟨rfl, 0, rfl⟩
end Go.Proofs.Ytkgdcglnkodgnaa
