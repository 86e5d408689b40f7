/-
  The cursor's Uint, Index, Bytes (ref).
-/
import Derived.Test.YtkgdcglnkodgnaaRnum
namespace Go.Proofs.Ytkgdcglnkodgnaa
open Go.RowKit
set_option maxRecDepth 100000 in
set_option maxHeartbeats 400000 in
theorem ruint164 (g : Nat) (s : CS) (w : World) (h : Cur 170 w g s) :
    Calls Try.prog 164 #[.pointer (some ⟨g, 0, none⟩)] w fun e w' => e = .returned (.int .u64 ((uintC s).1 : Int)) ∧ Cur 170 w' g (uintC s).2 ∧ w.grownBy w' (some g) := by
  obtain ⟨hlen, hnb⟩ := h.len
  obtain ⟨B, n, c, h0, h1, h2, f0, f1, f2, hr, hnc, hat, hn⟩ := h.cells
  by_cases he : s.err = 0
  · have hd : ((s.err : Int) != 0) = false := by simp; omega
    obtain ⟨v, k, ne, hnum⟩ : ∃ v k e, Hd (numU 0 0 (s.l.drop s.at') = (v, k, e)) := ⟨_, _, _, ⟨rfl⟩⟩
    have HU : Hd (uintC s = if ne ≠ 0 then (0, { s with err := ne }) else (v, { s with at' := s.at' + k })) := ⟨by unfold uintC; rw [hnum.out, if_neg (by simp [he])]⟩
    by_cases hne : ne = 0
    · subst hne
      rw [HU.out, if_neg (by simp)]
      have hkl : k ≤ 0 + (s.l.drop s.at').length := by obtain ⟨_, _, _, _, _, h, _⟩ := numU_ok _ 0 0 v k hnum.out; exact h
      rw [List.length_drop] at hkl
      have hk : s.at' + k ≤ s.l.length := by omega
      have HC : ∀ j, Hd (Cur 170 ((w.drewN j).setCell ⟨g, 1, none⟩ (.int .i64 ((s.at' + k : Nat) : Int))) g { s with at' := s.at' + k }) := fun j => ⟨Cur.setAt (w := w.drewN j) h hk⟩
      have hki : (s.at' : Int) + (k : Int) ≤ 140737488355328 := by omega
      have HH := Hd.mk h
      clear hkl he h hk
      go_enter Try.func164, Try.ntmps164
      go_wp2_with (go_at_call 174; refine (rread174 g s w HH.out).mono ?_; rw [hnum.out]; rintro e w' ⟨rfl, j, rfl⟩)
      go_ret
      refine ⟨rfl, ?_, ?_⟩
      · have := (HC j).out
        rw [Int.natCast_add] at this
        exact this
      · exact grown_drewN (grown_cell (w := w.drewN j) _)
    · have he0 : ((ne : Int) != 0) = true := by simp; omega
      rw [HU.out, if_pos hne]
      have HF : Hd (s.fail ne = { s with err := ne }) := ⟨if_pos he⟩
      have HH := Hd.mk h
      clear he hne h
      go_enter Try.func164, Try.ntmps164
      go_wp2_with (first
        | (go_at_call 174; refine (rread174 g s w HH.out).mono ?_; rw [hnum.out]; rintro e w' ⟨rfl, j, rfl⟩)
        | (go_at_call 156; refine (rstop156 g s ne (w.drewN j) HH.out).mono ?_; rw [HF.out]; rintro e w1 ⟨rfl, hc1, hg1⟩))
      go_ret
      exact ⟨rfl, hc1, grown_drewN hg1⟩
  · have hd : ((s.err : Int) != 0) = true := by simp; omega
    have HU : Hd (uintC s = (0, s)) := ⟨if_pos he⟩
    rw [HU.out]
    have HH := Hd.mk h
    clear he h
    go_enter Try.func164, Try.ntmps164
    go_wp2
    go_ret
    exact ⟨rfl, HH.out, World.grownBy.refl _ _⟩
set_option maxRecDepth 100000 in
set_option maxHeartbeats 400000 in
theorem rindex158 (g : Nat) (s : CS) (lim : Nat) (w : World) (h : Cur 170 w g s) (hl0 : 1 ≤ lim) (hl : lim ≤ 4096) :
    Calls Try.prog 158 #[.pointer (some ⟨g, 0, none⟩), .int .i64 (lim : Int)] w fun e w' => e = .returned (.int .i64 ((indexC s lim).1 : Int)) ∧ Cur 170 w' g (indexC s lim).2 ∧ w.grownBy w' (some g) := by
  obtain ⟨hat, hnb⟩ := h.len
  obtain ⟨v, s', hu⟩ : ∃ v s', Hd (uintC s = (v, s')) := ⟨_, _, ⟨rfl⟩⟩
  have hv : (v : Int) ≤ 18446744073709551615 := by have := uintC_lt s; rw [hu.out] at this; simp only at this; omega
  have HI : Hd (indexC s lim = if s'.err ≠ 0 then (0, s') else if lim ≤ v then (0, { s with err := 1 }) else (v, s')) := ⟨by unfold indexC; rw [hu.out]⟩
  have hlo : ¬ ((lim : Int) ≤ 0) := by omega
  have hsl : Hd (s'.at' ≤ s.l.length ∧ s'.l = s.l) := ⟨by have h2 := uintC_at s hat; rw [hu.out] at h2; exact h2⟩
  have HA : Hd (s.at' ≤ s'.l.length) := ⟨by rw [hsl.out.2]; exact hat⟩
  obtain ⟨B, n, c, h0, h1, h2, f0, f1, f2, hr, hnc, hat2, hn⟩ := h.cells
  have HH := Hd.mk h
  by_cases he : s'.err = 0
  · have hd : ((s'.err : Int) != 0) = false := by simp; omega
    by_cases hv2 : lim ≤ v
    · have hv3 : (lim : Int) ≤ (v : Int) := by omega
      have HS : Hd ((({ s' with at' := s.at' } : CS).fail 1) = { s with err := 1 }) := ⟨by
        have e1 : ({ s' with at' := s.at' } : CS).fail 1 = { ({ s' with at' := s.at' } : CS) with err := 1 } := if_pos he
        rw [e1]
        simp only
        rw [hsl.out.2]⟩
      rw [HI.out, if_neg (by simp [he]), if_pos hv2]
      clear he hv2 h
      go_enter Try.func158, Try.ntmps158
      go_wp2_with (first
        | (go_at_call 164; refine (ruint164 g s w HH.out).mono ?_; rw [hu.out]; rintro e w1 ⟨rfl, hc1, hg1⟩; obtain ⟨B', n', c', k0, k1, k2, q0, q1, q2, kr, knc, kat, kn⟩ := hc1.cells; have HD := Hd.mk hc1; clear hc1)
        | (go_at_call 156; refine (rstop156 g { s' with at' := s.at' } 1 _ (Cur.setAt HD.out HA.out)).mono ?_; rw [HS.out]; rintro e w2 ⟨rfl, hc2, hg2⟩))
      go_ret
      exact ⟨rfl, hc2, grown_trans hg1 (grown_trans (grown_cell _) hg2)⟩
    · have hv3 : ¬ (lim : Int) ≤ (v : Int) := by omega
      have hv4 : (v : Int) < 4096 := by omega
      rw [HI.out, if_neg (by simp [he]), if_neg hv2]
      clear he hv2 h
      go_enter Try.func158, Try.ntmps158
      go_wp2_with (go_at_call 164; refine (ruint164 g s w HH.out).mono ?_; rw [hu.out]; rintro e w1 ⟨rfl, hc1, hg1⟩; obtain ⟨B', n', c', k0, k1, k2, q0, q1, q2, kr, knc, kat, kn⟩ := hc1.cells; have HD := Hd.mk hc1; clear hc1)
      go_ret
      exact ⟨rfl, HD.out, hg1⟩
  · have hd : ((s'.err : Int) != 0) = true := by simp; omega
    rw [HI.out, if_pos he]
    clear he h
    go_enter Try.func158, Try.ntmps158
    go_wp2_with (go_at_call 164; refine (ruint164 g s w HH.out).mono ?_; rw [hu.out]; rintro e w1 ⟨rfl, hc1, hg1⟩; obtain ⟨B', n', c', k0, k1, k2, q0, q1, q2, kr, knc, kat, kn⟩ := hc1.cells; have HD := Hd.mk hc1; clear hc1)
    go_ret
    exact ⟨rfl, HD.out, hg1⟩
set_option maxRecDepth 100000 in
set_option maxHeartbeats 400000 in
theorem rbytes163 (g : Nat) (s : CS) (lim : Nat) (w : World) (h : Cur 170 w g s) (hl : lim ≤ 1099511627776) :
    Calls Try.prog 163 #[.pointer (some ⟨g, 0, none⟩), .int .i64 (lim : Int)] w (RetC8 170 w g (bytesC s lim)) := by
  obtain ⟨hat, hnb⟩ := h.len
  obtain ⟨v, s', hu⟩ : ∃ v s', Hd (uintC s = (v, s')) := ⟨_, _, ⟨rfl⟩⟩
  have hv : (v : Int) ≤ 18446744073709551615 := by have := uintC_lt s; rw [hu.out] at this; simp only at this; omega
  have HI : Hd (bytesC s lim = if s'.err ≠ 0 then ([], s') else if lim < v then ([], { s with err := 2 }) else if (s.l.length - s'.at') < v then ([], { s with err := 30 }) else takeC s' (v : Int)) := ⟨by unfold bytesC; rw [hu.out]⟩
  have hlo : ¬ ((lim : Int) < 0) := by omega
  have hsl : Hd (s'.at' ≤ s.l.length ∧ s'.l = s.l) := ⟨by have h2 := uintC_at s hat; rw [hu.out] at h2; exact h2⟩
  have HA : Hd (s.at' ≤ s'.l.length) := ⟨by rw [hsl.out.2]; exact hat⟩
  obtain ⟨B, n, c, h0, h1, h2, f0, f1, f2, hr, hnc, hat2, hn⟩ := h.cells
  have HH := Hd.mk h
  by_cases he : s'.err = 0
  · have hd : ((s'.err : Int) != 0) = false := by simp; omega
    have HS : ∀ x, Hd ((({ s' with at' := s.at' } : CS).fail x) = { s with err := x }) := fun x => ⟨by
      have e1 : ({ s' with at' := s.at' } : CS).fail x = { ({ s' with at' := s.at' } : CS) with err := x } := if_pos he
      rw [e1]
      simp only
      rw [hsl.out.2]⟩
    by_cases hv2 : lim < v
    · have hv3 : (lim : Int) < (v : Int) := by omega
      have HS2 := HS 2
      rw [HI.out, if_neg (by simp [he]), if_pos hv2]
      clear he hv2 HS h
      go_enter Try.func163, Try.ntmps163
      go_wp2_with (first
        | (go_at_call 164; refine (ruint164 g s w HH.out).mono ?_; rw [hu.out]; rintro e w1 ⟨rfl, hc1, hg1⟩; obtain ⟨B', n', c', k0, k1, k2, q0, q1, q2, kr, knc, kat, kn⟩ := hc1.cells; have HD := Hd.mk hc1; clear hc1)
        | (go_at_call 156; refine (rstop156 g { s' with at' := s.at' } 2 _ (Cur.setAt HD.out HA.out)).mono ?_; rw [HS2.out]; rintro e w2 ⟨rfl, hc2, hg2⟩))
      go_ret
      exact ⟨_, _, _, rfl, Own8.nil_ _ _ _, hc2, grown_trans hg1 (grown_trans (grown_cell _) hg2)⟩
    · have hv3 : ¬ (lim : Int) < (v : Int) := by omega
      have hv5 : (v : Int) ≤ 1099511627776 := by omega
      by_cases hv6 : (s.l.length - s'.at') < v
      · have HS3 := HS 30
        have hv7 : ((s'.l.length - s'.at' : Nat) : Int) < (v : Int) := by rw [hsl.out.2]; omega
        have hv8 : ((s'.l.length - s'.at' : Nat) : Int) ≤ 1099511627776 := by omega
        rw [HI.out, if_neg (by simp [he]), if_neg hv2, if_pos hv6]
        clear he hv2 hv6 HS h
        go_enter Try.func163, Try.ntmps163
        go_wp2_with (first
          | (go_at_call 164; refine (ruint164 g s w HH.out).mono ?_; rw [hu.out]; rintro e w1 ⟨rfl, hc1, hg1⟩; obtain ⟨B', n', c', k0, k1, k2, q0, q1, q2, kr, knc, kat, kn⟩ := hc1.cells; have HD := Hd.mk hc1; clear hc1)
          | (go_at_call 157; refine (rleft157 g s' w1 HD.out).mono ?_; rintro e w' ⟨rfl, kk, rfl⟩)
          | (go_at_call 156; refine (rstop156 g { s' with at' := s.at' } 30 _ (Cur.setAt (w := w1.drewN kk) HD.out HA.out)).mono ?_; rw [HS3.out]; rintro e w2 ⟨rfl, hc2, hg2⟩))
        go_ret
        exact ⟨_, _, _, rfl, Own8.nil_ _ _ _, hc2, grown_trans hg1 (grown_drewN (grown_trans (grown_cell _) hg2))⟩
      · have hv7 : ¬ ((s'.l.length - s'.at' : Nat) : Int) < (v : Int) := by rw [hsl.out.2]; omega
        have hv8 : ((s'.l.length - s'.at' : Nat) : Int) ≤ 140737488355328 := by rw [hsl.out.2]; omega
        rw [HI.out, if_neg (by simp [he]), if_neg hv2, if_neg hv6]
        clear he hv2 hv6 HS h
        go_enter Try.func163, Try.ntmps163
        go_wp2_with (first
          | (go_at_call 164; refine (ruint164 g s w HH.out).mono ?_; rw [hu.out]; rintro e w1 ⟨rfl, hc1, hg1⟩; obtain ⟨B', n', c', k0, k1, k2, q0, q1, q2, kr, knc, kat, kn⟩ := hc1.cells; have HD := Hd.mk hc1; clear hc1)
          | (go_at_call 157; refine (rleft157 g s' w1 HD.out).mono ?_; rintro e w' ⟨rfl, kk, rfl⟩)
          | (go_at_call 116; refine (rtake116 g s' (v : Int) (w1.drewN kk) HD.out (by omega) (by omega)).mono ?_; rintro e w2 ⟨A, n, c, rfl, ho, hc2, hg2⟩))
        go_ret
        exact ⟨A, n, c, rfl, Own8.mono ho (by obtain ⟨_, _, _, h, _⟩ := hg1; exact h), hc2, grown_trans hg1 (grown_drewN hg2)⟩
  · have hd : ((s'.err : Int) != 0) = true := by simp; omega
    rw [HI.out, if_pos he]
    clear he h
    go_enter Try.func163, Try.ntmps163
    go_wp2_with (go_at_call 164; refine (ruint164 g s w HH.out).mono ?_; rw [hu.out]; rintro e w1 ⟨rfl, hc1, hg1⟩; obtain ⟨B', n', c', k0, k1, k2, q0, q1, q2, kr, knc, kat, kn⟩ := hc1.cells; have HD := Hd.mk hc1; clear hc1)
    go_ret
    exact ⟨_, _, _, rfl, Own8.nil_ _ _ _, HD.out, hg1⟩
end Go.Proofs.Ytkgdcglnkodgnaa
