/-
  The cursor's Uint, Index, Bytes, End (octet). No condition but sizes.
-/
import Derived.Test.YtkgdcglnkodgnaaNum
namespace Go.Proofs.Ytkgdcglnkodgnaa
open Go.RowKit
set_option maxRecDepth 100000 in
set_option maxHeartbeats 400000 in
theorem uint154 (g : Nat) (s : CS) (w : World) (h : Cur 200 w g s) :
    Calls Try.prog 154 #[.pointer (some ⟨g, 0, none⟩)] w fun e w' => e = .returned (.int .u64 ((uintC s).1 : Int)) ∧ Cur 200 w' g (uintC s).2 ∧ w.grownBy w' (some g) := by
  have hlen : s.at' ≤ s.l.length := by obtain ⟨B, n, c, _, h2, _, h4, _⟩ := h; rw [h2.len]; exact h4
  have hnb : s.l.length ≤ 140737488355328 := by obtain ⟨B, n, c, _, h2, _, _, h5, _⟩ := h; rw [h2.len]; exact h5
  by_cases he : s.err = 0
  · have hd : decide (s.err = 0) = true := by simpa using he
    obtain ⟨v, k, ne, hnum⟩ : ∃ v k e, Hd (numU 0 0 (s.l.drop s.at') = (v, k, e)) := ⟨_, _, _, ⟨rfl⟩⟩
    have HU : Hd (uintC s = if ne ≠ 0 then (0, { s with err := ne }) else (v, { s with at' := s.at' + k })) := ⟨by unfold uintC; rw [hnum.out, if_neg (by simp [he])]⟩
    by_cases hne : ne = 0
    · subst hne
      rw [HU.out, if_neg (by simp)]
      have hkl : k ≤ 0 + (s.l.drop s.at').length := by obtain ⟨_, _, _, _, _, h, _⟩ := numU_ok _ 0 0 v k hnum.out; exact h
      rw [List.length_drop] at hkl
      have hk : s.at' + k ≤ s.l.length := by omega
      obtain ⟨B, n, c, h0, h1, h2, f0, f1, f2, hr, hnc, hat, hn⟩ := h.cells
      have HC : ∀ j, Hd (Cur 200 ((w.drewN j).setCell ⟨g, 1, none⟩ (.int .i64 ((s.at' + k : Nat) : Int))) g { s with at' := s.at' + k }) := fun j => ⟨Cur.setAt (w := w.drewN j) h hk⟩
      have hki : (s.at' : Int) + (k : Int) ≤ 140737488355328 := by omega
      clear hkl he
      go_enter Try.func154, Try.ntmps154
      go_wp2_with (first
        | (go_at_call 140; refine (fine140 g s w h).mono ?_; rw [hd]; rintro e w' ⟨rfl, rfl⟩)
        | (go_at_call 173; refine (number173 g s w h).mono ?_; rw [hnum.out]; rintro e w' ⟨rfl, j, rfl⟩))
      go_ret
      refine ⟨rfl, ?_, ?_⟩
      · have := (HC j).out
        rw [Int.natCast_add] at this
        exact this
      · exact grown_drewN (grown_cell (w := w.drewN j) _)
    · have he0 : ((ne : Int) != 0) = true := by simp; omega
      rw [HU.out, if_pos hne]
      have HF : Hd (s.fail ne = { s with err := ne }) := ⟨if_pos he⟩
      clear he hne
      go_enter Try.func154, Try.ntmps154
      go_wp2_with (first
        | (go_at_call 140; refine (fine140 g s w h).mono ?_; rw [hd]; rintro e w' ⟨rfl, rfl⟩)
        | (go_at_call 173; refine (number173 g s w h).mono ?_; rw [hnum.out]; rintro e w' ⟨rfl, j, rfl⟩)
        | (go_at_call 141; refine (fail141 g s ne (w.drewN j) h).mono ?_; rw [HF.out]; rintro e w1 ⟨rfl, hc1, hg1⟩))
      go_ret
      exact ⟨rfl, hc1, grown_drewN hg1⟩
  · have hd : decide (s.err = 0) = false := by simpa using he
    have HU : Hd (uintC s = (0, s)) := ⟨if_pos he⟩
    rw [HU.out]
    clear he
    go_enter Try.func154, Try.ntmps154
    go_wp2_with (go_at_call 140; refine (fine140 g s w h).mono ?_; rw [hd]; rintro e w' ⟨rfl, rfl⟩)
    go_ret
    exact ⟨rfl, h, World.grownBy.refl _ _⟩
theorem uintC_lt (s : CS) : (uintC s).1 < 18446744073709551616 := by
  unfold uintC
  split
  · simp
  · split
    · simp
    · exact numU_lt _
theorem uintC_at (s : CS) (h : s.at' ≤ s.l.length) : (uintC s).2.at' ≤ s.l.length ∧ (uintC s).2.l = s.l := by
  unfold uintC
  split
  · exact ⟨h, rfl⟩
  · split
    · exact ⟨h, rfl⟩
    · have := (numU_bound (s.l.drop s.at') 0 0).1
      rw [List.length_drop] at this
      exact ⟨by simp only; omega, rfl⟩
theorem Cur.len {T : TypeId} {w : World} {g : Nat} {s : CS} (h : Cur T w g s) : s.at' ≤ s.l.length ∧ s.l.length ≤ 140737488355328 := by
  obtain ⟨B, n, c, _, h2, _, h4, h5, _⟩ := h
  rw [h2.len]; exact ⟨h4, h5⟩
set_option maxRecDepth 100000 in
set_option maxHeartbeats 400000 in
theorem index155 (g : Nat) (s : CS) (lim : Nat) (w : World) (h : Cur 200 w g s) (hl0 : 1 ≤ lim) (hl : lim ≤ 4096) :
    Calls Try.prog 155 #[.pointer (some ⟨g, 0, none⟩), .int .i64 (lim : Int)] w fun e w' => e = .returned (.int .i64 ((indexC s lim).1 : Int)) ∧ Cur 200 w' g (indexC s lim).2 ∧ w.grownBy w' (some g) := by
  obtain ⟨hat, hnb⟩ := h.len
  obtain ⟨v, s', hu⟩ : ∃ v s', Hd (uintC s = (v, s')) := ⟨_, _, ⟨rfl⟩⟩
  have hv : (v : Int) ≤ 18446744073709551615 := by have := uintC_lt s; rw [hu.out] at this; simp only at this; omega
  have HI : Hd (indexC s lim = if s'.err ≠ 0 then (0, s') else if lim ≤ v then (0, { s with err := 1 }) else (v, s')) := ⟨by unfold indexC; rw [hu.out]⟩
  have hlo : ¬ ((lim : Int) < 1) := by omega
  by_cases he : s'.err = 0
  · have hd : decide (s'.err = 0) = true := by simpa using he
    have hs : s.err = 0 := by
      have := hu.out
      unfold uintC at this
      split at this
      · rename_i h1; injection this with _ h2; subst h2; exact absurd he h1
      · rename_i h1; omega
    by_cases hv2 : lim ≤ v
    · have hv3 : (lim : Int) ≤ (v : Int) := by omega
      have HS : Hd ((({ s' with at' := s.at' } : CS).fail 1) = { s with err := 1 }) := ⟨by
        have h2 := uintC_at s hat
        rw [hu.out] at h2
        have e1 : ({ s' with at' := s.at' } : CS).fail 1 = { ({ s' with at' := s.at' } : CS) with err := 1 } := if_pos he
        rw [e1]
        simp only at h2 ⊢
        rw [h2.2]⟩
      have hat' : Hd (s.at' ≤ s'.l.length) := ⟨by have h2 := uintC_at s hat; rw [hu.out] at h2; simp only at h2; rw [h2.2]; exact hat⟩
      rw [HI.out, if_neg (by simp [he]), if_pos hv2]
      clear he hv2 hs
      go_enter Try.func155, Try.ntmps155
      go_wp2_with (first
        | (go_at_call 171; refine (at171 g s w h).mono ?_; rintro e w' ⟨rfl, rfl⟩)
        | (go_at_call 154; refine (uint154 g s w h).mono ?_; rw [hu.out]; rintro e w1 ⟨rfl, hc1, hg1⟩)
        | (go_at_call 140; refine (fine140 g s' w1 hc1).mono ?_; rw [hd]; rintro e w' ⟨rfl, rfl⟩)
        | (go_at_call 172; refine (back172 g s' s.at' 1 w1 hc1 hat'.out).mono ?_; rw [HS.out]; rintro e w2 ⟨rfl, hc2, hg2⟩))
      go_ret
      exact ⟨rfl, hc2, grown_trans hg1 hg2⟩
    · have hv3 : ¬ (lim : Int) ≤ (v : Int) := by omega
      have hv4 : (v : Int) < 4096 := by omega
      rw [HI.out, if_neg (by simp [he]), if_neg hv2]
      clear he hv2 hs
      go_enter Try.func155, Try.ntmps155
      go_wp2_with (first
        | (go_at_call 171; refine (at171 g s w h).mono ?_; rintro e w' ⟨rfl, rfl⟩)
        | (go_at_call 154; refine (uint154 g s w h).mono ?_; rw [hu.out]; rintro e w1 ⟨rfl, hc1, hg1⟩)
        | (go_at_call 140; refine (fine140 g s' w1 hc1).mono ?_; rw [hd]; rintro e w' ⟨rfl, rfl⟩))
      go_ret
      exact ⟨rfl, hc1, hg1⟩
  · have hd : decide (s'.err = 0) = false := by simpa using he
    rw [HI.out, if_pos he]
    clear he
    go_enter Try.func155, Try.ntmps155
    go_wp2_with (first
      | (go_at_call 171; refine (at171 g s w h).mono ?_; rintro e w' ⟨rfl, rfl⟩)
      | (go_at_call 154; refine (uint154 g s w h).mono ?_; rw [hu.out]; rintro e w1 ⟨rfl, hc1, hg1⟩)
      | (go_at_call 140; refine (fine140 g s' w1 hc1).mono ?_; rw [hd]; rintro e w' ⟨rfl, rfl⟩))
    go_ret
    exact ⟨rfl, hc1, hg1⟩
/-- Is it at its end, without an error? -/
def endC (s : CS) : Nat := if s.err ≠ 0 then s.err else if s.at' < s.l.length then 31 else 0
set_option maxRecDepth 100000 in
set_option maxHeartbeats 400000 in
theorem end115 (g : Nat) (s : CS) (w : World) (h : Cur 200 w g s) :
    Calls Try.prog 115 #[.pointer (some ⟨g, 0, none⟩)] w fun e w' => e = .returned (.int .i64 (endC s : Int)) ∧ ∃ k, w' = w.drewN k := by
  obtain ⟨hat, hnb⟩ := h.len
  by_cases he : s.err = 0
  · have he0 : ((s.err : Int) != 0) = false := by simp; omega
    by_cases hl : s.at' < s.l.length
    · have HE : Hd (endC s = 31) := ⟨by unfold endC; rw [if_neg (by simp [he]), if_pos hl]⟩
      have hl' : (0 : Int) < ((s.l.length - s.at' : Nat) : Int) := by omega
      rw [HE.out]
      clear he hl
      go_enter Try.func115, Try.ntmps115
      go_wp2_with (first
        | (go_at_call 152; refine (err152 g s w h).mono ?_; rintro e w' ⟨rfl, rfl⟩)
        | (go_at_call 142; refine (left142 g s w h).mono ?_; rintro e w' ⟨rfl, kk, rfl⟩))
      go_ret
      exact ⟨rfl, _, rfl⟩
    · have HE : Hd (endC s = 0) := ⟨by unfold endC; rw [if_neg (by simp [he]), if_neg hl]⟩
      have hl' : ¬ (0 : Int) < ((s.l.length - s.at' : Nat) : Int) := by omega
      rw [HE.out]
      clear he hl
      go_enter Try.func115, Try.ntmps115
      go_wp2_with (first
        | (go_at_call 152; refine (err152 g s w h).mono ?_; rintro e w' ⟨rfl, rfl⟩)
        | (go_at_call 142; refine (left142 g s w h).mono ?_; rintro e w' ⟨rfl, kk, rfl⟩))
      go_ret
      exact ⟨rfl, _, rfl⟩
  · have he0 : ((s.err : Int) != 0) = true := by simp; omega
    have HE : Hd (endC s = s.err) := ⟨if_pos he⟩
    rw [HE.out]
    clear he
    go_enter Try.func115, Try.ntmps115
    go_wp2_with (go_at_call 152; refine (err152 g s w h).mono ?_; rintro e w' ⟨rfl, rfl⟩)
    go_ret
    exact ⟨rfl, 0, rfl⟩
end Go.Proofs.Ytkgdcglnkodgnaa
