/-
  Layer 26: a step of a script walked. No condition but sizes.
-/
import Derived.Test.YtkgdcglnkodgnaaNav12
import Derived.Test.YtkgdcglnkodgnaaNav8
import Derived.Test.YtkgdcglnkodgnaaNavAw
import Derived.Test.YtkgdcglnkodgnaaOpenP
namespace Go.Proofs.Ytkgdcglnkodgnaa
open Go.RowKit
/-- An act's value. -/
def actV (a : ActN) : Value := .agg #[.int .i64 a.kind, .int .i64 a.p.1, .int .i64 a.p.2, .int .i64 a.n]
theorem NInv.small {s : NS} (h : NInv s) : s.bh.length ≤ 99 ∧ s.ah.length ≤ 99 ∧ s.mks.length ≤ 100 := by
  have := h.long; have := h.marks; omega
set_option maxRecDepth 100000 in
set_option maxHeartbeats 1000000 in
theorem step54 (g : Nat) (F : Nat → Prop) (s : NS) (a : ActN) (w : World) (h : NavAt w g F s) (hi : NInv s) :
    Calls Try.prog 54 #[.pointer (some ⟨g, 0, none⟩), actV a] w fun e w' => e = .returned (.int .i64 ((s.step a).1 : Int)) ∧ NavTo w w' g F (s.step a).2 := by
  obtain ⟨kd, ⟨px, py⟩, x⟩ := a
  unfold actV
  have HI := Hd.mk hi.small
  have HII := Hd.mk hi
  have HB := Hd.mk (below_alloc w (.cells #[.int .i64 kd, .int .i64 px, .int .i64 py, .int .i64 x] 71))
  have A0 := Hd.mk (h.below HB.out)
  clear hi h
  by_cases h1 : kd = 1
  · subst h1
    have hs : Hd (s.step ⟨1, (px, py), x⟩ = s.back.2) := ⟨rfl⟩
    rw [hs.out]
    go_enter Try.func54, Try.ntmps54
    go_wp2_with fail
    refine (back45 g F s _ A0.out HI.out.1 HI.out.2.1).mono ?_
    rintro e w1 ⟨rfl, hN⟩
    have hF := Hd.mk (NavTo.pre HB.out hN)
    unfold plV
    clear hN
    go_wp2
    go_ret
    exact ⟨rfl, hF.out⟩
  by_cases h2 : kd = 2
  · subst h2
    have hs : Hd (s.step ⟨2, (px, py), x⟩ = s.forward.2) := ⟨rfl⟩
    rw [hs.out]
    clear h1
    go_enter Try.func54, Try.ntmps54
    go_wp2_with fail
    refine (forward46 g F s _ A0.out HI.out.1 HI.out.2.1).mono ?_
    rintro e w1 ⟨rfl, hN⟩
    have hF := Hd.mk (NavTo.pre HB.out hN)
    unfold plV
    clear hN
    go_wp2
    go_ret
    exact ⟨rfl, hF.out⟩
  by_cases h3 : kd = 3
  · subst h3
    have hs : Hd (s.step ⟨3, (px, py), x⟩ = s.mark.2) := ⟨rfl⟩
    rw [hs.out]
    clear h1 h2
    go_enter Try.func54, Try.ntmps54
    go_wp2_with fail
    refine (mark56 g F s _ A0.out HI.out.2.2).mono ?_
    rintro e w1 ⟨rfl, hN⟩
    have hF := Hd.mk (NavTo.pre HB.out hN)
    clear hN
    go_wp2
    go_ret
    exact ⟨rfl, hF.out⟩
  by_cases h4 : kd = 4
  · subst h4
    have hs : Hd (s.step ⟨4, (px, py), x⟩ = s.unmark x) := ⟨rfl⟩
    rw [hs.out]
    clear h1 h2 h3
    go_enter Try.func54, Try.ntmps54
    go_wp2_with fail
    refine (unmark59 g F s x _ A0.out HI.out.2.2).mono ?_
    rintro e w1 ⟨rfl, hN⟩
    have hF := Hd.mk (NavTo.pre HB.out hN)
    clear hN
    go_wp2
    go_ret
    exact ⟨rfl, hF.out⟩
  by_cases h5 : kd = 5
  · subst h5
    have hs : Hd (s.step ⟨5, (px, py), x⟩ = (s.jump x).2) := ⟨rfl⟩
    rw [hs.out]
    clear h1 h2 h3 h4
    go_enter Try.func54, Try.ntmps54
    go_wp2_with fail
    refine (jump57 g F s x _ A0.out HI.out.1).mono ?_
    rintro e w1 ⟨rfl, hN⟩
    have hF := Hd.mk (NavTo.pre HB.out hN)
    unfold plV
    clear hN
    go_wp2
    go_ret
    exact ⟨rfl, hF.out⟩
  by_cases h6 : kd = 6
  · subst h6
    have hs : Hd (s.step ⟨6, (px, py), x⟩ = s.move x) := ⟨rfl⟩
    rw [hs.out]
    clear h1 h2 h3 h4 h5
    go_enter Try.func54, Try.ntmps54
    go_wp2_with fail
    refine (move58 g F s x _ A0.out).mono ?_
    rintro e w1 ⟨rfl, hN⟩
    have hF := Hd.mk (NavTo.pre HB.out hN)
    clear hN
    go_wp2
    go_ret
    exact ⟨rfl, hF.out⟩
  by_cases h7 : kd = 7
  · subst h7
    have hs : Hd (s.step ⟨7, (px, py), x⟩ = (0, s.drop x)) := ⟨rfl⟩
    rw [hs.out]
    clear h1 h2 h3 h4 h5 h6
    go_enter Try.func54, Try.ntmps54
    go_wp2_with fail
    refine (drop50 g F s x _ A0.out HII.out).mono ?_
    rintro e w1 ⟨rfl, hN⟩
    have hF := Hd.mk (NavTo.pre HB.out hN)
    clear hN
    go_wp2
    go_ret
    exact ⟨rfl, hF.out⟩
  · have hs : Hd (s.step ⟨kd, (px, py), x⟩ = s.visit (px, py)) := ⟨by simp [NS.step, h1, h2, h3, h4, h5, h6, h7]⟩
    rw [hs.out]
    go_enter Try.func54, Try.ntmps54
    go_wp2_with fail
    refine (visit48 g F s (px, py) _ A0.out HI.out.1).mono ?_
    rintro e w1 ⟨rfl, hN⟩
    have hF := Hd.mk (NavTo.pre HB.out hN)
    clear hN
    go_wp2
    go_ret
    exact ⟨rfl, hF.out⟩
end Go.Proofs.Ytkgdcglnkodgnaa

