/-
  The walk of awake (chapter 19s first example). No condition.
-/
import Derived.Test.YtkgdcglnkodgnaaLaw19
import Derived.Test.YtkgdcglnkodgnaaRread
namespace Go.Proofs.Ytkgdcglnkodgnaa
open Go.RowKit
theorem Own8.nsome {w : World} {base : Nat} {A : Option Addr} {n c : Nat} {l : List UInt8} (h : Own8 w base A n c l) (hn : 0 < n) : ∃ ad, A = some ad := by
  obtain ⟨ad, _, h, _⟩ := h.rd.at_ hn
  exact ⟨ad, h⟩
set_option maxRecDepth 100000 in
set_option maxHeartbeats 1000000 in
theorem awake23 (w : World) : Calls Try.prog 23 #[] w fun e w' => e = .returned (.bool true) ∧ Below w.heap.size w w' := by
  have HM := Hd.mk (make_ok 7 1 [5] (by omega) (by simp))
  have HR1 := Hd.mk ((read_make 7 1 [5] (by omega) (by simp) 1).trans (if_pos (by rfl)))
  have HR2 := Hd.mk ((read_make 7 1 [5] (by omega) (by simp) 2).trans (if_neg (by omega)))
  have G0 := Hd.mk (show (mkPage 7 1 [5]).getD 0 0 = 7 from getD_mk0 _ _ _)
  have G5 := Hd.mk (show (mkPage 7 1 [5]).getD 5 0 = 1 from getD_mk5 _ _ _)
  have G6 := Hd.mk (show (mkPage 7 1 [5]).getD 6 0 = 5 by simp [mkPage, body, low4])
  have HL := Hd.mk (mkPage_length 7 1 [5] (by simp))
  generalize mkPage 7 1 [5] = pg at *
  go_enter Try.func23, Try.ntmps23
  go_wp2_with fail
  refine (make25 7 1 _ 1 1 [5] _ (Rd8.new w [5] rfl rfl)).mono ?_
  rw [show (1 : Int) = ((1 : Nat) : Int) from rfl, HM.out]
  rintro e w1 ⟨A1, n1, c1, rfl, ho1', hb1'⟩
  have hb1 : Below w.heap.size w w1 := ((Below.refl _ _).alloc (Nat.le_refl _) _).trans (hb1'.mono (by simp))
  have ho1 := ho1'.mono (b := w.heap.size) (by simp)
  clear ho1' hb1'
  obtain rfl : n1 = 256 := by rw [← ho1.len]; exact HL.out
  obtain ⟨ad, hA⟩ := ho1.nsome (by omega)
  subst hA
  have hr := ho1.rd
  obtain ⟨_, hA, c0⟩ := hr.getD (k := 0) (by omega)
  injection hA with hA; subst hA
  obtain ⟨_, hA, c5⟩ := hr.getD (k := 5) (by omega)
  injection hA with hA; subst hA
  obtain ⟨_, hA, c6⟩ := hr.getD (k := 6) (by omega)
  injection hA with hA; subst hA
  rw [G0.out] at c0
  rw [G5.out] at c5
  rw [G6.out] at c6
  simp [Addr.add] at c0 c5 c6
  have hle := (Own8.le ho1).1
  go_wp2_with fail
  refine (read29 1 (some ad) 256 c1 pg w1 hr (by omega) (by omega) (by omega) (by omega)).mono ?_
  rw [HR1.out]
  rintro e w2 ⟨A2, n2, c2, rfl, hr2, hnc2, hb2, _⟩
  obtain rfl : n2 = 1 := by rw [← hr2.len]; rfl
  clear c0 c5 c6
  go_wp2_with fail
  refine (read29 2 (some ad) 256 c1 pg w2 (hr.below hb2) (by omega) (by omega) (by omega) (by omega)).mono ?_
  rw [HR2.out]
  rintro e w3 ⟨A3, n3, c3, rfl, hr3, hnc3, hb3, _⟩
  obtain ⟨ad2, hA2, cd⟩ := (hr2.below hb3).getD (k := 0) (by omega)
  subst hA2
  simp [Addr.add] at cd
  go_wp2_with (go_at_call 40; refine (pages40 247 _ (by omega)).mono ?_; rw [show pages 247 = 2 from by decide]; rintro e w' ⟨rfl, rfl⟩)

  go_ret
  exact ⟨rfl, hb1.trans ((hb2.trans (hb3.mono hb2.size)).mono hb1.size)⟩
set_option maxRecDepth 100000 in
set_option maxHeartbeats 400000 in
theorem twin24 (A : Option Addr) (n c : Nat) (l : List UInt8) (w : World) (h : Rd8 w A n l) (hn : n ≤ 140737488355328) :
    Calls Try.prog 24 #[.slice A n c] w (Ret8 w l) := by
  go_enter Try.func24, Try.ntmps24
  go_wp2_with (first | (at_builtin; refine wl_app8 rfl (.const (.slice none 0 0)) (.tmp 3) rfl rfl rfl (Own8.nil_ _ w.heap.size none) h (by omega) (Nat.le_refl _) ?_; rintro v w1 ⟨A', c', rfl, hown, hg, _⟩))
  go_ret
  simp only [Nat.zero_add, List.nil_append] at hown ⊢
  exact ⟨_, _, _, rfl, hown, below_app (Below.refl _ _) (Nat.le_refl _) (Own8.nil_ _ _ _) hg⟩
end Go.Proofs.Ytkgdcglnkodgnaa
