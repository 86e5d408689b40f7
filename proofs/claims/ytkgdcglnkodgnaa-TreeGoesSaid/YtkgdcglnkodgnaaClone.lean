/-
  slices.Clone of places.
-/
import Derived.Test.YtkgdcglnkodgnaaPlaces
import Derived.WalkSpells
namespace Go.Proofs.Ytkgdcglnkodgnaa
open Go.RowKit
theorem OwnP.nil_ (w : World) (base : Nat) (A : Option Addr) : OwnP w base A 0 0 [] := Own.nil_ w base 58 2 A
set_option maxRecDepth 100000 in
set_option maxHeartbeats 400000 in
theorem clone99 (A : Option Addr) (n c : Nat) (l : List (Int × Int)) (w : World) (h : RdP w A n l) (hn : n ≤ 8796093022208) (hz : A = none → n = 0) :
    Calls Try.prog 99 #[.slice A n c] w fun e w' => ∃ A' c', e = .returned (.slice A' n c') ∧ OwnP w' w.heap.size A' n c' l ∧ Below w.heap.size w w' := by
  have HE : ∀ (A' : Option Addr) W, (binOp .eql 67 (.slice A' n c) (.slice none 0 0)).run Try.prog W = .ok (.bool A'.isNone) W := fun A' W => Lib.run_eql_slice_nil W 67 58 A' n c 0 0 Try.underlying67
  cases A with
  | none =>
    obtain rfl := hz rfl
    have hl : l = [] := by
      have h1 := h.1
      rw [pc_length] at h1
      exact List.eq_nil_of_length_eq_zero (by omega)
    subst hl
    go_enter Try.func99, Try.ntmps99
    go_wp2
    go_ret
    exact ⟨_, _, rfl, Own.nil_ _ _ _ _ _, Below.refl _ _⟩
  | some ad =>
    go_enter Try.func99, Try.ntmps99
    go_wp2_with (first | (at_builtin; refine wl_appP rfl (.tmp 5) (.tmp 6) rfl rfl rfl (OwnP.nil_ _ w.heap.size _) (Rd.below h ((Below.refl _ _).alloc (Nat.le_refl _) _)) (by omega) (by simp) ?_; rintro v w1 ⟨A', c', rfl, hown, hg, _⟩))
    go_ret
    simp only [Nat.zero_add, List.nil_append] at hown ⊢
    exact ⟨_, _, rfl, hown, below_appP ((Below.refl _ _).alloc (Nat.le_refl _) _) (by simp) (OwnP.nil_ _ w.heap.size _) hg⟩
end Go.Proofs.Ytkgdcglnkodgnaa
