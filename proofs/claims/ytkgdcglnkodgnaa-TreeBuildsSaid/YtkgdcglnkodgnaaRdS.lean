/-
  A slice of slices of bytes that reads as a list of lists. No condition.
-/
import Derived.Test.YtkgdcglnkodgnaaOps
namespace Go.Proofs.Ytkgdcglnkodgnaa
open Go.RowKit
/-- A slice of slices of bytes reads as ds. -/
def RdS (w : World) (D : Option Addr) (n : Nat) (ds : List (List UInt8)) : Prop :=
  ds.length = n ∧ (0 < n → ∃ ad, D = some ad ∧ ∀ j l, ds[j]? = some l → ∃ A m c, w.cell? (ad.add j) = some (.slice A m c) ∧ Rd8 w A m l ∧ m ≤ c ∧ c ≤ maxLen)
theorem RdS.below {w w' : World} {D : Option Addr} {n : Nat} {ds : List (List UInt8)} (h : RdS w D n ds) (hb : Below w.heap.size w w') : RdS w' D n ds :=
  ⟨h.1, fun hn => by
    obtain ⟨ad, hD, hc⟩ := h.2 hn
    refine ⟨ad, hD, fun j l hl => ?_⟩
    obtain ⟨A, m, c, h1, h2, h3⟩ := hc j l hl
    exact ⟨A, m, c, (hb.cell (cell_lt h1)).trans h1, h2.below hb, h3⟩⟩
theorem RdS.at_ {w : World} {D : Option Addr} {n : Nat} {ds : List (List UInt8)} (h : RdS w D n ds) {k : Nat} (hk : k < n) : ∃ ad A m c, D = some ad ∧ w.cell? (ad.add k) = some (.slice A m c) ∧ Rd8 w A m (ds.getD k []) ∧ m ≤ c ∧ c ≤ maxLen := by
  obtain ⟨ad, hD, hc⟩ := h.2 (by omega)
  have hl : ds[k]? = some (ds.getD k []) := by
    have := h.1
    rw [List.getD_eq_getElem?_getD, List.getElem?_eq_getElem (by omega)]; rfl
  obtain ⟨A, m, c, h1, h2, h3, h4⟩ := hc k _ hl
  exact ⟨ad, A, m, c, hD, h1, h2, h3, h4⟩
end Go.Proofs.Ytkgdcglnkodgnaa
