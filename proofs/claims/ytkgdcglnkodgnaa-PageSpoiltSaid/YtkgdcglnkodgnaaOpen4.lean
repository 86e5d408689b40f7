/-
  An argument of four bytes, by value, opened. No condition.
-/
import Derived.Test.YtkgdcglnkodgnaaOpen
import Derived.Test.YtkgdcglnkodgnaaLspoilt
namespace Go.Proofs.Ytkgdcglnkodgnaa
open Go.ChangeShapes Go.WideShapes Go.ChangeAt Go.RowKit
section
variable {H : Type} {enc : TypeId × Value → H} {W : World} {base : Nat}
set_option maxRecDepth 100000 in
theorem open4 {v : Value} {d : DataW H} {p : List MemPlace} (hj : DataW.Trod enc Try.prog W 0 (fun _ => true) true 37 v d p) (hv : Value.okWide Try.prog W .any base 37 v) :
    ∃ l : List UInt8, v = .agg (bc l).toArray ∧ l.length = 4 := by
  obtain ⟨cs, rfl, hsz, _⟩ : ∃ cs, v = .agg cs ∧ cs.size = Try.prog.cellsOf 37 ∧ Row.okWide Try.prog W .any base 37 cs := by
    simpa [Value.okWide, Try.underlying37] using hv
  have h4 : Try.prog.cellsOf 37 = 4 := by kernel_rfl
  rw [h4] at hsz
  obtain ⟨l⟩ := cs
  obtain ⟨fuel, hf⟩ := hj
  obtain ⟨xs, m, _, ex, _, hl, hel⟩ := DataW.trod_array Try.underlying37 hf
  rw [try_cells5] at hel
  have hb : ∀ i, i < 4 → ∃ b : UInt8, l[i]? = some (.int .u8 (b.toNat : Int)) := by
    intro i hi
    have h := hel i hi
    rw [List.getElem?_eq_getElem (by omega)] at h
    obtain ⟨x0, e0, _, w0⟩ := DataW.trod_int Try.underlying5 h
    have hb := bounds_u8 w0
    have hg : l[i]? = some (.int .u8 x0) := by
      have := congrArg (fun z : List Value => z[0]?) e0
      simpa [Value.cells, List.getElem?_take, List.getElem?_drop] using this
    exact ⟨UInt8.ofNat x0.toNat, by rw [hg]; congr 2; simp; omega⟩
  have hlen : l.length = 4 := by simpa using hsz
  obtain ⟨a, b, c, d, rfl⟩ : ∃ a b c d, l = [a, b, c, d] := by
    match l, hlen with
    | [a, b, c, d], _ => exact ⟨a, b, c, d, rfl⟩
  obtain ⟨x0, h0⟩ := hb 0 (by omega)
  obtain ⟨x1, h1⟩ := hb 1 (by omega)
  obtain ⟨x2, h2⟩ := hb 2 (by omega)
  obtain ⟨x3, h3⟩ := hb 3 (by omega)
  simp at h0 h1 h2 h3
  subst h0 h1 h2 h3
  exact ⟨[x0, x1, x2, x3], by simp [bc], rfl⟩
end
end Go.Proofs.Ytkgdcglnkodgnaa
