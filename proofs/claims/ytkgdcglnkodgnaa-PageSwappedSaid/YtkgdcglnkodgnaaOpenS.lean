/-
  An argument of slices of bytes, opened. No condition.
-/
import Derived.Test.YtkgdcglnkodgnaaOpen
import Derived.Test.YtkgdcglnkodgnaaRdS
import Derived.Deep.Matrix
namespace Go.Proofs.Ytkgdcglnkodgnaa
open Go.ChangeShapes Go.WideShapes Go.ChangeAt Go.RowKit
theorem try_cells22 : Try.prog.cellsOf 22 = 1 := by kernel_rfl
theorem try_bytes22 : Try.prog.bytesOf 22 = 24 := by kernel_rfl
section
variable {H : Type} {enc : TypeId × Value → H} {W : World} {base : Nat}
set_option maxRecDepth 100000 in
theorem openS {v : Value} {d : DataW H} {p : List MemPlace} (hj : DataW.Trod enc Try.prog W 0 (fun _ => true) true 40 v d p) (hv : Value.okWide Try.prog W .any base 40 v) :
    ∃ D n c ds, v = .slice D n c ∧ RdS W D n ds ∧ n ≤ c ∧ (c = 0 ∨ ∃ es sp, d = .slice es sp ∧ es.length + sp.length = c) := by
  obtain ⟨D, n, c, rfl⟩ := okWide_slice Try.underlying40 hv
  obtain ⟨fuel, hf⟩ := hj
  rcases Go.Deep.open_int_rows Try.underlying40 Try.underlying22 Try.underlying5 try_cells22 try_cells5 hf with ⟨hcs, _⟩ | ⟨a, len, cap, A, L, C, Z, hcs, _, hl, hm, hx, hr⟩
  · simp [Value.cells] at hcs
    obtain ⟨rfl, rfl, rfl⟩ := hcs
    exact ⟨none, 0, 0, [], rfl, ⟨rfl, fun h => absurd h (Nat.lt_irrefl 0)⟩, Nat.le_refl _, .inl rfl⟩
  · simp [Value.cells] at hcs
    obtain ⟨rfl, rfl, rfl⟩ := hcs
    refine ⟨some a, n, c, (List.range n).map fun r => ((Z r).take (L r)).map (fun z => UInt8.ofNat z.toNat), rfl, ⟨by simp, fun hn => ⟨a, rfl, fun j l hj => ?_⟩⟩, hl, .inr ⟨_, _, (Prod.mk.inj hx).1, by simp; omega⟩⟩
    have hjn : j < n := by
      by_cases h : j < n
      · exact h
      · rw [List.getElem?_eq_none (by simp; omega)] at hj; cases hj
    rw [List.getElem?_map, List.getElem?_range hjn] at hj
    injection hj with hj
    obtain ⟨h1, h2, h3, h4, h5, h6, h7⟩ := hr j (by omega)
    refine ⟨A j, L j, C j, h1, ?_, h2, h3⟩
    subst hj
    have hbc : bc (((Z j).take (L j)).map (fun z => UInt8.ofNat z.toNat)) = ((Z j).take (L j)).map (Value.int .u8) := by
      simp only [bc, List.map_map]
      refine List.map_congr_left fun z hz => ?_
      have hb := bounds_u8 (h5 z (List.mem_of_mem_take hz))
      simp only [Function.comp_apply, UInt8.toNat_ofNat']
      congr 1
      omega
    refine ⟨by rw [bc_length, List.length_map, List.length_take]; omega, fun hL => ?_⟩
    cases hA : A j with
    | none => have := h6 hA; omega
    | some a' =>
      refine ⟨a', rfl, fun q u hu => ?_⟩
      rw [hbc, List.getElem?_map, List.getElem?_take] at hu
      by_cases hq : q < L j
      · rw [if_pos hq, List.getElem?_eq_getElem (by omega)] at hu
        rw [(h7 a' hA).2 q (by omega), List.getD_eq_getElem?_getD, List.getElem?_eq_getElem (by omega)]
        simpa using hu
      · rw [if_neg hq] at hu; simp at hu
end
end Go.Proofs.Ytkgdcglnkodgnaa
