/-
  A law's arguments opened into what the walks ask. No condition.
-/
import Derived.Test.YtkgdcglnkodgnaaOps
import Derived.ProofKit
import Derived.SizedLaws
import Derived.OpenShut
import Derived.ShutString
namespace Go.Proofs.Ytkgdcglnkodgnaa
open Go.ChangeShapes Go.WideShapes Go.ChangeAt Go.RowKit

theorem try_own : ownKnob Try.prog.godebug = none := by kernel_rfl
theorem try_laidOut : laidOutB Try.prog = true := by kernel_rfl
theorem try_cells5 : Try.prog.cellsOf 5 = 1 := by kernel_rfl
theorem try_bytes5 : Try.prog.bytesOf 5 = 1 := by kernel_rfl

section
variable {H : Type} {enc : TypeId × Value → H} {W : World} {base : Nat}
set_option maxRecDepth 100000 in
/-- A slice of bytes that came in. -/
theorem open8 {v : Value} {d : DataW H} {p : List MemPlace} (hj : DataW.Trod enc Try.prog W 0 (fun _ => true) true 22 v d p) (hv : Value.okWide Try.prog W .any base 22 v) :
    ∃ A n c l, v = .slice A n c ∧ Rd8 W A n l ∧ n ≤ c ∧ (c = 0 ∨ ∃ es sp, d = .slice es sp ∧ es.length + sp.length = c) := by
  obtain ⟨A, n, c, rfl⟩ := okWide_slice Try.underlying22 hv
  obtain ⟨fuel, hf⟩ := hj
  rcases open_ints Try.underlying22 Try.underlying5 try_cells5 hf with ⟨hcs, _⟩ | ⟨x, l, c', zs, hcs, _, hl, hm, hz, hx, hcell, hwz⟩
  · simp [Value.cells] at hcs
    obtain ⟨rfl, rfl, rfl⟩ := hcs
    exact ⟨none, 0, 0, [], rfl, Rd8.nil_, Nat.le_refl _, .inl rfl⟩
  · simp [Value.cells] at hcs
    obtain ⟨rfl, rfl, rfl⟩ := hcs
    have hz' : zs.length = c := by simpa using hz
    refine ⟨some x, n, c, (zs.take n).map (fun z => UInt8.ofNat z.toNat), rfl, ?_, hl, .inr ⟨_, _, (Prod.mk.inj hx).1, ?_⟩⟩
    · have hbc : bc ((zs.take n).map (fun z => UInt8.ofNat z.toNat)) = (zs.take n).map (Value.int .u8) := by
        simp only [bc, List.map_map]
        refine List.map_congr_left fun z hz => ?_
        have hw := hwz z (List.mem_of_mem_take hz)
        have hb := bounds_u8 hw
        simp only [Function.comp_apply, UInt8.toNat_ofNat']
        congr 1
        omega
      refine ⟨by rw [bc_length, List.length_map, List.length_take]; omega, fun hn => ⟨x, rfl, fun j u hu => ?_⟩⟩
      rw [hbc, List.getElem?_map, List.getElem?_take] at hu
      by_cases hjn : j < n
      · rw [if_pos hjn, List.getElem?_eq_getElem (by omega)] at hu
        rw [hcell j (by omega), List.getD_eq_getElem?_getD, List.getElem?_eq_getElem (by omega)]
        simpa using hu
      · rw [if_neg hjn] at hu; simp at hu
    · simp [lits, List.length_map, List.length_take, List.length_drop]; omega
end
end Go.Proofs.Ytkgdcglnkodgnaa
