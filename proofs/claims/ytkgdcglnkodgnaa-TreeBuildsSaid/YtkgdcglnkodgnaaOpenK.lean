/-
  Arguments of layer 20's laws opened: a slice of pairs. No condition.
-/
import Derived.Test.YtkgdcglnkodgnaaOpen
import Derived.Test.YtkgdcglnkodgnaaKps
import Derived.Deep.Slices
namespace Go.Proofs.Ytkgdcglnkodgnaa
open Go.ChangeShapes Go.WideShapes Go.ChangeAt Go.RowKit
/-- A pair's cells. -/
def kCells (p : Kp) : List Value := [.string p.1, .int .i64 p.2]
theorem kc_get (l : List Kp) (k j : Nat) (hj : j < 2) {p : Kp} (hk : l[k]? = some p) : (kc l)[k * 2 + j]? = (kCells p)[j]? := by
  induction l generalizing k with
  | nil => simp at hk
  | cons q r ih =>
    cases k with
    | zero =>
      simp at hk; subst hk
      match j, hj with
      | 0, _ => rfl
      | 1, _ => rfl
    | succ k =>
      rw [show (k + 1) * 2 + j = (k * 2 + j) + 2 by omega]
      exact ih k (by simpa using hk)
/-- A bounded pair. -/
def KpB (p : Kp) : Prop := p.1.size ≤ 9223372036854775807 ∧ -9223372036854775808 ≤ p.2 ∧ p.2 ≤ 9223372036854775807
theorem try_cells113 : Try.prog.cellsOf 113 = 2 := by kernel_rfl
theorem try_cells9 : Try.prog.cellsOf 9 = 1 := by kernel_rfl
theorem try_cells3' : Try.prog.cellsOf 3 = 1 := by kernel_rfl
theorem try_bytes113 : Try.prog.bytesOf 113 = 24 := by kernel_rfl
section
variable {H : Type} {enc : TypeId × Value → H} {W : World} {base : Nat} {spare : Nat → Bool} {held : Bool}
set_option maxRecDepth 100000 in
theorem openKp {n : Nat} {cs : List Value} {x : DataW H × List MemPlace} (h : DataW.trod enc Try.prog W base spare held n 113 cs = some x) : ∃ p, cs = kCells p ∧ KpB p := by
  obtain ⟨y0, y1, m, _, hl, h0, h1⟩ := trod_struct2 Try.underlying113 h
  rw [try_cells113] at hl
  match cs, hl with
  | [v0, v1], _ =>
    obtain ⟨a, e0, _, w0⟩ := DataW.trod_string Try.underlying9 h0
    obtain ⟨b, e1, _, w1⟩ := DataW.trod_int Try.underlying3 h1
    simp [try_cells3', try_cells9] at e0 e1
    subst e0; subst e1
    have hb := bounds_i64 w1
    exact ⟨(a, b), rfl, by unfold maxLen at w0; simp only; omega, hb.1, hb.2⟩
set_option maxRecDepth 100000 in
theorem openK {v : Value} {d : DataW H} {p : List MemPlace} (hj : DataW.Trod enc Try.prog W 0 (fun _ => true) true 84 v d p) (hv : Value.okWide Try.prog W .any base 84 v) :
    ∃ A n c l, v = .slice A n c ∧ RdK W A n l ∧ n ≤ c ∧ (∀ a ∈ l, KpB a) ∧ (c = 0 ∨ ∃ es sp, d = .slice es sp ∧ es.length + sp.length = c) := by
  obtain ⟨A, n, c, rfl⟩ := okWide_slice Try.underlying84 hv
  obtain ⟨fuel, hf⟩ := hj
  rcases Go.Deep.open_slice Try.underlying84 hf with ⟨hcs, _⟩ | ⟨a, len, cap, m, q, D, Pl, hcs, _, hl, hm, hmm, hx, hr⟩
  · simp [Value.cells] at hcs
    obtain ⟨rfl, rfl, rfl⟩ := hcs
    exact ⟨none, 0, 0, [], rfl, Rd.nil_, Nat.le_refl _, by simp, .inl rfl⟩
  · simp [Value.cells] at hcs
    obtain ⟨rfl, rfl, rfl⟩ := hcs
    simp only [if_true] at hmm
    have hmc := hmm
    have each : ∀ i, i < n → ∃ x : Kp, KpB x ∧ ∀ j, j < 2 → W.cell? (a.add (i * 2 + j)) = (kCells x)[j]? := by
      intro i hi
      obtain ⟨cs', h1, h2⟩ := hr i (by omega)
      rw [try_cells113] at h1
      obtain ⟨x, rfl, hb⟩ := openKp h2
      refine ⟨x, hb, fun j hj => ?_⟩
      have := (World.cells?_some h1).2.2 j hj
      rw [add_add'] at this
      exact this
    obtain ⟨X, hX⟩ : ∃ X : Nat → Kp, ∀ i, i < n → KpB (X i) ∧ ∀ j, j < 2 → W.cell? (a.add (i * 2 + j)) = (kCells (X i))[j]? :=
      ⟨fun i => if h : i < n then Classical.choose (each i h) else (⟨#[]⟩, 0), fun i hi => by simp only [hi, dif_pos]; exact Classical.choose_spec (each i hi)⟩
    refine ⟨some a, n, c, (List.range n).map X, rfl, ⟨by rw [kc_length]; simp, fun hn => ⟨a, rfl, fun j u hu => ?_⟩⟩, hl, fun x hx => ?_, .inr ⟨_, _, (Prod.mk.inj hx).1, by simp; omega⟩⟩
    · have hjl : j < (kc ((List.range n).map X)).length := (List.getElem?_eq_some_iff.1 hu).1
      rw [kc_length] at hjl
      simp at hjl
      have hjn : j / 2 < n := by omega
      have hg : ((List.range n).map X)[j / 2]? = some (X (j / 2)) := by rw [List.getElem?_map, List.getElem?_range hjn]; rfl
      have := kc_get _ (j / 2) (j % 2) (by omega) hg
      rw [show j / 2 * 2 + j % 2 = j by omega] at this
      rw [this] at hu
      rw [← hu, ← (hX _ hjn).2 (j % 2) (by omega)]
      congr 2
      omega
    · simp at hx
      obtain ⟨i, hi, rfl⟩ := hx
      exact (hX i hi).1
end
end Go.Proofs.Ytkgdcglnkodgnaa
