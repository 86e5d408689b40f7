/-
  Arguments of layer 26's laws opened: a place by value, a script (a slice of acts). No condition.
-/
import Derived.Test.YtkgdcglnkodgnaaOpen
import Derived.Test.YtkgdcglnkodgnaaNavQ
import Derived.Deep.Slices
namespace Go.Proofs.Ytkgdcglnkodgnaa
open Go.ChangeShapes Go.WideShapes Go.ChangeAt Go.RowKit
/-- An int. -/
def i64B (a : Int) : Prop := -9223372036854775808 ≤ a ∧ a ≤ 9223372036854775807
/-- An act's cells. -/
def aCells (a : ActN) : List Value := [.int .i64 a.kind, .int .i64 a.p.1, .int .i64 a.p.2, .int .i64 a.n]
def ac : List ActN → List Value
  | [] => []
  | a :: r => aCells a ++ ac r
theorem ac_length (l : List ActN) : (ac l).length = l.length * 4 := by
  induction l with
  | nil => rfl
  | cons a r ih => simp [ac, aCells, ih]; omega
theorem ac_get (l : List ActN) (k j : Nat) (hj : j < 4) {a : ActN} (hk : l[k]? = some a) : (ac l)[k * 4 + j]? = (aCells a)[j]? := by
  induction l generalizing k with
  | nil => simp at hk
  | cons b r ih =>
    cases k with
    | zero =>
      simp at hk; subst hk
      simp only [ac, Nat.zero_mul, Nat.zero_add]
      rw [List.getElem?_append_left (by simp [aCells]; omega)]
    | succ k =>
      simp only [ac]
      rw [show (k + 1) * 4 + j = (k * 4 + j) + 4 by omega]
      rw [List.getElem?_append_right (by simp [aCells])]
      simp only [aCells, List.length_cons, List.length_nil, Nat.add_sub_cancel]
      exact ih k (by simpa using hk)
/-- A bounded act. -/
def ActB (a : ActN) : Prop := i64B a.kind ∧ i64B a.p.1 ∧ i64B a.p.2 ∧ i64B a.n
def RdA (w : World) (A : Option Addr) (n : Nat) (l : List ActN) : Prop := Rd w 4 A n (ac l)
theorem RdA.len {w : World} {A : Option Addr} {n : Nat} {l : List ActN} (h : RdA w A n l) : l.length = n := by have := h.1; rw [ac_length] at this; omega
theorem RdA.get {w : World} {A : Option Addr} {n : Nat} {l : List ActN} (h : RdA w A n l) {k : Nat} {a : ActN} (hk : l[k]? = some a) :
    ∃ ad, A = some ad ∧ w.cell? (ad.add (k * 4)) = some (.int .i64 a.kind) ∧ w.cell? (ad.add (k * 4 + 1)) = some (.int .i64 a.p.1) ∧ w.cell? (ad.add (k * 4 + 2)) = some (.int .i64 a.p.2) ∧ w.cell? (ad.add (k * 4 + 3)) = some (.int .i64 a.n) := by
  have hkl : k < l.length := (List.getElem?_eq_some_iff.1 hk).1
  obtain ⟨ad, hA, hc⟩ := h.2 (by rw [← h.len]; omega)
  refine ⟨ad, hA, hc (k * 4) _ ((ac_get l k 0 (by omega) hk).trans rfl), hc _ _ ((ac_get l k 1 (by omega) hk).trans rfl), hc _ _ ((ac_get l k 2 (by omega) hk).trans rfl), hc _ _ ((ac_get l k 3 (by omega) hk).trans rfl)⟩
theorem try_cells58 : Try.prog.cellsOf 58 = 2 := by kernel_rfl
theorem try_cells71 : Try.prog.cellsOf 71 = 4 := by kernel_rfl
theorem try_cells3 : Try.prog.cellsOf 3 = 1 := by kernel_rfl
theorem try_bytes71 : Try.prog.bytesOf 71 = 32 := by kernel_rfl
section
variable {H : Type} {enc : TypeId × Value → H} {W : World} {base : Nat} {spare : Nat → Bool} {held : Bool}
set_option maxRecDepth 100000 in
theorem openPl {n : Nat} {cs : List Value} {x : DataW H × List MemPlace} (h : DataW.trod enc Try.prog W base spare held n 58 cs = some x) : ∃ a b, cs = [.int .i64 a, .int .i64 b] ∧ i64B a ∧ i64B b := by
  obtain ⟨y0, y1, m, _, hl, h0, h1⟩ := trod_struct2 Try.underlying58 h
  rw [try_cells58] at hl
  match cs, hl with
  | [v0, v1], _ =>
    obtain ⟨a, e0, _, w0⟩ := DataW.trod_int Try.underlying3 h0
    obtain ⟨b, e1, _, w1⟩ := DataW.trod_int Try.underlying3 h1
    simp [try_cells3] at e0 e1
    subst e0; subst e1
    exact ⟨a, b, rfl, bounds_i64 w0, bounds_i64 w1⟩
set_option maxRecDepth 100000 in
theorem openAct {n : Nat} {cs : List Value} {x : DataW H × List MemPlace} (h : DataW.trod enc Try.prog W base spare held n 71 cs = some x) : ∃ a, cs = aCells a ∧ ActB a := by
  obtain ⟨xs, m, _, _, hl, hxl, hf⟩ := DataW.trod_struct Try.underlying71 h
  rw [try_cells71] at hl
  match cs, hl with
  | [v0, v1, v2, v3], _ =>
    match xs, hxl with
    | [y0, y1, y2], _ =>
      have g0 := hf 0 _ rfl
      have g1 := hf 1 _ rfl
      have g2 := hf 2 _ rfl
      obtain ⟨k, e0, _, w0⟩ := DataW.trod_int Try.underlying3 g0
      obtain ⟨a, b, e1, w1, w2⟩ := openPl g1
      obtain ⟨z, e2, _, w3⟩ := DataW.trod_int Try.underlying3 g2
      simp [try_cells3, try_cells58] at e0 e1 e2
      obtain ⟨rfl, rfl⟩ := e1
      subst e0; subst e2
      exact ⟨⟨k, (a, b), z⟩, rfl, bounds_i64 w0, w1, w2, bounds_i64 w3⟩
set_option maxRecDepth 100000 in
theorem openP {v : Value} {d : DataW H} {p : List MemPlace} (hj : DataW.Trod enc Try.prog W 0 (fun _ => true) true 58 v d p) (hv : Value.okWide Try.prog W .any base 58 v) :
    ∃ a b : Int, v = .agg #[.int .i64 a, .int .i64 b] ∧ i64B a ∧ i64B b := by
  obtain ⟨cs, rfl, _⟩ := okWide_struct Try.underlying58 hv
  obtain ⟨fuel, hf⟩ := hj
  obtain ⟨a, b, e, h1, h2⟩ := openPl hf
  refine ⟨a, b, ?_, h1, h2⟩
  congr 1
  apply Array.ext'
  exact e
set_option maxRecDepth 100000 in
theorem openA {v : Value} {d : DataW H} {p : List MemPlace} (hj : DataW.Trod enc Try.prog W 0 (fun _ => true) true 56 v d p) (hv : Value.okWide Try.prog W .any base 56 v) :
    ∃ A n c l, v = .slice A n c ∧ RdA W A n l ∧ n ≤ c ∧ (∀ a ∈ l, ActB a) ∧ (c = 0 ∨ ∃ es sp, d = .slice es sp ∧ es.length + sp.length = c) := by
  obtain ⟨A, n, c, rfl⟩ := okWide_slice Try.underlying56 hv
  obtain ⟨fuel, hf⟩ := hj
  rcases Go.Deep.open_slice Try.underlying56 hf with ⟨hcs, _⟩ | ⟨a, len, cap, m, q, D, Pl, hcs, _, hl, hm, hmm, hx, hr⟩
  · simp [Value.cells] at hcs
    obtain ⟨rfl, rfl, rfl⟩ := hcs
    exact ⟨none, 0, 0, [], rfl, Rd.nil_, Nat.le_refl _, by simp, .inl rfl⟩
  · simp [Value.cells] at hcs
    obtain ⟨rfl, rfl, rfl⟩ := hcs
    simp only [if_true] at hmm
    have hmc := hmm
    have each : ∀ i, i < n → ∃ x : ActN, ActB x ∧ ∀ j, j < 4 → W.cell? (a.add (i * 4 + j)) = (aCells x)[j]? := by
      intro i hi
      obtain ⟨cs', h1, h2⟩ := hr i (by omega)
      rw [try_cells71] at h1
      obtain ⟨x, rfl, hb⟩ := openAct h2
      refine ⟨x, hb, fun j hj => ?_⟩
      have := (World.cells?_some h1).2.2 j hj
      rw [add_add'] at this
      exact this
    obtain ⟨X, hX⟩ : ∃ X : Nat → ActN, ∀ i, i < n → ActB (X i) ∧ ∀ j, j < 4 → W.cell? (a.add (i * 4 + j)) = (aCells (X i))[j]? :=
      ⟨fun i => if h : i < n then Classical.choose (each i h) else ⟨0, (0, 0), 0⟩, fun i hi => by simp only [hi, dif_pos]; exact Classical.choose_spec (each i hi)⟩
    refine ⟨some a, n, c, (List.range n).map X, rfl, ⟨by rw [ac_length]; simp, fun hn => ⟨a, rfl, fun j u hu => ?_⟩⟩, hl, fun x hx => ?_, .inr ⟨_, _, (Prod.mk.inj hx).1, by simp; omega⟩⟩
    · have hjl : j < (ac ((List.range n).map X)).length := (List.getElem?_eq_some_iff.1 hu).1
      rw [ac_length] at hjl
      simp at hjl
      have hjn : j / 4 < n := by omega
      have hg : ((List.range n).map X)[j / 4]? = some (X (j / 4)) := by rw [List.getElem?_map, List.getElem?_range hjn]; rfl
      have := ac_get _ (j / 4) (j % 4) (by omega) hg
      rw [show j / 4 * 4 + j % 4 = j by omega] at this
      rw [this] at hu
      rw [← hu, ← (hX _ hjn).2 (j % 4) (by omega)]
      congr 2
      omega
    · simp at hx
      obtain ⟨i, hi, rfl⟩ := hx
      exact (hX i hi).1
end
end Go.Proofs.Ytkgdcglnkodgnaa
