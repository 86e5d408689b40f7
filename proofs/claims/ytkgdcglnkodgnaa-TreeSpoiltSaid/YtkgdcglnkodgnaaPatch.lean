/-
  Four bytes side by side that are changed: plain laws. No condition.
-/
import Derived.Test.YtkgdcglnkodgnaaCrc
namespace Go.Proofs.Ytkgdcglnkodgnaa
theorem xorL_get : ∀ (l m : List UInt8) (i : Nat), l.length = m.length → (xorL l m)[i]? = (l[i]?).bind fun a => (m[i]?).map fun b => a ^^^ b
  | [], [], i, _ => by simp [xorL]
  | a :: l, b :: m, 0, _ => by simp [xorL]
  | a :: l, b :: m, i + 1, h => by
    simp only [xorL, List.getElem?_cons_succ]
    exact xorL_get l m i (by simpa using h)
/-- Bytes changed from place a on. -/
def patch (l : List UInt8) (a : Nat) (d : List UInt8) : List UInt8 := l.mapIdx fun i x => x ^^^ (if a ≤ i then d.getD (i - a) 0 else 0)
theorem patch_length (l : List UInt8) (a : Nat) (d : List UInt8) : (patch l a d).length = l.length := by simp [patch]
theorem patch_get (l : List UInt8) (a : Nat) (d : List UInt8) (i : Nat) : (patch l a d)[i]? = (l[i]?).map fun x => x ^^^ (if a ≤ i then d.getD (i - a) 0 else 0) := by
  simp [patch, List.getElem?_mapIdx]
theorem patch_nil (l : List UInt8) (a : Nat) : patch l a [] = l := by
  apply List.ext_getElem?
  intro i
  rw [patch_get]
  simp
theorem patch_step (l : List UInt8) (a : Nat) (d : List UInt8) (k : Nat) (x y : UInt8) (hx : l[a + k]? = some x) (hy : d[k]? = some y) :
    (patch l a (d.take k))[a + k]? = some x ∧ patch l a (d.take (k + 1)) = (patch l a (d.take k)).set (a + k) (x ^^^ y) := by
  have hkd : k < d.length := (List.getElem?_eq_some_iff.1 hy).1
  have hdk : (d.take k).length = k := by rw [List.length_take]; omega
  constructor
  · rw [patch_get, hx, if_pos (by omega)]
    have e : (d.take k)[k]? = none := List.getElem?_eq_none (by omega)
    simp [List.getD_eq_getElem?_getD, e]
  · apply List.ext_getElem?
    intro i
    rw [List.getElem?_set, patch_get, patch_get]
    by_cases hi : a + k = i
    · subst hi
      have hl : a + k < (patch l a (d.take k)).length := by rw [patch_length]; exact (List.getElem?_eq_some_iff.1 hx).1
      rw [if_pos rfl, if_pos hl, hx, if_pos (by omega), show a + k - a = k by omega]
      simp [List.getD_eq_getElem?_getD, hy]
    · rw [if_neg hi]
      congr 1
      funext z
      congr 1
      by_cases ha : a ≤ i
      · rw [if_pos ha, if_pos ha]
        simp only [List.getD_eq_getElem?_getD, List.getElem?_take]
        by_cases h1 : i - a < k
        · rw [if_pos h1, if_pos (by omega)]
        · rw [if_neg h1, if_neg (by omega)]
      · rw [if_neg ha, if_neg ha]
theorem patch_xorL (l : List UInt8) (a z : Nat) (d : List UInt8) (h : a + d.length + z = l.length) : patch l a d = xorL l (zeros a ++ d ++ zeros z) := by
  have hz : ∀ n, (zeros n).length = n := fun n => by simp [zeros]
  have hl : l.length = (zeros a ++ d ++ zeros z).length := by simp only [List.length_append, hz]; omega
  apply List.ext_getElem?
  intro i
  rw [patch_get, xorL_get l _ i hl]
  by_cases hi : i < l.length
  · rw [List.getElem?_eq_getElem hi]
    have hg : (zeros a ++ d ++ zeros z)[i]? = some (if a ≤ i then d.getD (i - a) 0 else 0) := by
      by_cases ha : a ≤ i
      · rw [if_pos ha, List.append_assoc, List.getElem?_append_right (by rw [hz]; exact ha), hz]
        by_cases hd : i - a < d.length
        · rw [List.getElem?_append_left hd, List.getD_eq_getElem?_getD, List.getElem?_eq_getElem hd]; rfl
        · rw [List.getElem?_append_right (by omega), List.getD_eq_getElem?_getD, List.getElem?_eq_none (l := d) (by omega)]
          simp only [zeros, List.getElem?_replicate]
          rw [if_pos (by omega)]; rfl
      · rw [if_neg ha, List.append_assoc, List.getElem?_append_left (by rw [hz]; omega)]
        simp only [zeros, List.getElem?_replicate]
        rw [if_pos (by omega)]
    rw [hg]
    rfl
  · rw [List.getElem?_eq_none (by omega)]; rfl
/-- A burst over bytes and their sum is seen. -/
theorem burst_seen (m c d : List UInt8) (a : Nat) (hm : m.length = 252) (hc : c.length = 4) (hd : d.length = 4) (hne : d ≠ [0, 0, 0, 0]) (ha : a ≤ 252) (hs : leN c = crc m) :
    leN ((patch (m ++ c) a d).drop 252) ≠ crc ((patch (m ++ c) a d).take 252) := by
  rw [patch_xorL (m ++ c) a (252 - a) d (by rw [List.length_append]; omega)]
  have := crc_burst m c d a (252 - a) hc hd hne (by omega) hs
  rw [hm] at this
  exact this
end Go.Proofs.Ytkgdcglnkodgnaa
