/-
  Numbers of seven bits a byte: plain laws (what is put is read; what reads is what would be put). No condition but sizes.
-/
import Derived.Test.YtkgdcglnkodgnaaCur
namespace Go.Proofs.Ytkgdcglnkodgnaa
/-- A number's bytes. -/
def putU (n : Nat) : List UInt8 := if h : n < 128 then [UInt8.ofNat n] else UInt8.ofNat (n % 128 + 128) :: putU (n / 128)
termination_by n
decreasing_by omega
theorem putU_small {n : Nat} (h : n < 128) : putU n = [UInt8.ofNat n] := by rw [putU, dif_pos h]
theorem putU_big {n : Nat} (h : ¬ n < 128) : putU n = UInt8.ofNat (n % 128 + 128) :: putU (n / 128) := by rw [putU, dif_neg h]
/-- The number that stands ahead: its value, its bytes, the error. -/
def numU (i acc : Nat) : List UInt8 → Nat × Nat × Nat
  | [] => (0, 0, 30)
  | x :: r => if 9 < i ∨ (i = 9 ∧ 1 < x.toNat) then (0, 0, 31) else if x.toNat < 128 then (if x.toNat = 0 ∧ 0 < i then (0, 0, 31) else (acc + x.toNat * 128 ^ i, i + 1, 0)) else numU (i + 1) (acc + (x.toNat - 128) * 128 ^ i) r
theorem numU_put : ∀ (n i acc : Nat) (r : List UInt8), n * 128 ^ i < 18446744073709551616 → (i = 0 ∨ 0 < n) → numU i acc (putU n ++ r) = (acc + n * 128 ^ i, i + (putU n).length, 0) := by
  intro n
  induction n using Nat.strongRecOn with
  | _ n ih =>
    intro i acc r hn hi
    have hi10 : i ≤ 9 ∧ (i = 9 → n ≤ 1) := by
      rcases hi with h0 | h0
      · omega
      · have h1 : 128 ^ i < 18446744073709551616 := by
          refine Nat.lt_of_le_of_lt ?_ hn
          exact Nat.le_mul_of_pos_left _ h0
        have h9 : i ≤ 9 := by
          rcases Nat.lt_or_ge 9 i with h | h
          · have : (128 : Nat) ^ 10 ≤ 128 ^ i := Nat.pow_le_pow_right (by omega) h
            omega
          · exact h
        refine ⟨h9, fun e => ?_⟩
        subst e
        omega
    by_cases hs : n < 128
    · rw [putU_small hs]
      have hx : (UInt8.ofNat n).toNat = n := by simp; omega
      simp only [List.cons_append, List.nil_append, numU, hx, List.length_cons, List.length_nil]
      rw [if_neg (by omega), if_pos hs, if_neg (by omega)]
    · have hx : (UInt8.ofNat (n % 128 + 128)).toNat = n % 128 + 128 := by simp; omega
      have hp : n / 128 * 128 ^ (i + 1) ≤ n * 128 ^ i := by
        rw [Nat.pow_succ, Nat.mul_comm (128 ^ i) 128, ← Nat.mul_assoc]
        exact Nat.mul_le_mul_right _ (by omega)
      have h9 : i < 9 := by
        rcases Nat.lt_or_ge i 9 with h | h
        · exact h
        · have := hi10.2 (by omega); omega
      have hr := ih (n / 128) (by omega) (i + 1) (acc + (n % 128 + 128 - 128) * 128 ^ i) r (by omega) (.inr (by omega))
      rw [putU_big hs]
      simp only [List.cons_append, numU, hx, List.length_cons]
      rw [if_neg (by omega), if_neg (by omega), hr]
      have e : acc + (n % 128 + 128 - 128) * 128 ^ i + n / 128 * 128 ^ (i + 1) = acc + n * 128 ^ i := by
        rw [Nat.pow_succ, Nat.mul_comm (128 ^ i) 128, ← Nat.mul_assoc, Nat.add_assoc, ← Nat.add_mul]
        congr 2
        omega
      rw [e]
      congr 2
      omega
set_option maxRecDepth 100000 in
/-- What reads is what would be put. -/
theorem numU_ok : ∀ (l : List UInt8) (i acc v k : Nat), numU i acc l = (v, k, 0) → ∃ n, v = acc + n * 128 ^ i ∧ k = i + (putU n).length ∧ l.take (k - i) = putU n ∧ n * 128 ^ i < 18446744073709551616 ∧ k ≤ i + l.length ∧ (0 < i → 0 < n)
  | [], i, acc, v, k, h => by simp [numU] at h
  | x :: r, i, acc, v, k, h => by
    have hb : x.toNat < 256 := UInt8.toNat_lt x
    unfold numU at h
    by_cases h1 : 9 < i ∨ (i = 9 ∧ 1 < x.toNat)
    · rw [if_pos h1] at h; simp at h
    rw [if_neg h1] at h
    by_cases h2 : x.toNat < 128
    · rw [if_pos h2] at h
      by_cases h3 : x.toNat = 0 ∧ 0 < i
      · rw [if_pos h3] at h; simp at h
      rw [if_neg h3] at h
      injection h with hv h
      injection h with hk _
      have hof : UInt8.ofNat x.toNat = x := by simp
      refine ⟨x.toNat, hv.symm, by rw [putU_small h2]; simp; omega, by rw [putU_small h2, hof, ← hk, show i + 1 - i = 1 by omega]; rfl, ?_, by simp; omega, fun hi => by omega⟩
      by_cases h9 : i = 9
      · subst h9
        have : x.toNat ≤ 1 := by omega
        omega
      · have hp : (128 : Nat) ^ i ≤ 128 ^ 8 := Nat.pow_le_pow_right (by omega) (by omega)
        have : x.toNat * 128 ^ i ≤ 127 * 128 ^ 8 := Nat.mul_le_mul (by omega) hp
        omega
    · rw [if_neg h2] at h
      obtain ⟨n, hv, hk, ht, hb2, hl, hp⟩ := numU_ok r (i + 1) _ v k h
      have hn := hp (by omega)
      have hb3 : ¬ (n * 128 + (x.toNat - 128) < 128) := by omega
      have hmod : (n * 128 + (x.toNat - 128)) % 128 + 128 = x.toNat := by omega
      have hdiv : (n * 128 + (x.toNat - 128)) / 128 = n := by omega
      have hpu : putU (n * 128 + (x.toNat - 128)) = x :: putU n := by
        rw [putU_big hb3, hmod, hdiv]
        simp
      have hmul : (n * 128 + (x.toNat - 128)) * 128 ^ i = n * 128 ^ (i + 1) + (x.toNat - 128) * 128 ^ i := by
        rw [Nat.add_mul, Nat.pow_succ, Nat.mul_comm (128 ^ i) 128, Nat.mul_assoc]
      refine ⟨n * 128 + (x.toNat - 128), by rw [hmul, hv]; omega, by rw [hpu, hk]; simp; omega, ?_, ?_, by simp; omega, fun _ => by omega⟩
      · rw [hpu]
        have e : k - i = (k - (i + 1)) + 1 := by rw [hk]; omega
        rw [e, List.take_succ_cons, ht]
      · rw [hmul]
        have h9 : i ≤ 8 := by
          rcases Nat.lt_or_ge i 9 with h | h
          · omega
          · have hi9 : i = 9 := by omega
            subst hi9
            have : (128 : Nat) ^ 10 ≤ n * 128 ^ 10 := Nat.le_mul_of_pos_left _ hn
            omega
        have hp9 : (128 : Nat) ^ i * 128 ^ (9 - i - 1 + 1) = 128 ^ 9 := by rw [← Nat.pow_add]; congr 1; omega
        have hx : (x.toNat - 128) * 128 ^ i < 128 ^ (i + 1) := by
          rw [Nat.pow_succ, Nat.mul_comm (128 ^ i) 128]
          exact Nat.mul_lt_mul_of_pos_right (by omega) (Nat.pow_pos (by omega))
        -- both sides are multiples of 128^(i+1) up to the lower digit
        have hdvd : ∃ q, 18446744073709551616 = q * 128 ^ (i + 1) := by
          have : i = 0 ∨ i = 1 ∨ i = 2 ∨ i = 3 ∨ i = 4 ∨ i = 5 ∨ i = 6 ∨ i = 7 ∨ i = 8 := by omega
          rcases this with rfl | rfl | rfl | rfl | rfl | rfl | rfl | rfl | rfl
          · exact ⟨144115188075855872, by decide⟩
          · exact ⟨1125899906842624, by decide⟩
          · exact ⟨8796093022208, by decide⟩
          · exact ⟨68719476736, by decide⟩
          · exact ⟨536870912, by decide⟩
          · exact ⟨4194304, by decide⟩
          · exact ⟨32768, by decide⟩
          · exact ⟨256, by decide⟩
          · exact ⟨2, by decide⟩
        obtain ⟨q, hq⟩ := hdvd
        rw [hq] at hb2 ⊢
        have hnq : n < q := Nat.lt_of_mul_lt_mul_right hb2
        have : (n + 1) * 128 ^ (i + 1) ≤ q * 128 ^ (i + 1) := Nat.mul_le_mul_right _ hnq
        rw [Nat.add_mul] at this
        omega
/-- A number taken. -/
def uintC (s : CS) : Nat × CS :=
  if s.err ≠ 0 then (0, s) else if (numU 0 0 (s.l.drop s.at')).2.2 ≠ 0 then (0, { s with err := (numU 0 0 (s.l.drop s.at')).2.2 })
  else ((numU 0 0 (s.l.drop s.at')).1, { s with at' := s.at' + (numU 0 0 (s.l.drop s.at')).2.1 })
/-- A number below a limit. -/
def indexC (s : CS) (lim : Nat) : Nat × CS :=
  if (uintC s).2.err ≠ 0 then (0, (uintC s).2) else if lim ≤ (uintC s).1 then (0, { s with err := 1 }) else uintC s
/-- Bytes with their number ahead. -/
def bytesC (s : CS) (lim : Nat) : List UInt8 × CS :=
  if (uintC s).2.err ≠ 0 then ([], (uintC s).2) else if lim < (uintC s).1 then ([], { s with err := 2 })
  else if (s.l.length - (uintC s).2.at') < (uintC s).1 then ([], { s with err := 30 }) else takeC (uintC s).2 ((uintC s).1 : Int)
theorem numU_bound (l : List UInt8) (i acc : Nat) : (numU i acc l).2.1 ≤ i + l.length ∧ (numU i acc l).2.2 ≤ 31 := by
  induction l generalizing i acc with
  | nil => simp [numU]
  | cons x r ih =>
    unfold numU
    split
    · simp
    · split
      · split
        · simp
        · simp
      · have := ih (i + 1) (acc + (x.toNat - 128) * 128 ^ i)
        simp only [List.length_cons]
        omega
theorem numU_lt (l : List UInt8) : (numU 0 0 l).1 < 18446744073709551616 := by
  obtain ⟨v, k, e, h⟩ : ∃ v k e, numU 0 0 l = (v, k, e) := ⟨_, _, _, rfl⟩
  rw [h]
  by_cases he : e = 0
  · subst he
    obtain ⟨n, hv, _, _, hb, _⟩ := numU_ok l 0 0 v k h
    simp at hv hb
    omega
  · have : ∀ (l : List UInt8) (i acc : Nat), (numU i acc l).2.2 ≠ 0 → (numU i acc l).1 = 0 := by
      intro l
      induction l with
      | nil => intro i acc _; simp [numU]
      | cons x r ih =>
        intro i acc
        unfold numU
        split
        · simp
        · split
          · split
            · simp
            · simp
          · exact ih _ _
    have := this l 0 0 (by rw [h]; exact he)
    rw [h] at this
    simp at this
    omega
end Go.Proofs.Ytkgdcglnkodgnaa
