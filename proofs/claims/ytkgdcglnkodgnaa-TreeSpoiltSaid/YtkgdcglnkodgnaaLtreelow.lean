/-
  The walk of the law TreeLow (function 15). No condition but sizes.
-/
import Derived.Test.YtkgdcglnkodgnaaLaid
namespace Go.Proofs.Ytkgdcglnkodgnaa
open Go.RowKit
/-- What was laid is held. -/
theorem laid_held {kind : UInt8} {l : List Kp} {a z : Int} {b : List UInt8} {root m : Int} (h : laidP kind l a z = (b, root, m, true)) :
    Held b kind root l ∧ 1 ≤ m ∧ 0 ≤ root ∧ root ≤ 16000 ∧ b.length ≤ 4194304 ∧ l.length ≤ 20000 ∧ 256 ≤ b.length := by
  unfold laidP at h
  by_cases he : (buildK kind (m5 a) l).2.2.2 ≠ 0
  · rw [if_pos he] at h; cases h
  · rw [if_neg he] at h
    obtain ⟨P, r, n, er, hX⟩ : ∃ P r n er, buildK kind (m5 a) l = (P, r, n, er) := ⟨_, _, _, _, rfl⟩
    rw [hX] at h he
    have he : er = 0 := by simpa using he
    subst he
    simp only [Prod.mk.injEq, and_true] at h
    obtain ⟨h1, h2, h3⟩ := h
    have ha := m5_bound a
    have hz := m5_bound z
    have hb := built hX (m5 z).toNat (by omega) (by omega)
    rw [h1, h2, h3] at hb
    obtain ⟨b1, b2, b3, b4, b5, b6, _⟩ := hb
    refine ⟨b6, b2, by omega, by omega, ?_, ?_, ?_⟩
    · rw [← h1]; simp only [List.length_append, zeros_length, b3]; omega
    · unfold buildK at hX
      by_cases hl : 20000 < l.length
      · rw [if_pos hl] at hX
        injection hX with _ hX
        injection hX with _ hX
        injection hX with _ hX
        cases hX
      · omega
    · rw [← h1]; simp only [List.length_append, zeros_length, b3]; omega
theorem laid_none {kind : UInt8} {l : List Kp} {a z : Int} {b : List UInt8} {root m : Int} (h : laidP kind l a z = (b, root, m, false)) : b = [] ∧ root = 0 := by
  unfold laidP at h
  by_cases he : (buildK kind (m5 a) l).2.2.2 ≠ 0
  · rw [if_pos he] at h; cases h; exact ⟨rfl, rfl⟩
  · rw [if_neg he] at h; cases h
set_option maxRecDepth 100000 in
set_option maxHeartbeats 1000000 in
theorem treeLow15 (kind : UInt8) (A : Option Addr) (n c : Nat) (l : List Kp) (w : World) (h : RdK w A n l) (hn : n ≤ 5864062014805) (hsz : ∀ p ∈ l, p.1.size ≤ 9223372036854775807) :
    Calls Try.prog 15 #[.int .u8 (kind.toNat : Int), .slice A n c] w fun e w' => e = .returned (.bool true) ∧ Below w.heap.size w w' := by
  have HL := Hd.mk h.len
  have HR := Hd.mk h
  have HS := Hd.mk hsz
  obtain ⟨b, root, m, ok, hX⟩ : ∃ b root m ok, Hd (laidP kind l 0 0 = (b, root, m, ok)) := ⟨_, _, _, _, ⟨rfl⟩⟩
  clear h hsz
  go_enter Try.func15, Try.ntmps15
  go_wp2_with fail
  refine (awake64 w).mono ?_
  rintro e w1 ⟨rfl, hb1⟩
  have HB1 := Hd.mk hb1
  have HLd := Hd.mk (laid65 kind 0 0 A n c l w1 (Rd.below HR.out hb1) hn HS.out)
  rw [hX.out] at HLd
  clear hb1
  go_wp2_with fail
  refine HLd.out.mono ?_
  rintro e w2 ⟨A2, n2, c2, rfl, ho2, hb2⟩
  have HB2 := Hd.mk (HB1.out.trans (hb2.mono HB1.out.size))
  have HO2 := Hd.mk ho2
  clear ho2 hb2 HLd
  simp only at HO2
  cases ok
  · go_wp2_with fail
    go_ret
    exact ⟨rfl, HB2.out⟩
  · have hh := laid_held hX.out
    have HH := Hd.mk hh.1
    obtain ⟨d, hd1, hd2, hd3, hd4⟩ := hh.1.depth
    have hr0 := hh.2.2.1
    have hr1 := hh.2.2.2.1
    have hn2 : n2 ≤ 4194304 := by have := Own8.len HO2.out; have := hh.2.2.2.2.1; omega
    have hl2 : n ≤ 20000 := by have := HL.out; have := hh.2.2.2.2.2.1; omega
    have HD := Hd.mk hd1
    have HD4 := Hd.mk hd4
    clear hh hd1 hd4
    have HBy := Hd.mk (bytes66 A2 n2 c2 b w2 (Own8.rd HO2.out) (by omega))
    go_wp2_with fail
    refine HBy.out.mono ?_
    rintro e w3 ⟨A3, n3, c3, rfl, ho3, hb3⟩
    have HB3 := Hd.mk (HB2.out.trans (hb3.mono HB2.out.size))
    have HDp := Hd.mk (depth70 A3 n3 c3 b kind root w3 (Own8.rd ho3) (by have := Own8.len ho3; have := Own8.len HO2.out; omega) (Own8.le ho3).1 (by omega) (by omega))
    rw [HD.out] at HDp
    clear ho3 hb3 HBy
    go_wp2_with fail
    refine HDp.out.mono ?_
    rintro e w4 ⟨rfl, hb4⟩
    have HB4 := Hd.mk (HB3.out.trans (hb4.mono HB3.out.size))
    clear hb4 HDp
    go_wp2_with fail
    go_loopw [11, 12] (fun kv qv wr => ∃ (k q : Nat), kv = .int .i64 (k : Int) ∧ qv = .int .i64 (q : Int) ∧ Hd (q = 3 ^ k) ∧ k ≤ 10 ∧ q ≤ 60000 ∧ 1 ≤ q ∧ wr = w4) (fun _ qv _ => n - (intOf qv).toNat)
    case atStart => exact ⟨0, 1, rfl, rfl, ⟨rfl⟩, by omega, by omega, by omega, rfl⟩
    case round =>
      obtain ⟨k, q, rfl, rfl, hq, hk, hq6, hq1, rfl⟩ := hrel
      by_cases hlt : q < n
      · have hk9 : k ≤ 9 := by
          rcases Nat.lt_or_ge 9 k with h1 | h1
          · have h2 : (3 : Nat) ^ 10 ≤ 3 ^ k := Nat.pow_le_pow_right (by omega) h1
            have h3 : (3 : Nat) ^ 10 = 59049 := by decide
            have := hq.out
            omega
          · exact h1
        have e1 : (q : Int) < (n : Int) := by omega
        have e2 : IntKind.i64.wrap ((q : Int) * 3) = (q : Int) * 3 := by rw [IntKind.wrap_i64]; omega
        have hq3 : Hd (q * 3 = 3 ^ (k + 1)) := ⟨by rw [Nat.pow_succ, hq.out]⟩
        go_wp2_with fail
        go_roundw
        case rel => exact ⟨k + 1, q * 3, by go_num, by go_num, hq3, by omega, by omega, by omega, trivial⟩
        case measure => simp [intOf]; omega
      · have e1 : ¬ ((q : Int) < (n : Int)) := by omega
        have hdk : d ≤ 1 + k := HD4.out k (by rw [HL.out, ← hq.out]; omega) (by omega)
        have e2 : (d : Int) ≥ 1 := by omega
        have e3 : (d : Int) ≤ 1 + (k : Int) := by omega
        have e4 : (d : Int) ≤ 12 := by omega
        have e5 : IntKind.i64.wrap (1 + (k : Int)) = 1 + (k : Int) := by rw [IntKind.wrap_i64]; omega
        go_wp2_with fail
        go_ret
        exact ⟨rfl, HB4.out⟩
end Go.Proofs.Ytkgdcglnkodgnaa
