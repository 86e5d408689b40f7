-- Law PageMakes, walked (function 3).
import Derived.Test.YtkgdcglnkodgnaaAwake
namespace Go.Proofs.Ytkgdcglnkodgnaa
open Go.RowKit
theorem Rd8.grownFresh {w w' : World} {A : Option Addr} {n base : Nat} {l : List UInt8} {row : Option Nat} (h : Rd8 w A n l) (hf : 0 < n → ∀ ad, A = some ad → base ≤ ad.block) (hg : w.grownBy w' row) (hr : ∀ r, row = some r → r < base) : Rd8 w' A n l := by
  refine ⟨h.1, fun hn => ?_⟩
  obtain ⟨ad, hA, hc⟩ := h.2 hn
  refine ⟨ad, hA, fun j u hu => hg.cell (hc j u hu) ?_⟩
  intro e
  have h1 := hr _ e.symm
  have h2 := hf hn ad hA
  rw [block_add] at h1
  omega
set_option maxRecDepth 100000 in
set_option maxHeartbeats 1000000 in
theorem pageMakes3 (kind : UInt8) (number : Int) (A : Option Addr) (n c : Nat) (l : List UInt8) (B : Option Addr) (m d : Nat) (k : List UInt8) (w : World) (h : Rd8 w A n l) (hn : n ≤ 140737488355328) (hnc : n ≤ c)
    (h' : Rd8 w B m k) (hm : m ≤ 140737488355328) (hmd : m ≤ d) (hlo : -9223372036854775808 ≤ number) (hhi : number ≤ 9223372036854775807) :
    Calls Try.prog 3 #[.int .u8 (kind.toNat : Int), .int .i64 number, .slice A n c, .slice B m d] w fun e w' => e = .returned (.bool true) ∧ Below w.heap.size w w' := by
  have HL := Hd.mk h.len
  have HL' := Hd.mk h'.len
  obtain ⟨sl, se, hse⟩ : ∃ sl se, Hd (make kind number l = (sl, se)) := ⟨_, _, ⟨rfl⟩⟩
  obtain ⟨rk, rd, re, hre⟩ : ∃ rk rd re, Hd (readP k number = (rk, rd, re)) := ⟨_, _, _, ⟨rfl⟩⟩
  go_enter Try.func3, Try.ntmps3
  go_wp2_with (go_at_call 23; refine (awake23 _).mono ?_; rintro e w1 ⟨rfl, hb1⟩)
  refine (twin24 A n c l w1 (h.below hb1) hn).mono ?_
  rintro e w2 ⟨M, mm, mc, rfl, ho2, hb2⟩
  obtain rfl : mm = n := by rw [← ho2.len, HL.out]
  have hb12 : Below w.heap.size w w2 := hb1.trans (hb2.mono hb1.size)
  go_wp2_with fail
  refine (make25 kind number M mm mc l w2 ho2.rd).mono ?_
  rw [hse.out]
  rintro e w3 ⟨A3, n3, c3, rfl, ho3, hb3⟩
  have hb13 : Below w.heap.size w w3 := hb12.trans (hb3.mono hb12.size)
  have ho23 := ho2.below hb3
  go_wp2_with fail
  refine (spoil26 M mm mc _ l w3 ho23 hn).mono ?_
  rintro e w4 ⟨rfl, ho4, hg4⟩
  have hb14 : Below w.heap.size w w4 := hb13.grown hg4 hb13.size (fun r hr => by have := (ho2.lt hr).1; have := hb1.size; omega)
  have ho34 := ho3.grown hg4 (fun r hr e => by have h1 := (ho3.lt hr).1; have h2 := (ho2.lt e).2; omega)
  go_wp2_with fail
  refine (rmake27 kind number A mm c l w4 (h.below hb14)).mono ?_
  rw [hse.out]
  rintro e w5 ⟨A5, n5, c5, rfl, ho5, hb5⟩
  have hb15 : Below w.heap.size w w5 := hb14.trans (hb5.mono hb14.size)
  go_wp2_with fail
  refine (same28 A3 A5 n3 c3 n5 c5 _ _ w5 (ho34.rd.below hb5) ho5.rd).mono ?_
  rw [show (sl == sl) = true by simp]
  rintro e w6 ⟨rfl, rfl⟩
  have hsee : ((se : Int) != (se : Int)) = false := by simp
  go_wp2_with fail
  refine (twin24 B m d k w5 (h'.below hb15) hm).mono ?_
  rintro e w6 ⟨M6, m6, mc6, rfl, ho6, hb6⟩
  obtain rfl : m6 = m := by rw [← ho6.len, HL'.out]
  have hb16 : Below w.heap.size w w6 := hb15.trans (hb6.mono hb15.size)
  go_wp2_with fail
  refine (read29 number M6 m6 mc6 k w6 ho6.rd hm (Own8.le ho6).1 hlo hhi).mono ?_
  rw [hre.out]
  rintro e w7 ⟨A7, n7, c7, rfl, hr7, hnc7, hb7, hfr7⟩
  have hb17 : Below w.heap.size w w7 := hb16.trans (hb7.mono hb16.size)
  have ho67 := ho6.below hb7
  go_wp2_with fail
  refine (spoil26 M6 m6 mc6 _ k w7 ho67 hm).mono ?_
  rintro e w8 ⟨rfl, ho8, hg8⟩
  have hb18 : Below w.heap.size w w8 := hb17.grown hg8 hb17.size (fun r hr => by have := (ho6.lt hr).1; have := hb15.size; omega)
  have hr78 : Rd8 w8 A7 n7 rd := hr7.grownFresh hfr7 hg8 (fun r hr => (ho6.lt hr).2)
  go_wp2_with fail
  refine (rread30 number B m6 d k w8 (h'.below hb18) hm hmd hlo hhi).mono ?_
  rw [hre.out]
  rintro e w9 ⟨A9, n9, c9, rfl, hr9, hnc9, hb9, hfr9⟩
  have hb19 : Below w.heap.size w w9 := hb18.trans (hb9.mono hb18.size)
  have hkk : ((rk.toNat : Int) != (rk.toNat : Int)) = false := by simp
  have hrr : ((re : Int) != (re : Int)) = false := by simp
  go_wp2_with fail
  refine (same28 A7 A9 n7 c7 n9 c9 _ _ w9 (hr78.below hb9) hr9).mono ?_
  rw [show (rd == rd) = true by simp]
  rintro e w10 ⟨rfl, rfl⟩
  by_cases he0 : re = 0
  · subst he0
    obtain ⟨hn0, hn32, hdl, hk⟩ := make_read k number rk rd hre.out
    obtain ⟨x, rfl⟩ := Int.eq_ofNat_of_zero_le hn0
    have HK := Hd.mk hk
    clear hk hn32
    by_cases hn16 : x < 16384
    · have HMK := Hd.mk (make_ok rk x rd hn16 hdl)
      have hxi : (x : Int) < 16384 := by omega
      go_wp2_with fail
      refine (make25 rk x A7 n7 c7 rd w9 (hr78.below hb9)).mono ?_
      rw [HMK.out]
      rintro e w11 ⟨A11, n11, c11, rfl, ho11, hb11⟩
      have hb111 : Below w.heap.size w w11 := hb19.trans (hb11.mono hb19.size)
      go_wp2_with fail
      refine (same28 A11 B n11 c11 m6 d _ k w11 ho11.rd (h'.below hb111)).mono ?_
      have HKK := HK.out
      rw [Int.toNat_natCast] at HKK
      rw [show (mkPage rk x rd == k) = true by rw [HKK]; simp]
      rintro e w12 ⟨rfl, rfl⟩
      clear HKK
      go_wp2
      go_ret
      exact ⟨rfl, hb111⟩
    · have hxi : (16384 : Int) ≤ (x : Int) := by omega
      go_wp2
      go_ret
      exact ⟨rfl, hb19⟩
  · have hre0 : ((re : Int) != 0) = true := by simp; omega
    clear he0
    go_wp2
    go_ret
    exact ⟨rfl, hb19⟩
end Go.Proofs.Ytkgdcglnkodgnaa
