/-
  The walk of the law TreeSpoilt (function 14). No condition but sizes.
-/
import Derived.Test.YtkgdcglnkodgnaaLtreelow
import Derived.Test.YtkgdcglnkodgnaaSpoil
namespace Go.Proofs.Ytkgdcglnkodgnaa
open Go.RowKit
theorem laid_zero {kind : UInt8} {l : List Kp} {b : List UInt8} {root m : Int} (h : laidP kind l 0 0 = (b, root, m, true)) : buildK kind 0 l = (b, root, m, 0) := by
  unfold laidP at h
  have e : m5 0 = 0 := rfl
  rw [e] at h
  by_cases he : (buildK kind 0 l).2.2.2 ≠ 0
  · rw [if_pos he] at h; cases h
  · rw [if_neg he] at h
    obtain ⟨P, r, n, er, hX⟩ : ∃ P r n er, buildK kind 0 l = (P, r, n, er) := ⟨_, _, _, _, rfl⟩
    rw [hX] at h he ⊢
    have he : er = 0 := by simpa using he
    subst he
    simp only [Prod.mk.injEq, and_true] at h
    obtain ⟨h1, h2, h3⟩ := h
    simp [zeros] at h1
    rw [h1, h2, h3]
theorem norm_mod (n k : Int) (hk : 0 < k) : ∃ x : Nat, (n.tmod k + k).tmod k = (x : Int) ∧ (x : Int) < k ∧ -k < n.tmod k ∧ n.tmod k < k := by
  have h1 := Int.lt_tmod_of_pos n hk
  have h2 := Int.tmod_lt_of_pos n hk
  have h0 : 0 ≤ (n.tmod k + k).tmod k := Int.tmod_nonneg _ (by omega)
  have h3 := Int.tmod_lt_of_pos (n.tmod k + k) hk
  exact ⟨((n.tmod k + k).tmod k).toNat, by omega, by omega, by omega, h2⟩
set_option maxRecDepth 100000 in
set_option maxHeartbeats 2000000 in
theorem treeSpoilt14 (kind : UInt8) (A : Option Addr) (n c : Nat) (l : List Kp) (place : Int) (mask : UInt8) (key : ByteArray) (w : World) (h : RdK w A n l) (hn : n ≤ 5864062014805) (hsz : ∀ p ∈ l, p.1.size ≤ 9223372036854775807) :
    Calls Try.prog 14 #[.int .u8 (kind.toNat : Int), .slice A n c, .int .i64 place, .int .u8 (mask.toNat : Int), .string key] w fun e w' => e = .returned (.bool true) ∧ Below w.heap.size w w' := by
  have HR := Hd.mk h
  have HS := Hd.mk hsz
  obtain ⟨b, root, m, ok, hX⟩ : ∃ b root m ok, Hd (laidP kind l 0 0 = (b, root, m, ok)) := ⟨_, _, _, _, ⟨rfl⟩⟩
  clear h hsz
  go_enter Try.func14, Try.ntmps14
  go_wp2_with fail
  refine (awake64 w).mono ?_
  rintro e w1 ⟨rfl, hb1⟩
  have HB1 := Hd.mk hb1
  have HLd := Hd.mk (laid65 kind 0 0 A n c l w1 (Rd.below HR.out hb1) hn HS.out)
  rw [hX.out] at HLd
  clear hb1
  go_wp2_with fail
  refine HLd.out.mono ?_
  rintro e w2 ⟨A2, n2, c2, rfl, ho2, hb2⟩
  have HB2 := Hd.mk (HB1.out.trans (hb2.mono HB1.out.size))
  have HO2 := Hd.mk ho2
  clear ho2 hb2 HLd
  simp only at HO2
  cases ok
  · go_wp2_with fail
    go_ret
    exact ⟨rfl, HB2.out⟩
  · have hh := laid_held hX.out
    have hr0 := hh.2.2.1
    have hr1 := hh.2.2.2.1
    have hl2 := Own8.len HO2.out
    have hn2 : n2 ≤ 4194304 := by have := hh.2.2.2.2.1; omega
    have hn3 : 256 ≤ n2 := by have := hh.2.2.2.2.2.2; omega
    have HLN := Hd.mk hl2
    clear hl2
    have e1 : ((n2 : Int) == 0) = false := by simp; omega
    by_cases hmask : mask = 0
    · subst hmask
      have e2 : (((0 : UInt8).toNat : Int) == 0) = true := rfl
      clear hh
      go_wp2_with fail
      go_ret
      exact ⟨rfl, HB2.out⟩
    have e2 : ((mask.toNat : Int) == 0) = false := by
      simp only [beq_eq_false_iff_ne, ne_eq]
      intro e
      exact hmask (UInt8.toNat_inj.1 (by simpa using (by omega : mask.toNat = 0)))
    obtain ⟨o, ho1, ho2, hm1, hm2⟩ := norm_mod place (n2 : Int) (by omega)
    have hw1 : wrap64 (place.tmod (n2 : Int) + (n2 : Int)) = place.tmod (n2 : Int) + (n2 : Int) := by unfold wrap64; omega
    have hw2 : (wrap64 (place.tmod (n2 : Int) + (n2 : Int))).tmod (n2 : Int) = (o : Int) := by rw [hw1]; exact ho1
    have hon : o < n2 := by omega
    have hlaw := Hd.mk (spoilt_law (laid_zero hX.out) o (by rw [HLN.out]; exact hon) mask hmask key)
    have HBy := Hd.mk (bytes66 A2 n2 c2 b w2 (Own8.rd HO2.out) (by omega))
    clear hh hmask ho1 hm1 hm2 hw1
    have hnz : ¬ (n2 : Int) = 0 := by omega
    go_wp2_with fail
    refine HBy.out.mono ?_
    rintro e w3 ⟨A3, n3, c3, rfl, ho3, hb3⟩
    obtain rfl : n3 = n2 := by rw [← Own8.len ho3]; exact HLN.out
    have HB3 := Hd.mk (HB2.out.trans (hb3.mono HB2.out.size))
    obtain ⟨ad, x, rfl, hx, hc, hf, hbk⟩ := ho3.at_ (k := o) hon
    have hxd : b.getD o 0 = x := by rw [List.getD_eq_getElem?_getD, hx]; rfl
    rw [hxd] at hlaw
    have HS3 := Hd.mk (ho3.set_ (k := o) hon rfl (x ^^^ mask))
    have HG3 := Hd.mk (grown_set (w := w3) o (.int .u8 ((x ^^^ mask).toNat : Int)) hbk)
    have hnc3 := (Own8.le ho3).1
    have hlt3 := (Own8.lt ho3 hbk)
    have hxor := u8_xor_byte x mask
    have o1 : (0 : Int) ≤ (o : Int) := by omega
    have o2 : (o : Int) < (n3 : Int) := by omega
    have HR3 := Hd.mk (show RdK w3 A n l from Rd.below HR.out HB3.out)
    have HW4 := Hd.mk (show Below w.heap.size w (w3.setCell (ad.add o) (.int .u8 ((x ^^^ mask).toNat : Int))) from HB3.out.grown HG3.out HB3.out.size (fun k e => by
      rw [hbk] at e; injection e with e; have := hlt3.1; have := HB2.out.size; omega))
    have hbound := HLN.out
    rw [show (x ^^^ mask).toNat = x.toNat ^^^ mask.toNat from UInt8.toNat_xor ..] at HS3 HG3 HW4
    clear hb3 HBy ho3 hx hxd HG3
    go_wp2_with fail
    generalize w3.setCell (ad.add o) (.int .u8 ((x.toNat ^^^ mask.toNat : Nat) : Int)) = w4 at HS3 HW4 ⊢
    obtain ⟨mk, er, hck⟩ : ∃ mk er, Hd (checkP (b.set o (x ^^^ mask)) kind root = (mk, er)) := ⟨_, _, ⟨rfl⟩⟩
    obtain ⟨fv, fi, fe, hfd⟩ : ∃ fv fi fe, Hd (findP (b.set o (x ^^^ mask)) kind root key = (fv, fi, fe)) := ⟨_, _, _, ⟨rfl⟩⟩
    have hlaw2 := hlaw.out
    rw [hck.out, hfd.out] at hlaw2
    obtain ⟨hl1, hl3⟩ := hlaw2
    have k1 : ((er : Int) == 0) = false := by simp; exact hl1
    have HC4 := Hd.mk (check67 (some ad) n3 c3 _ kind root w4 (Own8.rd HS3.out) (by omega) hnc3 (fun ad' e => by
      injection e with e; subst e; exact (Own8.lt HS3.out hbk).2) (by omega) (by omega))
    rw [hck.out] at HC4
    refine HC4.out.mono ?_
    rintro e w5 ⟨rfl, hb5⟩
    have HW5 := Hd.mk (HW4.out.trans (hb5.mono HW4.out.size))
    have HF5 := Hd.mk (find68 (some ad) n3 c3 _ kind root key w5 (Rd8.below (Own8.rd HS3.out) hb5) (by omega) hnc3 (by omega) (by omega))
    rw [hfd.out] at HF5
    clear hb5 HC4 hlaw hl1 hbk
    go_wp2_with fail
    refine HF5.out.mono ?_
    rintro e w6 ⟨rfl, hb6⟩
    have HW6 := Hd.mk (HW5.out.trans (hb6.mono HW5.out.size))
    have HA6 := Hd.mk (at69 A n c l key w6 (Rd.below HR.out HW6.out) hn)
    clear hb6 HF5
    go_wp2_with fail
    refine HA6.out.mono ?_
    rintro e w7 ⟨rfl, rfl⟩
    rcases hl3 with h5 | h5
    · have k2 : ((fe : Int) != 0) = true := by simp; exact h5
      clear h5
      go_wp2_with fail
      go_ret
      exact ⟨rfl, HW6.out⟩
    · simp only [Prod.mk.injEq] at h5
      obtain ⟨rfl, rfl, rfl⟩ := h5
      go_wp2_with fail
      go_ret
      exact ⟨rfl, HW6.out⟩
end Go.Proofs.Ytkgdcglnkodgnaa
