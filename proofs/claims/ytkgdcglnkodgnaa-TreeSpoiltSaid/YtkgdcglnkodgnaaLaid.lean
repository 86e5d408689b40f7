/-
  The laws of layer 20: a tree laid in a book with pages of zeros about it. No condition but sizes.
-/
import Derived.Test.YtkgdcglnkodgnaaAwk
namespace Go.Proofs.Ytkgdcglnkodgnaa
open Go.RowKit
def m5 (a : Int) : Int := Int.tmod (Int.tmod a 5 + 5) 5
theorem m5_bound (a : Int) : 0 ≤ m5 a ∧ m5 a ≤ 4 := by
  unfold m5
  have h1 : -5 < Int.tmod a 5 := Int.lt_tmod_of_pos a (by omega)
  have h2 := Int.tmod_nonneg (a := Int.tmod a 5 + 5) 5 (by omega)
  have h3 := Int.tmod_lt_of_pos (Int.tmod a 5 + 5) (show (0 : Int) < 5 by omega)
  omega
/-- A book laid. -/
def laidP (kind : UInt8) (l : List Kp) (a z : Int) : List UInt8 × Int × Int × Bool :=
  if (buildK kind (m5 a) l).2.2.2 ≠ 0 then ([], 0, 0, false)
  else (zeros (256 * (m5 a).toNat) ++ (buildK kind (m5 a) l).1 ++ zeros (256 * (m5 z).toNat), (buildK kind (m5 a) l).2.1, (buildK kind (m5 a) l).2.2.1, true)
def RetLd (w : World) (r : List UInt8 × Int × Int × Bool) (e : Ending) (w' : World) : Prop :=
  ∃ A n c, e = .returned (.tuple #[.slice A n c, .int .i64 r.2.1, .int .i64 r.2.2.1, .bool r.2.2.2]) ∧ Own8 w' w.heap.size A n c r.1 ∧ Below w.heap.size w w'
set_option maxRecDepth 100000 in
set_option maxHeartbeats 1000000 in
theorem laid65 (kind : UInt8) (a z : Int) (A : Option Addr) (n c : Nat) (l : List Kp) (w : World) (h : RdK w A n l) (hn : n ≤ 5864062014805)
    (hsz : ∀ p ∈ l, p.1.size ≤ 9223372036854775807) :
    Calls Try.prog 65 #[.int .u8 (kind.toNat : Int), .slice A n c, .int .i64 a, .int .i64 z] w (RetLd w (laidP kind l a z)) := by
  obtain ⟨p, hp⟩ : ∃ p : Nat, Hd (m5 a = (p : Int)) := ⟨(m5 a).toNat, ⟨by have := m5_bound a; omega⟩⟩
  obtain ⟨q, hq⟩ : ∃ q : Nat, Hd (m5 z = (q : Int)) := ⟨(m5 z).toNat, ⟨by have := m5_bound z; omega⟩⟩
  have hp4 : p ≤ 4 := by have := m5_bound a; have := hp.out; omega
  have hq4 : q ≤ 4 := by have := m5_bound z; have := hq.out; omega
  have hwp : (wrap64 (a.tmod 5 + 5)).tmod 5 = (p : Int) := by
    have h1 : -5 < Int.tmod a 5 := Int.lt_tmod_of_pos a (by omega)
    have h2 : Int.tmod a 5 < 5 := Int.tmod_lt_of_pos a (by omega)
    rw [show wrap64 (a.tmod 5 + 5) = a.tmod 5 + 5 by unfold wrap64; omega]
    exact hp.out
  have hwq : (wrap64 (z.tmod 5 + 5)).tmod 5 = (q : Int) := by
    have h1 : -5 < Int.tmod z 5 := Int.lt_tmod_of_pos z (by omega)
    have h2 : Int.tmod z 5 < 5 := Int.tmod_lt_of_pos z (by omega)
    rw [show wrap64 (z.tmod 5 + 5) = z.tmod 5 + 5 by unfold wrap64; omega]
    exact hq.out
  obtain ⟨P, root, m, er, hX⟩ : ∃ P root m er, Hd (buildK kind (p : Int) l = (P, root, m, er)) := ⟨_, _, _, _, ⟨rfl⟩⟩
  have hres : Hd (laidP kind l a z = if er ≠ 0 then ([], 0, 0, false) else (zeros (256 * p) ++ P ++ zeros (256 * q), root, m, true)) := ⟨by unfold laidP; rw [hp.out, hq.out, hX.out]; simp⟩
  have HT := Hd.mk (twin62 A n c l w h (by omega))
  have HB : ∀ A1 n1 c1 w1, OwnK w1 w.heap.size A1 n1 c1 l → Hd (Calls Try.prog 61 #[.int .u8 (kind.toNat : Int), .int .i64 (p : Int), .slice A1 n1 c1] w1 (RetB w1 (P, root, m, er))) := fun A1 n1 c1 w1 ho => ⟨by
    have hl := OwnK.len ho
    have hl' := RdK.len h
    have := build61 kind (p : Int) A1 n1 c1 l w1 (Own.rd ho) (fun h0 ad e => ?_) (by omega) (by omega) (by omega) hsz
    · rw [hX.out] at this; exact this
    · have hc : c1 ≠ 0 := by have := ho.2.1; omega
      exact (Own.lt ho (g := ad.block) (by simp [ownBlk, hc, e])).2⟩
  go_enter Try.func65, Try.ntmps65
  go_wp2_with fail
  refine HT.out.mono ?_
  rintro e w1 ⟨A1, n1, c1, rfl, ho, hb⟩
  have HB1 := Hd.mk hb
  have HC := HB A1 n1 c1 w1 ho
  clear ho hb HT HB
  go_wp2_with fail
  refine HC.out.mono ?_
  rintro e w2 ⟨A2, n2, c2, rfl, ho2, hb2⟩
  have HB2 := Hd.mk (HB1.out.trans (hb2.mono HB1.out.size))
  have HO2 := Hd.mk (Own8.mono ho2 HB1.out.size)
  clear ho2 hb2 HC
  simp only at HO2
  by_cases he : er ≠ 0
  · have e1 : ((er : Int) != 0) = true := by simp; omega
    have hr1 : Hd (laidP kind l a z = ([], 0, 0, false)) := ⟨by rw [hres.out, if_pos he]⟩
    clear he hres
    go_wp2_with fail
    ((try simp only [Exit.inBlock, Exit.then]); refine bodyPost_ret (results_tmp4 rfl _ _ _) rfl ?_)
    rw [hr1.out]
    exact ⟨_, _, _, rfl, Own8.nil_ _ _ _, HB2.out⟩
  · have he0 : er = 0 := by omega
    subst he0
    have hr1 : Hd (laidP kind l a z = (zeros (256 * p) ++ P ++ zeros (256 * q), root, m, true)) := ⟨by rw [hres.out, if_neg (by simp)]⟩
    have hbt := built hX.out q hq4 (by omega)
    have hn2 : n2 ≤ 4096000 := by have h1 := Own8.len HO2.out; rw [hbt.2.2.1] at h1; have := hbt.2.2.2.1; omega
    clear he hres hbt
    go_wp2_with (first
      | (at_make; refine wl_make8 rfl _ _ rfl rfl rfl (n := 256 * p) (c := 256 * p) (by omega) (by omega) (Nat.le_refl _) (by omega) (base := w.heap.size) HB2.out.size ?_; intro w4 ho4 hb4; have HB4 := Hd.mk (HB2.out.trans (hb4.mono HB2.out.size)); have HO4 := Hd.mk (Own8.below HO2.out hb4))
      | (at_builtin; first
          | (refine wl_app8 rfl (.tmp 39) (.tmp 40) rfl rfl rfl ho4 (Own8.rd HO4.out) (by omega) HB4.out.size ?_; rintro v w5 ⟨A5, c5, rfl, ho5, hg5, _⟩; have HB5 := Hd.mk (below_app HB4.out HB4.out.size ho4 hg5))
          | (refine wl_appz8 (m := 256 * q) rfl (.tmp 42) (.tmp 44) rfl rfl rfl (by omega) ho5 (by omega) HB5.out.size ?_; rintro v w6 ⟨A6, c6, rfl, ho6, hg6, _⟩; have HB6 := Hd.mk (below_app HB5.out HB5.out.size ho5 hg6))))
    ((try simp only [Exit.inBlock, Exit.then]); refine bodyPost_ret (results_tmp4 rfl _ _ _) rfl ?_)
    rw [hr1.out]
    exact ⟨_, _, _, rfl, ho6, HB6.out⟩
end Go.Proofs.Ytkgdcglnkodgnaa
