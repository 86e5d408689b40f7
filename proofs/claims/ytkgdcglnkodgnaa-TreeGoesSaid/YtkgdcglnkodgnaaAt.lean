/-
  The walks of page.At, page.cut and the reference's At. No condition but sizes.
-/
import Derived.Test.YtkgdcglnkodgnaaAwake
namespace Go.Proofs.Ytkgdcglnkodgnaa
open Go.RowKit
/-- A page of a book: its data, the error. -/
def atP (b : List UInt8) (number : Int) (kind : UInt8) : List UInt8 × Nat :=
  if (count b.length).2 ≠ 0 then ([], (count b.length).2)
  else if number < 0 ∨ ((count b.length).1 : Int) ≤ number then ([], 1)
  else if (readP ((b.drop (256 * number.toNat)).take 256) number).2.2 ≠ 0 then ([], (readP ((b.drop (256 * number.toNat)).take 256) number).2.2)
  else if (readP ((b.drop (256 * number.toNat)).take 256) number).1 ≠ kind then ([], 191)
  else ((readP ((b.drop (256 * number.toNat)).take 256) number).2.1, 0)
/-- A call that answers bytes, and an error. -/
def RetA (w0 : World) (r : List UInt8 × Nat) (e : Ending) (w' : World) : Prop :=
  ∃ A n c, e = .returned (.tuple #[.slice A n c, .int .i64 (r.2 : Int)]) ∧ Rd8 w' A n r.1 ∧ n ≤ c ∧ Below w0.heap.size w0 w' ∧ (0 < n → ∀ ad, A = some ad → w0.heap.size ≤ ad.block)
theorem RetA.nil (w : World) (e : Nat) : RetA w ([], e) (.returned (.tuple #[.slice none 0 0, .int .i64 (e : Int)])) w := ⟨_, _, _, rfl, Rd8.nil_, Nat.le_refl _, Below.refl _ _, fun h => absurd h (by omega)⟩
theorem readP_bound (b : List UInt8) (number : Int) : (readP b number).2.2 ≤ 192 := by
  unfold readP
  split
  · simp
  · split
    · simp
    · split
      · simp
      · split <;> simp
set_option maxRecDepth 100000 in
set_option maxHeartbeats 1000000 in
theorem cut94 (A : Option Addr) (n c x : Nat) (l : List UInt8) (w : World) (h : Rd8 w A n l) (hn : n ≤ 4194304) (hnc : n ≤ c) (hx : 256 * x + 256 ≤ n) :
    Calls Try.prog 94 #[.slice A n c, .int .i64 x] w fun e w' => ∃ D, e = .returned (.slice D 256 256) ∧ Rd8 w D 256 ((l.drop (256 * x)).take 256) ∧ w' = w := by
  have HR := h.mid (a := 256 * x) (q := 256) (by omega)
  rw [Nat.mul_comm] at HR
  obtain ⟨ad, y, rfl, _, _⟩ := h.at_ (k := 0) (by omega)
  have hcx : ¬ c = x * 256 := by omega
  go_enter Try.func94, Try.ntmps94
  go_wp2_with fail
  go_ret
  have e256 : x * 256 + 256 - x * 256 = 256 := by omega
  rw [e256]
  exact ⟨_, rfl, by rw [Nat.mul_comm 256 x]; simpa using HR, rfl⟩
set_option maxRecDepth 100000 in
set_option maxHeartbeats 1000000 in
theorem at36 (A : Option Addr) (n c : Nat) (l : List UInt8) (number : Int) (kind : UInt8) (w : World) (h : Rd8 w A n l) (hn : n ≤ 140737488355328) (hnc : n ≤ c) (hlo : -9223372036854775808 ≤ number) (hhi : number ≤ 9223372036854775807) :
    Calls Try.prog 36 #[.slice A n c, .int .i64 number, .int .u8 (kind.toNat : Int)] w (RetA w (atP l number kind)) := by
  have HL := Hd.mk h.len
  obtain ⟨m, em, hcnt⟩ : ∃ m e, Hd (count l.length = (m, e)) := ⟨_, _, ⟨rfl⟩⟩
  have HA := Hd.mk (show atP l number kind = if em ≠ 0 then ([], em) else if number < 0 ∨ (m : Int) ≤ number then ([], 1)
    else if (readP ((l.drop (256 * number.toNat)).take 256) number).2.2 ≠ 0 then ([], (readP ((l.drop (256 * number.toNat)).take 256) number).2.2)
    else if (readP ((l.drop (256 * number.toNat)).take 256) number).1 ≠ kind then ([], 191)
    else ((readP ((l.drop (256 * number.toNat)).take 256) number).2.1, 0) by unfold atP; rw [hcnt.out])
  rw [HA.out]
  have hcn : Hd (count n = (m, em)) := ⟨by rw [← h.len]; exact hcnt.out⟩
  go_enter Try.func36, Try.ntmps36
  by_cases he : em = 0
  · subst he
    rw [if_neg (by simp)]
    obtain ⟨hn2, hm⟩ : n ≤ 4194304 ∧ 256 * m = n := by
      have := hcn.out
      unfold count at this
      split at this
      · cases this
      · split at this
        · cases this; omega
        · cases this
    by_cases h1 : number < 0
    · rw [if_pos (.inl h1)]
      go_wp2_with (go_at_call 34; refine (count34 A n c w hn).mono ?_; rw [hcn.out]; rintro e w' ⟨rfl, rfl⟩)
      go_ret2
      exact RetA.nil w 1
    · by_cases h2 : (m : Int) ≤ number
      · rw [if_pos (.inr h2)]
        go_wp2_with (go_at_call 34; refine (count34 A n c w hn).mono ?_; rw [hcn.out]; rintro e w' ⟨rfl, rfl⟩)
        go_ret2
        exact RetA.nil w 1
      · rw [if_neg (by omega)]
        obtain ⟨x, rfl⟩ := Int.eq_ofNat_of_zero_le (by omega : 0 ≤ number)
        obtain ⟨rk, rd, re, hre⟩ : ∃ rk rd re, Hd (readP ((l.drop (256 * x)).take 256) (x : Int) = (rk, rd, re)) := ⟨_, _, _, ⟨rfl⟩⟩
        rw [Int.toNat_natCast, hre.out]
        have hx1 : ¬ ((x : Int) < 0) := by omega
        have hx2 : ¬ ((x : Int) ≥ (m : Int)) := by omega
        clear h1 h2
        by_cases he : re = 0
        · subst he
          by_cases hk : rk = kind
          · subst hk
            have hkk : ((rk.toNat : Int) != (rk.toNat : Int)) = false := by simp
            rw [if_neg (by simp), if_neg (by simp)]
            go_wp2_with (first
              | (go_at_call 34; refine (count34 A n c w hn).mono ?_; rw [hcn.out]; rintro e w' ⟨rfl, rfl⟩)
              | (go_at_call 94; refine (cut94 A n c x l w h hn2 hnc (by omega)).mono ?_; rintro e w' ⟨D, rfl, hD, rfl⟩)
              | (go_at_call 29; refine (read29 (x : Int) D 256 256 _ _ hD (by omega) (by omega) (by omega) hhi).mono ?_; rw [hre.out]; rintro e w1 ⟨A1, n1, c1, rfl, hr1, hnc1, hb1, hf1⟩))
            go_ret2
            exact ⟨_, _, _, rfl, hr1, hnc1, hb1, hf1⟩
          · have hkk : ((rk.toNat : Int) != (kind.toNat : Int)) = true := by
              simp only [bne_iff_ne, ne_eq]
              intro e; exact hk (UInt8.toNat_inj.1 (by omega))
            rw [if_neg (by simp), if_pos hk]
            clear hk
            go_wp2_with (first
              | (go_at_call 34; refine (count34 A n c w hn).mono ?_; rw [hcn.out]; rintro e w' ⟨rfl, rfl⟩)
              | (go_at_call 94; refine (cut94 A n c x l w h hn2 hnc (by omega)).mono ?_; rintro e w' ⟨D, rfl, hD, rfl⟩)
              | (go_at_call 29; refine (read29 (x : Int) D 256 256 _ _ hD (by omega) (by omega) (by omega) hhi).mono ?_; rw [hre.out]; rintro e w1 ⟨A1, n1, c1, rfl, hr1, hnc1, hb1, hf1⟩))
            go_ret2
            exact ⟨_, _, _, rfl, Rd8.nil_, Nat.le_refl _, hb1, fun h => absurd h (by omega)⟩
        · have he0 : ((re : Int) != 0) = true := by simp; omega
          rw [if_pos he]
          clear he
          go_wp2_with (first
            | (go_at_call 34; refine (count34 A n c w hn).mono ?_; rw [hcn.out]; rintro e w' ⟨rfl, rfl⟩)
            | (go_at_call 94; refine (cut94 A n c x l w h hn2 hnc (by omega)).mono ?_; rintro e w' ⟨D, rfl, hD, rfl⟩)
            | (go_at_call 29; refine (read29 (x : Int) D 256 256 _ _ hD (by omega) (by omega) (by omega) hhi).mono ?_; rw [hre.out]; rintro e w1 ⟨A1, n1, c1, rfl, hr1, hnc1, hb1, hf1⟩))
          go_ret2
          exact ⟨_, _, _, rfl, Rd8.nil_, Nat.le_refl _, hb1, fun h => absurd h (by omega)⟩
  · have he0 : ((em : Int) != 0) = true := by simp; omega
    rw [if_pos he]
    go_wp2_with (go_at_call 34; refine (count34 A n c w hn).mono ?_; rw [hcn.out]; rintro e w' ⟨rfl, rfl⟩)
    go_ret2
    exact RetA.nil w em
set_option maxRecDepth 100000 in
set_option maxHeartbeats 1000000 in
theorem rat37 (A : Option Addr) (n c : Nat) (l : List UInt8) (number : Int) (kind : UInt8) (w : World) (h : Rd8 w A n l) (hn : n ≤ 140737488355328) (hnc : n ≤ c) (hlo : -9223372036854775808 ≤ number) (hhi : number ≤ 9223372036854775807) :
    Calls Try.prog 37 #[.slice A n c, .int .i64 number, .int .u8 (kind.toNat : Int)] w (RetA w (atP l number kind)) := by
  have HL := Hd.mk h.len
  obtain ⟨m, em, hcnt⟩ : ∃ m e, Hd (count l.length = (m, e)) := ⟨_, _, ⟨rfl⟩⟩
  have HA := Hd.mk (show atP l number kind = if em ≠ 0 then ([], em) else if number < 0 ∨ (m : Int) ≤ number then ([], 1)
    else if (readP ((l.drop (256 * number.toNat)).take 256) number).2.2 ≠ 0 then ([], (readP ((l.drop (256 * number.toNat)).take 256) number).2.2)
    else if (readP ((l.drop (256 * number.toNat)).take 256) number).1 ≠ kind then ([], 191)
    else ((readP ((l.drop (256 * number.toNat)).take 256) number).2.1, 0) by unfold atP; rw [hcnt.out])
  rw [HA.out]
  have hcn : Hd (count n = (m, em)) := ⟨by rw [← h.len]; exact hcnt.out⟩
  go_enter Try.func37, Try.ntmps37
  by_cases he : em = 0
  · subst he
    rw [if_neg (by simp)]
    obtain ⟨hn2, hm⟩ : n ≤ 4194304 ∧ 256 * m = n := by
      have := hcn.out
      unfold count at this
      split at this
      · cases this
      · split at this
        · cases this; omega
        · cases this
    by_cases h1 : number < 0
    · rw [if_pos (.inl h1)]
      go_wp2_with (go_at_call 35; refine (count35 _ n c w hn).mono ?_; rw [hcn.out]; rintro e w' ⟨rfl, rfl⟩)
      go_ret2
      exact RetA.nil w 1
    · by_cases h2 : (m : Int) ≤ number
      · rw [if_pos (.inr h2)]
        go_wp2_with (go_at_call 35; refine (count35 _ n c w hn).mono ?_; rw [hcn.out]; rintro e w' ⟨rfl, rfl⟩)
        go_ret2
        exact RetA.nil w 1
      · rw [if_neg (by omega)]
        obtain ⟨x, rfl⟩ := Int.eq_ofNat_of_zero_le (by omega : 0 ≤ number)
        obtain ⟨rk, rd, re, hre⟩ : ∃ rk rd re, Hd (readP ((l.drop (256 * x)).take 256) (x : Int) = (rk, rd, re)) := ⟨_, _, _, ⟨rfl⟩⟩
        rw [Int.toNat_natCast, hre.out]
        have hx1 : ¬ ((x : Int) < 0) := by omega
        have hx2 : ¬ ((x : Int) ≥ (m : Int)) := by omega
        have HR := h.mid (a := 256 * x) (q := 256) (by omega)
        obtain ⟨ad, y, rfl, _, _⟩ := h.at_ (k := 0) (by omega)
        have hcx : ¬ c = 256 * x := by omega
        have e256 : 256 * x + 256 - 256 * x = 256 := by omega
        simp only [Option.map_some] at HR
        clear h1 h2
        by_cases he : re = 0
        · subst he
          by_cases hk : rk = kind
          · subst hk
            have hkk : ((rk.toNat : Int) != (rk.toNat : Int)) = false := by simp
            rw [if_neg (by simp), if_neg (by simp)]
            go_wp2_with (first
              | (go_at_call 35; refine (count35 _ n c w hn).mono ?_; rw [hcn.out]; rintro e w' ⟨rfl, rfl⟩)
              | (go_at_call 30; refine (rread30 (x : Int) _ 256 (c - 256 * x) ((l.drop (256 * x)).take 256) _ HR (by omega) (by omega) (by omega) hhi).mono ?_; rw [hre.out]; rintro e w1 ⟨A1, n1, c1, rfl, hr1, hnc1, hb1, hf1⟩))
            go_ret2
            exact ⟨_, _, _, rfl, hr1, hnc1, hb1, hf1⟩
          · have hkk : ((rk.toNat : Int) != (kind.toNat : Int)) = true := by
              simp only [bne_iff_ne, ne_eq]
              intro e; exact hk (UInt8.toNat_inj.1 (by omega))
            rw [if_neg (by simp), if_pos hk]
            clear hk
            go_wp2_with (first
              | (go_at_call 35; refine (count35 _ n c w hn).mono ?_; rw [hcn.out]; rintro e w' ⟨rfl, rfl⟩)
              | (go_at_call 30; refine (rread30 (x : Int) _ 256 (c - 256 * x) ((l.drop (256 * x)).take 256) _ HR (by omega) (by omega) (by omega) hhi).mono ?_; rw [hre.out]; rintro e w1 ⟨A1, n1, c1, rfl, hr1, hnc1, hb1, hf1⟩))
            go_ret2
            exact ⟨_, _, _, rfl, Rd8.nil_, Nat.le_refl _, hb1, fun h => absurd h (by omega)⟩
        · have he0 : ((re : Int) != 0) = true := by simp; omega
          rw [if_pos he]
          clear he
          go_wp2_with (first
            | (go_at_call 35; refine (count35 _ n c w hn).mono ?_; rw [hcn.out]; rintro e w' ⟨rfl, rfl⟩)
            | (go_at_call 30; refine (rread30 (x : Int) _ 256 (c - 256 * x) ((l.drop (256 * x)).take 256) _ HR (by omega) (by omega) (by omega) hhi).mono ?_; rw [hre.out]; rintro e w1 ⟨A1, n1, c1, rfl, hr1, hnc1, hb1, hf1⟩))
          go_ret2
          exact ⟨_, _, _, rfl, Rd8.nil_, Nat.le_refl _, hb1, fun h => absurd h (by omega)⟩
  · have he0 : ((em : Int) != 0) = true := by simp; omega
    rw [if_pos he]
    go_wp2_with (go_at_call 35; refine (count35 _ n c w hn).mono ?_; rw [hcn.out]; rintro e w' ⟨rfl, rfl⟩)
    go_ret2
    exact RetA.nil w em
end Go.Proofs.Ytkgdcglnkodgnaa
