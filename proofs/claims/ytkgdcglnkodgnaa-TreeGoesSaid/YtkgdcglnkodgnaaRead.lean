/-
  The walk of layer 19's Read (page). No condition but sizes.
-/
import Derived.Test.YtkgdcglnkodgnaaRcur
import Derived.Test.YtkgdcglnkodgnaaPage
namespace Go.Proofs.Ytkgdcglnkodgnaa
open Go.RowKit
/-- Read's answer: kind, data, error. -/
def readP (b : List UInt8) (number : Int) : UInt8 × List UInt8 × Nat :=
  if b.length ≠ 256 then (0, [], 192)
  else if leN (b.drop 252) ≠ crc (b.take 252) then (0, [], 190)
  else if number < 0 ∨ (leN ((b.drop 1).take 4) : Int) ≠ number ∨ 246 < (b.getD 5 0).toNat then (0, [], 192)
  else if ((b.drop (6 + (b.getD 5 0).toNat)).take (246 - (b.getD 5 0).toNat)).all (· == 0) = false then (0, [], 192)
  else (b.getD 0 0, (b.drop 6).take (b.getD 5 0).toNat, 0)
theorem takeC_ok (l : List UInt8) (a q r : Nat) (i : Int) (hi : i = q) (hr : a + q = r) (h : r ≤ l.length) : takeC ⟨l, a, 0⟩ i = ((l.drop a).take q, ⟨l, r, 0⟩) := by
  subst hi; subst hr
  unfold takeC
  rw [if_neg (by simp), if_neg (by omega), if_neg (by simp; omega)]
  simp
theorem leN_one (l : List UInt8) (a : Nat) (h : a < l.length) : leN ((l.drop a).take 1) = (l.getD a 0).toNat := by
  rw [List.drop_eq_getElem_cons h]
  have : (l[a] :: l.drop (a + 1)).take 1 = [l[a]] := rfl
  rw [this, List.getD_eq_getElem?_getD, List.getElem?_eq_getElem h]
  simp [leN]
theorem below_drewN {B : Nat} {a w : World} (h : Below B a w) (k : Nat) : Below B a (w.drewN k) := ⟨h.os, h.tape, h.output, h.size, h.block⟩
/-- A call that answers a page's kind and data, and an error. -/
def RetR (w0 : World) (r : UInt8 × List UInt8 × Nat) (e : Ending) (w' : World) : Prop :=
  ∃ A n c, e = .returned (.tuple #[.int .u8 (r.1.toNat : Int), .slice A n c, .int .i64 (r.2.2 : Int)]) ∧ Rd8 w' A n r.2.1 ∧ n ≤ c ∧ Below w0.heap.size w0 w' ∧ (0 < n → ∀ ad, A = some ad → w0.heap.size ≤ ad.block)
theorem below_cur {w0 w w' : World} {g : Nat} (hb : Below w0.heap.size w0 w) (hg : w.grownBy w' (some g)) (h : w0.heap.size ≤ g) : Below w0.heap.size w0 w' :=
  hb.grown hg hb.size (by intro k hk; injection hk with hk; omega)
set_option maxRecDepth 100000 in
set_option maxHeartbeats 4000000 in
theorem read29 (number : Int) (A : Option Addr) (n c : Nat) (l : List UInt8) (w : World) (h : Rd8 w A n l) (hn : n ≤ 140737488355328) (hnc : n ≤ c) (hlo : -9223372036854775808 ≤ number) (hhi : number ≤ 9223372036854775807) :
    Calls Try.prog 29 #[.slice A n c, .int .i64 number] w (RetR w (readP l number)) := by
  have HL := Hd.mk h.len
  by_cases hn256 : n = 256
  · subst hn256
    have hlen := HL.out
    have T0 := Hd.mk (takeC_ok l 0 1 1 1 rfl rfl (by omega))
    have T1 := Hd.mk (takeC_ok l 1 4 5 4 rfl rfl (by omega))
    have T5 := Hd.mk (takeC_ok l 5 1 6 1 rfl rfl (by omega))
    have T6 := Hd.mk (takeC_ok l 6 246 252 246 rfl rfl (by omega))
    have T252 := Hd.mk (takeC_ok l 252 4 256 4 rfl rfl (by omega))
    obtain ⟨k0, L0, E0⟩ : ∃ x : UInt8, Hd (leN ((l.drop 0).take 1) = x.toNat) ∧ Hd (l.getD 0 0 = x) := ⟨_, ⟨leN_one l 0 (by omega)⟩, ⟨rfl⟩⟩
    obtain ⟨k5, L5, E5⟩ : ∃ x : UInt8, Hd (leN ((l.drop 5).take 1) = x.toNat) ∧ Hd (l.getD 5 0 = x) := ⟨_, ⟨leN_one l 5 (by omega)⟩, ⟨rfl⟩⟩
    obtain ⟨t1, E1, ht1⟩ : ∃ x : Nat, Hd (leN ((l.drop 1).take 4) = x) ∧ (x : Int) ≤ 4294967295 := ⟨_, ⟨rfl⟩, by
      have h1 := leN_lt ((l.drop 1).take 4)
      have h2 : ((l.drop 1).take 4).length = 4 := by rw [List.length_take, List.length_drop]; omega
      rw [h2] at h1; omega⟩
    obtain ⟨t4, E4⟩ : ∃ x : Nat, Hd (leN ((l.drop 252).take 4) = x) := ⟨_, ⟨rfl⟩⟩
    have E4' := Hd.mk (show leN (l.drop 252) = t4 by rw [← E4.out, List.take_of_length_le (by rw [List.length_drop]; omega)])
    have hb5 : ((k5.toNat : Nat) : Int) < 256 := by have := byte_lt k5; omega
    have hb0 : ((k0.toNat : Nat) : Int) < 256 := by have := byte_lt k0; omega
    have HC := Hd.mk (show readP l number = if t4 ≠ crc (l.take 252) then (0, [], 190)
      else if number < 0 ∨ (t1 : Int) ≠ number ∨ 246 < k5.toNat then (0, [], 192)
      else if ((l.drop (6 + k5.toNat)).take (246 - k5.toNat)).all (· == 0) = false then (0, [], 192)
      else (k0, (l.drop 6).take k5.toNat, 0) by
        unfold readP
        rw [if_neg (by omega), E4'.out, E1.out, E5.out, E0.out])
    obtain ⟨cr, ECR⟩ : ∃ x : Nat, Hd (crc (l.take 252) = x) := ⟨_, ⟨rfl⟩⟩
    clear hlen
    have hcases : t4 = cr ∨ t4 ≠ cr := by omega
    rcases hcases with hs | hs
    · have hsb : ((t4 : Int) != (cr : Int)) = false := by simp; omega
      rw [if_neg (by rw [ECR.out]; omega)] at HC
      clear hs
      go_enter Try.func29, Try.ntmps29
      go_wp2_with (go_at_call 88; refine (new88 _ _ _ l _ h (by omega)).mono ?_; rintro e w1 ⟨g, rfl, hg, hc1, hb1⟩)
      refine (byte89 g _ w1 hc1).mono ?_
      rw [T0.out, L0.out]
      rintro e w2 ⟨rfl, hc2, hg2⟩
      have hb2 := below_cur hb1 hg2 hg
      go_wp2_with fail
      refine (take32_90 g _ w2 hc2).mono ?_
      rw [T1.out, E1.out]
      rintro e w3 ⟨rfl, hc3, hg3⟩
      have hb3 := below_cur hb2 hg3 hg
      go_wp2_with fail
      refine (byte89 g _ w3 hc3).mono ?_
      rw [T5.out, L5.out]
      rintro e w4 ⟨rfl, hc4, hg4⟩
      have hb4 := below_cur hb3 hg4 hg
      go_wp2_with fail
      refine (take91 g _ 246 w4 hc4 (by omega) (by omega)).mono ?_
      rw [T6.out]
      rintro e w5 ⟨A5, n5, c5, rfl, ho5, hc5, hg5⟩
      have hb5' := below_cur hb4 hg5 hg
      obtain rfl : n5 = 246 := by rw [← ho5.len, List.length_take, List.length_drop, HL.out]; omega
      have hle5 := (Own8.le ho5).1
      go_wp2_with fail
      go_region_with (first
        | (go_at_call 90; refine (take32_90 g _ _ hc5.drew).mono ?_; rw [T252.out, E4.out]; rintro e w6 ⟨rfl, hc6, hg6⟩; have hb6 := below_cur hb5'.drew hg6 hg)
        | (go_at_call 85; refine (sum85 _ _ _ _ _ ((h.take (k := 252) (by omega)).below hb6) (by omega)).mono ?_; rw [ECR.out]; rintro e w7 ⟨rfl, rfl⟩))
      all_goals
        have ho6 := ho5.drew.grown hg6 (fun r hr e => by have h1 := (ho5.lt hr).1; have h2 := hc4.lt; injection e with e; omega)
        have hr6 := ho6.rd
        have HFR : Hd (∀ ad, A5 = some ad → w.heap.size ≤ ad.block) := ⟨by
          intro ad hA
          have hbk : ownBlk A5 c5 = some ad.block := by
            have := (Own8.le ho5).1
            simp [ownBlk, hA, show c5 ≠ 0 by omega]
          have h1 := (ho5.lt hbk).1
          have h2 := hb4.size
          omega⟩
        clear hc1 hb1 hc2 hg2 hb2 hc3 hg3 hb3 hc4 hg4 hb4 hc5 hg5 hb5' hg6 hc6 ho5 ho6
        by_cases h1 : number < 0
        · rw [if_pos (.inl h1)] at HC
          go_wp2
          go_ret3
          rw [HC.out]
          exact ⟨_, _, _, rfl, Rd8.nil_, Nat.le_refl _, hb6, fun h => absurd h (Nat.lt_irrefl 0)⟩
        · have h1' : 0 ≤ number := by omega
          by_cases h2 : (t1 : Int) = number
          · by_cases h3 : 246 < k5.toNat
            · rw [if_pos (.inr (.inr h3))] at HC
              subst h2
              have h3' : (246 : Int) < (k5.toNat : Int) := by omega
              clear h1 h3
              go_wp2
              go_ret3
              rw [HC.out]
              exact ⟨_, _, _, rfl, Rd8.nil_, Nat.le_refl _, hb6, fun h => absurd h (Nat.lt_irrefl 0)⟩
            · rw [if_neg (by omega)] at HC
              subst h2
              obtain ⟨m, hm⟩ : ∃ m : Nat, m = k5.toNat := ⟨_, rfl⟩
              rw [← hm] at HC h3 hb5
              have HM := Hd.mk hm
              have h3' : (m : Int) ≤ 246 := by omega
              have hrd := hr6.drop (a := m) (m := c5) (by omega) (by omega)
              have hrt := hr6.take (k := m) (by omega)
              have E1' : ((l.drop 6).take 246).drop m = (l.drop (6 + m)).take (246 - m) := by rw [List.drop_take, List.drop_drop]
              have E2' : ((l.drop 6).take 246).take m = (l.drop 6).take m := by rw [List.take_take, Nat.min_eq_left (by omega)]
              rw [E1'] at hrd
              rw [E2'] at hrt
              clear E1' E2' h1 h3 hr6
              rw [← hm]
              clear hm
              obtain ⟨D, hD⟩ : ∃ D, (if c5 = m then A5 else Option.map (fun x => x.add m) A5) = D := ⟨_, rfl⟩
              rw [hD] at hrd
              go_wp2
              clear hD
              have HDL := Hd.mk hrd.len
              go_loop [51, 13] (fun i _ => ∃ k : Nat, k ≤ 246 - m ∧ i = .int .i64 k ∧ ((l.drop (6 + m)).take (246 - m)).take k = zeros k) (fun i _ => 246 - m - (intOf i).toNat)
              case atStart => exact ⟨0, Nat.zero_le _, rfl, rfl⟩
              case round =>
                obtain ⟨k, hk, rfl, hz⟩ := hrel
                have HZ := Hd.mk hz
                clear hz
                by_cases hlt : k < 246 - m
                · obtain ⟨ad, x, rfl, hx, hcell⟩ := hrd.at_ hlt
                  have hxl := byte_lt x
                  have HX := Hd.mk hx
                  clear hx
                  by_cases hx0 : x = 0
                  · subst hx0
                    go_wp2
                    go_round
                    case rel => exact ⟨k + 1, by omega, by go_num, by rw [take_snoc8 HX.out, HZ.out, zeros_snoc]⟩
                    case measure => simp [intOf]; omega
                  · have hxb : ((x.toNat : Int) != 0) = true := by
                      simp only [bne_iff_ne, ne_eq]
                      intro e
                      apply hx0
                      rw [← UInt8.toNat_inj]
                      simp; omega
                    go_wp2
                    go_ret3
                    rw [HC.out, if_pos]
                    · exact ⟨_, _, _, rfl, Rd8.nil_, Nat.le_refl _, hb6, fun h => absurd h (Nat.lt_irrefl 0)⟩
                    · rw [List.all_eq_false]
                      exact ⟨x, List.mem_of_getElem? HX.out, by simpa using hx0⟩
                · obtain rfl : k = 246 - m := by omega
                  have HZ2 := HZ.out
                  rw [List.take_of_length_le (by rw [HDL.out]; omega)] at HZ2
                  rw [if_neg (by rw [HZ2]; simp [zeros])] at HC
                  clear HZ2
                  go_wp2
                  go_quiet (fail)
                  go_wp2
                  go_ret3
                  rw [HC.out]
                  exact ⟨_, _, _, rfl, hrt, by omega, below_drewN hb6 _, fun _ => HFR.out⟩
          · have h2b : ((t1 : Int) != number) = true := by simp; omega
            rw [if_pos (.inr (.inl h2))] at HC
            clear h1 h2
            go_wp2
            go_ret3
            rw [HC.out]
            exact ⟨_, _, _, rfl, Rd8.nil_, Nat.le_refl _, hb6, fun h => absurd h (Nat.lt_irrefl 0)⟩
    · have hsb : ((t4 : Int) != (cr : Int)) = true := by simp; omega
      rw [if_pos (by rw [ECR.out]; exact hs)] at HC
      clear hs
      go_enter Try.func29, Try.ntmps29
      go_wp2_with (go_at_call 88; refine (new88 _ _ _ l _ h (by omega)).mono ?_; rintro e w1 ⟨g, rfl, hg, hc1, hb1⟩)
      refine (byte89 g _ w1 hc1).mono ?_
      rw [T0.out, L0.out]
      rintro e w2 ⟨rfl, hc2, hg2⟩
      have hb2 := below_cur hb1 hg2 hg
      go_wp2_with fail
      refine (take32_90 g _ w2 hc2).mono ?_
      rw [T1.out, E1.out]
      rintro e w3 ⟨rfl, hc3, hg3⟩
      have hb3 := below_cur hb2 hg3 hg
      go_wp2_with fail
      refine (byte89 g _ w3 hc3).mono ?_
      rw [T5.out, L5.out]
      rintro e w4 ⟨rfl, hc4, hg4⟩
      have hb4 := below_cur hb3 hg4 hg
      go_wp2_with fail
      refine (take91 g _ 246 w4 hc4 (by omega) (by omega)).mono ?_
      rw [T6.out]
      rintro e w5 ⟨A5, n5, c5, rfl, ho5, hc5, hg5⟩
      have hb5' := below_cur hb4 hg5 hg
      obtain rfl : n5 = 246 := by rw [← ho5.len, List.length_take, List.length_drop, HL.out]; omega
      have hle5 := (Own8.le ho5).1
      go_wp2_with fail
      go_region_with (first
        | (go_at_call 90; refine (take32_90 g _ _ hc5.drew).mono ?_; rw [T252.out, E4.out]; rintro e w6 ⟨rfl, hc6, hg6⟩; have hb6 := below_cur hb5'.drew hg6 hg)
        | (go_at_call 85; refine (sum85 _ _ _ _ _ ((h.take (k := 252) (by omega)).below hb6) (by omega)).mono ?_; rw [ECR.out]; rintro e w7 ⟨rfl, rfl⟩))
      all_goals
        go_wp2
        go_ret3
        rw [HC.out]
        exact ⟨_, _, _, rfl, Rd8.nil_, Nat.le_refl _, hb6, fun h => absurd h (Nat.lt_irrefl 0)⟩
  · have e : readP l number = (0, [], 192) := if_pos (by rw [HL.out]; exact hn256)
    rw [e]
    have hb : ((n : Int) != 256) = true := by simp; omega
    clear e hn256
    go_enter Try.func29, Try.ntmps29
    go_wp2
    go_ret3
    exact ⟨_, _, _, rfl, Rd8.nil_, Nat.le_refl _, Below.refl _ _, fun h => absurd h (Nat.lt_irrefl 0)⟩
end Go.Proofs.Ytkgdcglnkodgnaa
