/-
  The walk of the reference's Read (folioref19). No condition but sizes.
-/
import Derived.Test.YtkgdcglnkodgnaaRead
namespace Go.Proofs.Ytkgdcglnkodgnaa
open Go.RowKit
theorem Rd8.getD {w : World} {A : Option Addr} {n : Nat} {l : List UInt8} (h : Rd8 w A n l) {k : Nat} (hk : k < n) : ∃ ad, A = some ad ∧ w.cell? (ad.add k) = some (.int .u8 ((l.getD k 0).toNat : Int)) := by
  obtain ⟨ad, x, hA, hx, hc⟩ := h.at_ hk
  refine ⟨ad, hA, ?_⟩
  rw [List.getD_eq_getElem?_getD, hx]
  exact hc
set_option maxRecDepth 100000 in
set_option maxHeartbeats 8000000 in
theorem rread30 (number : Int) (A : Option Addr) (n c : Nat) (l : List UInt8) (w : World) (h : Rd8 w A n l) (hn : n ≤ 140737488355328) (hnc : n ≤ c) (hlo : -9223372036854775808 ≤ number) (hhi : number ≤ 9223372036854775807) :
    Calls Try.prog 30 #[.slice A n c, .int .i64 number] w (RetR w (readP l number)) := by
  have HL := Hd.mk h.len
  by_cases hn256 : n = 256
  · subst hn256
    have hlen := HL.out
    obtain ⟨k0, E0⟩ : ∃ x : UInt8, Hd (l.getD 0 0 = x) := ⟨_, ⟨rfl⟩⟩
    obtain ⟨k5, E5⟩ : ∃ x : UInt8, Hd (l.getD 5 0 = x) := ⟨_, ⟨rfl⟩⟩
    obtain ⟨t1, E1, ht1⟩ : ∃ x : Nat, Hd (leN ((l.drop 1).take 4) = x) ∧ (x : Int) ≤ 4294967295 := ⟨_, ⟨rfl⟩, by
      have h1 := leN_lt ((l.drop 1).take 4)
      have h2 : ((l.drop 1).take 4).length = 4 := by rw [List.length_take, List.length_drop]; omega
      rw [h2] at h1; omega⟩
    obtain ⟨t4, E4, ht4⟩ : ∃ x : Nat, Hd (leN (l.drop 252) = x) ∧ (x : Int) ≤ 4294967295 := ⟨_, ⟨rfl⟩, by
      have h1 := leN_lt (l.drop 252)
      have h2 : (l.drop 252).length = 4 := by rw [List.length_drop]; omega
      rw [h2] at h1; omega⟩
    obtain ⟨cr, ECR, hcr⟩ : ∃ x : Nat, Hd (crc (l.take 252) = x) ∧ (x : Int) ≤ 4294967295 := ⟨_, ⟨rfl⟩, by have := crc_lt (l.take 252); omega⟩
    have HC := Hd.mk (show readP l number = if t4 ≠ cr then (0, [], 190)
      else if number < 0 ∨ (t1 : Int) ≠ number ∨ 246 < k5.toNat then (0, [], 192)
      else if ((l.drop (6 + k5.toNat)).take (246 - k5.toNat)).all (· == 0) = false then (0, [], 192)
      else (k0, (l.drop 6).take k5.toNat, 0) by
        unfold readP
        rw [if_neg (by omega), E4.out, E1.out, E5.out, E0.out, ECR.out])
    obtain ⟨ad, hA, hcell0⟩ := h.getD (k := 0) (by omega)
    subst hA
    obtain ⟨ad', hA, hcell5⟩ := h.getD (k := 5) (by omega)
    injection hA with hA; subst hA
    rw [E5.out] at hcell5
    rw [E0.out] at hcell0
    have hb5 : ((k5.toNat : Nat) : Int) < 256 := by have := byte_lt k5; omega
    have hwr : IntKind.u64.wrap (cr : Int) = (cr : Int) := IntWalk.u64_in _ (by omega)
    have hr252 : Rd8 w (if c = 252 then some ad else (some ad).map (·.add 252)) 4 (l.drop 252) := h.drop (a := 252) (m := c) (by omega) (by omega)
    have hr0 := h.take (k := 252) (by omega)
    have hr1 := h.mid (a := 1) (q := 4) (by omega)
    clear hlen
    have hcases : t4 = cr ∨ t4 ≠ cr := by omega
    rcases hcases with hs | hs
    · have hsb : ((t4 : Int) != (cr : Int)) = false := by simp; omega
      rw [if_neg (by omega)] at HC
      clear hs
      go_enter Try.func30, Try.ntmps30
      go_wp2_with fail
      obtain ⟨D, hD⟩ : ∃ D, (if c = 252 then some ad else some { block := ad.block, off := ad.off + 252 }) = D := ⟨_, rfl⟩
      have hr252' : Rd8 w D 4 (l.drop 252) := by rw [← hD]; simpa [Addr.add] using hr252
      go_region_with (first
        | (go_at_call 92; refine (low92 _ 4 _ (l.drop 252) _ hr252'.drew (by omega) (by omega)).mono ?_; rw [E4.out]; rintro e w6 ⟨rfl, hb6⟩)
        | (go_at_call 87; refine (rsum87 _ _ _ _ _ (hr0.drew.below hb6) (by omega)).mono ?_; rw [ECR.out]; rintro e w7 ⟨rfl, rfl⟩))
      all_goals
        have hb6' : Below w.heap.size w w6 := ⟨hb6.os, hb6.tape, hb6.output, hb6.size, hb6.block⟩
        have hlt := cell_lt hcell0
        rw [block_add] at hlt
        have hlt2 := hlt
        have hcell5' : w6.cell? { block := ad.block, off := ad.off + 5 } = some (.int .u8 (k5.toNat : Int)) := by
          rw [← hcell5, hb6'.cell (by exact hlt)]; simp [Addr.add]
        obtain ⟨D1, hD1⟩ : ∃ D, (if c = 1 then some ad else some { block := ad.block, off := ad.off + 1 }) = D := ⟨_, rfl⟩
        have hr1' : Rd8 w6 D1 4 ((l.drop 1).take 4) := by
          have := hr1.below hb6'
          rw [← hD1, if_neg (by omega)]
          simpa [Addr.add] using this
        obtain ⟨m, hm⟩ : ∃ m : Nat, m = k5.toNat := ⟨_, rfl⟩
        rw [← hm] at HC hb5 hcell5'
        clear hD hwr hb6 hcell5 hr252 hr252' hr1
        by_cases h1 : number < 0
        · rw [if_pos (.inl h1)] at HC
          clear hm
          go_wp2
          go_ret3
          rw [HC.out]
          exact ⟨_, _, _, rfl, Rd8.nil_, Nat.le_refl _, hb6', fun h => absurd h (Nat.lt_irrefl 0)⟩
        · have h1' : 0 ≤ number := by omega
          by_cases h2 : (t1 : Int) = number
          · subst h2
            have h2b : ((t1 : Int) != (t1 : Int)) = false := by simp
            by_cases h3 : 246 < m
            · rw [if_pos (.inr (.inr h3))] at HC
              have h3' : (246 : Int) < (m : Int) := by omega
              clear h1 h3 hm
              go_wp2_with (go_at_call 92; refine (low92 _ 4 _ _ _ hr1' (by omega) (by omega)).mono ?_; rw [E1.out]; rintro e w7 ⟨rfl, hb7⟩)
              go_ret3
              rw [HC.out]
              exact ⟨_, _, _, rfl, Rd8.nil_, Nat.le_refl _, hb6'.trans (hb7.mono hb6'.size), fun h => absurd h (Nat.lt_irrefl 0)⟩
            · rw [if_neg (by omega)] at HC
              have h3' : (m : Int) ≤ 246 := by omega
              clear h1 h3 hm
              go_wp2_with (go_at_call 92; refine (low92 _ 4 _ _ _ hr1' (by omega) (by omega)).mono ?_; rw [E1.out]; rintro e w7 ⟨rfl, hb7⟩)
              have hb67 : Below w.heap.size w w7 := hb6'.trans (hb7.mono hb6'.size)
              have hrd := (h.mid (a := 6 + m) (q := 252 - (6 + m)) (by omega)).below hb67
              simp only [Option.map_some, show 252 - (6 + m) = 246 - m by omega] at hrd
              have hmm : 252 - (6 + m) = 246 - m := by omega
              rw [hmm]
              clear hb6' hb7 hr1' hD1 hcell5' hr0
              have HDL := Hd.mk hrd.len
              go_loop [44, 9] (fun i _ => ∃ k : Nat, k ≤ 246 - m ∧ i = .int .i64 k ∧ ((l.drop (6 + m)).take (246 - m)).take k = zeros k) (fun i _ => 246 - m - (intOf i).toNat)
              case atStart => exact ⟨0, Nat.zero_le _, rfl, rfl⟩
              case round =>
                obtain ⟨k, hk, rfl, hz⟩ := hrel
                have HZ := Hd.mk hz
                clear hz
                by_cases hlt : k < 246 - m
                · obtain ⟨ad2, x, hA2, hx, hcell⟩ := hrd.at_ hlt
                  injection hA2 with hA2
                  subst hA2
                  have hxl := byte_lt x
                  have HX := Hd.mk hx
                  clear hx
                  by_cases hx0 : x = 0
                  · subst hx0
                    go_wp2
                    go_round
                    case rel => exact ⟨k + 1, by omega, by go_num, by rw [take_snoc8 HX.out, HZ.out, zeros_snoc]⟩
                    case measure => simp [intOf]; omega
                  · have hxb : ((x.toNat : Int) != 0) = true := by
                      simp only [bne_iff_ne, ne_eq]
                      intro e
                      apply hx0
                      rw [← UInt8.toNat_inj]
                      simp; omega
                    go_wp2
                    go_ret3
                    rw [HC.out, if_pos]
                    · exact ⟨_, _, _, rfl, Rd8.nil_, Nat.le_refl _, hb67, fun h => absurd h (Nat.lt_irrefl 0)⟩
                    · rw [List.all_eq_false]
                      exact ⟨x, List.mem_of_getElem? HX.out, by simpa using hx0⟩
                · obtain rfl : k = 246 - m := by omega
                  have HZ2 := HZ.out
                  rw [List.take_of_length_le (by rw [HDL.out]; omega)] at HZ2
                  rw [if_neg (by rw [HZ2]; simp [zeros])] at HC
                  clear HZ2
                  have hcell0' : w7.cell? ad = some (.int .u8 (k0.toNat : Int)) := by
                    rw [hb67.cell (by exact hlt2), ← hcell0]; simp [Addr.add]
                  have h6 := (h.mid (a := 6) (q := m) (by omega)).below hb67
                  obtain ⟨D6, hD6⟩ : ∃ D, (if c = 6 then some ad else some { block := ad.block, off := ad.off + 6 }) = D := ⟨_, rfl⟩
                  have h6' : Rd8 w7 D6 m ((l.drop 6).take m) := by
                    rw [← hD6, if_neg (by omega)]
                    simpa [Addr.add] using h6
                  have s1 : IntKind.i64.wrap (6 + (m : Int)) = 6 + (m : Int) := IntWalk.i64_in _ (by omega)
                  have s2 : (0 : Int) ≤ 6 + (m : Int) := by omega
                  have s3 : 6 + (m : Int) ≤ (c : Int) := by omega
                  have s4 : (6 + (m : Int)).toNat = 6 + m := by omega
                  have s5 : (6 : Int) ≤ 6 + (m : Int) := by omega
                  have s6 : 6 ≤ 6 + m := by omega
                  go_wp2
                  go_region_law ((refine st_app8 (by rfl) (.const (.slice none 0 0)) (.tmp 57) (by rfl) (by rfl) (by rfl) (Own8.nil_ _ w7.heap.size none) (by simpa using h6'.drew) (by omega) (Nat.le_refl _) ?_; rintro v w8 ⟨A8, c8, rfl, ho8, hg8, _⟩; have hc8 := hg8.cell (a := ad) (v := .int .u8 (k0.toNat : Int)) (by exact hcell0') (by simp [ownBlk])))
                  all_goals
                    have hb8 : Below w.heap.size w w8 := below_app hb67.drew hb67.size ((Own8.nil_ w7 w.heap.size none).drew) hg8
                    clear hD6 hcell0' s1 s2 s3 s4 s5 s6 hc8
                    have HO8 := Hd.mk ho8.rd
                    have HFR : Hd (0 < m → ∀ ad, A8 = some ad → w.heap.size ≤ ad.block) := ⟨by
                      intro hm0 ad hA
                      have hbk : ownBlk A8 c8 = some ad.block := by
                        have := (Own8.le ho8).1
                        simp [ownBlk, hA, show c8 ≠ 0 by omega]
                      have h1 := (ho8.lt hbk).1
                      have h2 := hb67.size
                      omega⟩
                    go_wp2
                    all_goals
                      go_ret3
                      rw [HC.out]
                      refine ⟨_, _, _, rfl, ?_, ?_, hb8, HFR.out⟩
                      · have := HO8.out
                        simpa using this
                      · have := (Own8.le ho8).1
                        omega
          · have h2b : ((t1 : Int) != number) = true := by simp; omega
            rw [if_pos (.inr (.inl h2))] at HC
            clear h1 h2 hm
            go_wp2_with (go_at_call 92; refine (low92 _ 4 _ _ _ hr1' (by omega) (by omega)).mono ?_; rw [E1.out]; rintro e w7 ⟨rfl, hb7⟩)
            go_ret3
            rw [HC.out]
            exact ⟨_, _, _, rfl, Rd8.nil_, Nat.le_refl _, hb6'.trans (hb7.mono hb6'.size), fun h => absurd h (Nat.lt_irrefl 0)⟩
    · have hsb : ((t4 : Int) != (cr : Int)) = true := by simp; omega
      rw [if_pos hs] at HC
      clear hs
      go_enter Try.func30, Try.ntmps30
      go_wp2_with fail
      obtain ⟨D, hD⟩ : ∃ D, (if c = 252 then some ad else some { block := ad.block, off := ad.off + 252 }) = D := ⟨_, rfl⟩
      have hr252' : Rd8 w D 4 (l.drop 252) := by rw [← hD]; simpa [Addr.add] using hr252
      go_region_with (first
        | (go_at_call 92; refine (low92 _ 4 _ (l.drop 252) _ hr252'.drew (by omega) (by omega)).mono ?_; rw [E4.out]; rintro e w6 ⟨rfl, hb6⟩)
        | (go_at_call 87; refine (rsum87 _ _ _ _ _ (hr0.drew.below hb6) (by omega)).mono ?_; rw [ECR.out]; rintro e w7 ⟨rfl, rfl⟩))
      all_goals
        have hb6' : Below w.heap.size w w6 := ⟨hb6.os, hb6.tape, hb6.output, hb6.size, hb6.block⟩
        go_wp2
        go_ret3
        rw [HC.out]
        exact ⟨_, _, _, rfl, Rd8.nil_, Nat.le_refl _, hb6', fun h => absurd h (Nat.lt_irrefl 0)⟩
  · have e : readP l number = (0, [], 192) := if_pos (by rw [HL.out]; exact hn256)
    rw [e]
    have hb : ((n : Int) != 256) = true := by simp; omega
    clear e hn256
    go_enter Try.func30, Try.ntmps30
    go_wp2
    go_ret3
    exact ⟨_, _, _, rfl, Rd8.nil_, Nat.le_refl _, Below.refl _ _, fun h => absurd h (Nat.lt_irrefl 0)⟩
end Go.Proofs.Ytkgdcglnkodgnaa
