/-
  The cursor's read (ref).
-/
import Derived.Test.YtkgdcglnkodgnaaUint
namespace Go.Proofs.Ytkgdcglnkodgnaa
open Go.RowKit
set_option maxRecDepth 100000 in
theorem add_group (a i x : Nat) (hi : i ≤ 9) (h9 : i = 9 → x ≤ 1) (hx : x < 256) (ha : a < 128 ^ i) :
    IntKind.u64.wrap ((a : Int) + IntKind.u64.wrap (((x : Int) % 128) * 2 ^ (7 * i))) = ((a + x % 128 * 128 ^ i : Nat) : Int) := by
  have hp : (2 : Nat) ^ (7 * i) = 128 ^ i := by rw [Nat.pow_mul]
  have hb : 128 ^ i + x % 128 * 128 ^ i ≤ 18446744073709551616 := by
    by_cases h : i = 9
    · subst h
      have := h9 rfl
      have : x % 128 * 128 ^ 9 ≤ 1 * 128 ^ 9 := Nat.mul_le_mul_right _ (by omega)
      omega
    · have h1 : (128 : Nat) ^ i ≤ 128 ^ 8 := Nat.pow_le_pow_right (by omega) (by omega)
      have : x % 128 * 128 ^ i ≤ 127 * 128 ^ 8 := Nat.mul_le_mul (by omega) h1
      omega
  have e : ∀ z : Int, IntKind.u64.wrap z = z % 18446744073709551616 := fun z => by simp [IntKind.wrap, IntKind.signed, IntKind.bits]
  have e2 : (2 : Int) ^ (7 * i) = ((128 ^ i : Nat) : Int) := by rw [← hp]; push_cast; rfl
  have e3 : ((x : Int) % 128) = ((x % 128 : Nat) : Int) := by omega
  rw [e, e, e2, e3, ← Int.natCast_mul]
  generalize x % 128 * 128 ^ i = z at *
  omega
set_option maxRecDepth 100000 in
set_option maxHeartbeats 1000000 in
theorem rread174 (g : Nat) (s : CS) (w : World) (h : Cur 170 w g s) :
    Calls Try.prog 174 #[.pointer (some ⟨g, 0, none⟩)] w fun e w' => e = .returned (.tuple #[.int .u64 ((numU 0 0 (s.l.drop s.at')).1 : Int), .int .i64 ((numU 0 0 (s.l.drop s.at')).2.1 : Int), .int .i64 ((numU 0 0 (s.l.drop s.at')).2.2 : Int)]) ∧ ∃ k, w' = w.drewN k := by
  obtain ⟨B, n, c, h0, h1, h2, f0, f1, f2, hr, hnc, hat, hn⟩ := h.cells
  have HL := Hd.mk hr.len
  obtain ⟨rest, hrest⟩ : ∃ rest, Hd (s.l.drop s.at' = rest) := ⟨_, ⟨rfl⟩⟩
  obtain ⟨rn, hrn⟩ : ∃ rn, Hd (rest.length = rn) := ⟨_, ⟨rfl⟩⟩
  have hrn2 : rn = n - s.at' := by rw [← hrn.out, ← hrest.out, List.length_drop, HL.out]
  have hlen : Hd (((s.l.length - s.at' : Nat) : Int) = (rn : Int)) := ⟨by rw [HL.out, hrn2]⟩
  have hatn : s.at' + rn = n := by omega
  clear hrn2
  rw [hrest.out]
  go_enter Try.func174, Try.ntmps174
  go_wp2
  go_loopw [5, 6, 7] (fun v i _ wr => ∃ (k a j : Nat), v = .int .u64 a ∧ i = .int .i64 k ∧ k ≤ rn ∧ k ≤ 10 ∧ Hd (numU 0 0 rest = numU k a (rest.drop k)) ∧ Hd (a < 128 ^ k) ∧ wr = w.drewN j)
    (fun _ i _ _ => rn - (intOf i).toNat)
  case atStart => exact ⟨0, 0, 0, rfl, rfl, by omega, by omega, ⟨rfl⟩, ⟨by simp⟩, rfl⟩
  case round =>
    obtain ⟨k, a, j, rfl, rfl, hk, hk10, hnum, ha, rfl⟩ := hrel
    by_cases hlt : k < rn
    · have hlti : (k : Int) < (rn : Int) := by omega
      obtain ⟨ad, x, rfl, hx, hcx⟩ := hr.at_ (k := s.at' + k) (by omega)
      have hl : Cur 170 (w.drewN j) g s := h
      have hxb := byte_lt x
      have hxb' : (x.toNat : Int) < 256 := by omega
      have hrx : rest[k]? = some x := by rw [← hrest.out, List.getElem?_drop]; exact hx
      have hdr : rest.drop k = x :: rest.drop (k + 1) := by
        obtain ⟨hk', he⟩ := List.getElem?_eq_some_iff.1 hrx
        rw [List.drop_eq_getElem_cons hk', he]
      have HN : Hd (numU k a (rest.drop k) = if 9 < k ∨ (k = 9 ∧ 1 < x.toNat) then (0, 0, 31) else if x.toNat < 128 then (if x.toNat = 0 ∧ 0 < k then (0, 0, 31) else (a + x.toNat * 128 ^ k, k + 1, 0)) else numU (k + 1) (a + (x.toNat - 128) * 128 ^ k) (rest.drop (k + 1))) := ⟨by rw [hdr]; rfl⟩
      have t1 : IntKind.i64.wrap ((s.at' : Int) + (k : Int)) = (s.at' : Int) + (k : Int) := IntWalk.i64_in _ (by omega)
      have t2 : (0 : Int) ≤ (s.at' : Int) + (k : Int) := by omega
      have t3 : (s.at' : Int) + (k : Int) < (n : Int) := by omega
      have t4 : ((s.at' : Int) + (k : Int)).toNat = s.at' + k := by omega
      have HH := Hd.mk h
      clear hx hrx hdr hl h
      by_cases hbad : 9 < k ∨ (k = 9 ∧ 1 < x.toNat)
      · have HE : Hd (numU 0 0 rest = (0, 0, 31)) := ⟨by rw [hnum.out, HN.out, if_pos hbad]⟩
        by_cases h10 : 9 < k
        · have h10' : (9 : Int) < (k : Int) := by omega
          clear hbad h10
          go_wp2_with (go_at_call 157; refine (rleft157 g s (w.drewN j) HH.out).mono ?_; rw [hlen.out]; rintro e w' ⟨rfl, kk, rfl⟩)
          go_quiet (fail)
          go_wp2
          try rw [Exit.noGoto_ret]
          go_ret3
          refine ⟨by rw [HE.out]; rfl, _, rfl⟩
        · have hk9 : k = 9 := by omega
          have hx1 : (1 : Int) < (x.toNat : Int) := by omega
          have h10' : ((k : Int) == 10) = false := by rw [beq_eq_false_iff_ne]; omega
          have h9b : ((k : Int) == 9) = true := by rw [beq_iff_eq]; omega
          clear hbad h10 hk9
          go_wp2_with (go_at_call 157; refine (rleft157 g s (w.drewN j) HH.out).mono ?_; rw [hlen.out]; rintro e w' ⟨rfl, kk, rfl⟩)
          go_quiet (fail)
          go_wp2
          try rw [Exit.noGoto_ret]
          go_ret3
          exact ⟨by rw [HE.out]; rfl, _, rfl⟩
      · have hor := add_group a k x.toNat (by omega) (by omega) hxb ha.out
        have h10' : ((k : Int) == 10) = false := by rw [beq_eq_false_iff_ne]; omega
        have h7 : (7 * (k : Int)).toNat = 7 * k := by omega
        have hk9 : k ≤ 9 := by omega
        have hE := HN.out
        rw [if_neg hbad] at hE
        have h9 : (((k : Int) == 9) = false) ∨ (((k : Int) == 9) = true ∧ ¬ (1 : Int) < (x.toNat : Int)) := by
          by_cases e : k = 9
          · exact .inr ⟨by rw [beq_iff_eq]; omega, by omega⟩
          · exact .inl (by rw [beq_eq_false_iff_ne]; omega)
        clear hbad HN
        by_cases hx8 : x.toNat < 128
        · rw [if_pos hx8] at hE
          have hx8' : (x.toNat : Int) < 128 := by omega
          have hmod : x.toNat % 128 = x.toNat := Nat.mod_eq_of_lt hx8
          by_cases hx0 : x.toNat = 0 ∧ 0 < k
          · have HE : Hd (numU 0 0 rest = (0, 0, 31)) := ⟨by rw [hnum.out, hE, if_pos hx0]⟩
            have hx0' : ((x.toNat : Int) == 0) = true := by rw [beq_iff_eq]; omega
            have hk0' : (0 : Int) < (k : Int) := by omega
            clear hE hx0 hmod
            rcases h9 with h9 | ⟨h9, h91⟩
            all_goals
              go_wp2_with (go_at_call 157; refine (rleft157 g s (w.drewN j) HH.out).mono ?_; rw [hlen.out]; rintro e w' ⟨rfl, kk, rfl⟩)
              go_quiet (fail)
              go_wp2
              try rw [Exit.noGoto_ret]
              go_ret3
              exact ⟨by rw [HE.out]; rfl, _, rfl⟩
          · have HE : Hd (numU 0 0 rest = (a + x.toNat * 128 ^ k, k + 1, 0)) := ⟨by rw [hnum.out, hE, if_neg hx0]⟩
            have hx0' : ((x.toNat : Int) == 0) = false ∨ (((x.toNat : Int) == 0) = true ∧ ¬ (0 : Int) < (k : Int)) := by
              by_cases e : x.toNat = 0
              · exact .inr ⟨by rw [beq_iff_eq]; omega, by omega⟩
              · exact .inl (by rw [beq_eq_false_iff_ne]; omega)
            rw [hmod] at hor
            have hki : ¬ ((rn : Int) ≤ (k : Int)) := by omega
            clear hE hx0 hmod
            rcases h9 with h9 | ⟨h9, h91⟩
            all_goals
              rcases hx0' with hx0' | ⟨hx0', hk0'⟩
              all_goals
                go_wp2_with (go_at_call 157; refine (rleft157 g s (w.drewN j) HH.out).mono ?_; rw [hlen.out]; rintro e w' ⟨rfl, kk, rfl⟩)
                go_quiet (fail)
                go_wp2_with (go_at_call 157; refine (rleft157 g s (w.drewN (j + kk + nq)) HH.out).mono ?_; rw [hlen.out]; rintro e w' ⟨rfl, kk2, rfl⟩)
                try rw [Exit.noGoto_ret]
                go_ret3
                exact ⟨by rw [HE.out]; rfl, _, rfl⟩
        · rw [if_neg hx8] at hE
          have hx8' : ¬ (x.toNat : Int) < 128 := by omega
          have hmod : x.toNat % 128 = x.toNat - 128 := by omega
          rw [hmod] at hor
          have HE : Hd (numU 0 0 rest = numU (k + 1) (a + (x.toNat - 128) * 128 ^ k) (rest.drop (k + 1))) := ⟨by rw [hnum.out, hE]⟩
          have HA : Hd (a + (x.toNat - 128) * 128 ^ k < 128 ^ (k + 1)) := ⟨by
            have h1 := ha.out
            have h2 : (x.toNat - 128) * 128 ^ k ≤ 127 * 128 ^ k := Nat.mul_le_mul_right _ (by omega)
            rw [Nat.pow_succ]; omega⟩
          clear hE hmod
          rcases h9 with h9 | ⟨h9, h91⟩
          rotate_left 1
          · omega
          · go_wp2_with (go_at_call 157; refine (rleft157 g s (w.drewN j) HH.out).mono ?_; rw [hlen.out]; rintro e w' ⟨rfl, kk, rfl⟩)
            go_quiet (fail)
            go_wp2
            go_roundw
            case rel => exact ⟨k + 1, a + (x.toNat - 128) * 128 ^ k, _, rfl, by go_num, by omega, by omega, HE, HA, rfl⟩
            case measure => simp [intOf]; omega
    · obtain rfl : k = rn := by omega
      have HE : Hd (numU 0 0 rest = (0, 0, 30)) := ⟨by
        rw [hnum.out, List.drop_eq_nil_of_le (by rw [hrn.out]; omega)]; rfl⟩
      have HH := Hd.mk h
      clear h
      have hki : ((k : Int) ≤ (k : Int)) := by omega
      go_wp2_with fail
      refine (rleft157 g s (w.drewN j) HH.out).mono ?_
      rw [hlen.out]
      rintro e w' ⟨rfl, kk, rfl⟩
      go_wp2_with fail
      try rw [Exit.noGoto_ret]
      go_ret3
      exact ⟨by rw [HE.out]; rfl, _, rfl⟩
end Go.Proofs.Ytkgdcglnkodgnaa
