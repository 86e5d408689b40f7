/-
  The walks of layer 3 (octet) and of its reference: sums, fixed numbers, bytes. No condition but sizes.
-/
import Derived.Test.YtkgdcglnkodgnaaOps
namespace Go.Proofs.Ytkgdcglnkodgnaa
open Go.RowKit
theorem take_snoc8 {l : List UInt8} {k : Nat} {x : UInt8} (h : l[k]? = some x) : l.take (k + 1) = l.take k ++ [x] := by
  obtain ⟨hk, rfl⟩ := List.getElem?_eq_some_iff.1 h
  rw [List.take_succ_eq_append_getElem hk]
theorem crcRaw_step {l : List UInt8} {k : Nat} {x : UInt8} (h : l[k]? = some x) (s : Nat) : crcRaw s (l.take (k + 1)) = crcN 8 (crcRaw s (l.take k) ^^^ x.toNat) := by
  rw [take_snoc8 h, crcRaw_append]; rfl
theorem u32_shr1 (s : Nat) : (s : Int) >>> 1 = ((s / 2 : Nat) : Int) := by
  rw [Int.shiftRight_eq_div_pow]; omega
set_option maxRecDepth 100000 in
set_option maxHeartbeats 400000 in
theorem sum85 (A : Option Addr) (n c : Nat) (l : List UInt8) (w : World) (h : Rd8 w A n l) (hn : n ≤ 140737488355328) :
    Calls Try.prog 85 #[.slice A n c] w fun e w' => e = .returned (.int .u32 (crc l : Nat)) ∧ w = w' := by
  have HL := Hd.mk h.len
  go_enter Try.func85, Try.ntmps85
  go_wp2
  go_loop [3, 9, 5, 6, 17] (fun r i _ _ _ => ∃ k : Nat, k ≤ n ∧ i = .int .i64 k ∧ r = .int .u32 (crcRaw 4294967295 (l.take k) : Nat)) (fun _ i _ _ _ => n - (intOf i).toNat)
  case atStart => exact ⟨0, Nat.zero_le _, rfl, rfl⟩
  case round =>
    obtain ⟨k, hk, rfl, rfl⟩ := hrel
    have hlt32 : crcRaw 4294967295 (l.take k) < 4294967296 := crcRaw_lt _ (by omega)
    by_cases hlt : k < n
    · obtain ⟨ad, x, rfl, hx, hc⟩ := h.at_ hlt
      have hst := crcRaw_step hx 4294967295
      have HX := Hd.mk hst; clear hst hx
      generalize crcRaw 4294967295 (l.take k) = s at *
      have hb := byte_lt x
      have hb' : (x.toNat : Int) < 256 := by omega
      have H32 := Hd.mk hlt32
      have hxor : bits .xor .u32 (s : Int) (x.toNat : Int) = ((s ^^^ x.toNat : Nat) : Int) := u32_xor_nat _ _ hlt32 (by omega)
      have hlt0 : s ^^^ x.toNat < 4294967296 := Nat.xor_lt_two_pow (n := 32) hlt32 (by omega)
      have H0 := Hd.mk hlt0
      clear hlt32 hlt0
      go_wp2
      clear hxor
      generalize hs0 : s ^^^ x.toNat = s0 at *
      go_loop [3, 6, 17] (fun r _ i => ∃ j : Nat, j ≤ 8 ∧ i = .int .i64 j ∧ r = .int .u32 (crcN j s0 : Nat)) (fun _ _ i => 8 - (intOf i).toNat)
      case atStart => exact ⟨0, Nat.zero_le _, rfl, rfl⟩
      case round =>
        obtain ⟨j, hj, rfl, rfl⟩ := hrel
        have HJ := Hd.mk (crcN_lt j H0.out)
        have hsn := crcN_snoc j s0
        have HSN := Hd.mk hsn; clear hsn hs0
        generalize htj : crcN j s0 = t at *
        have HTJ := Hd.mk htj
        clear htj
        have hand : bits .and .u32 (t : Int) 1 = ((t &&& 1 : Nat) : Int) := u32_and_nat t 1 HJ.out (by omega)
        have hw1 : t &&& 1 = t % 2 := nat_mask1 t
        rw [hw1] at hand
        clear hw1
        by_cases hj8 : j < 8
        · by_cases ht : t % 2 = 1
          · have htb : (((t % 2 : Nat) : Int) == 1) = true := by rw [ht]; rfl
            have hx2 : bits .xor .u32 ((t : Int) / 2) 3988292384 = (((t / 2) ^^^ 3988292384 : Nat) : Int) := u32_xor_nat (t / 2) 3988292384 (by have := HJ.out; omega) (by omega)
            have HT := Hd.mk ht
            clear ht
            go_wp2
            go_round
            case rel => exact ⟨j + 1, by omega, by go_num, by rw [HSN.out, crcT, if_pos HT.out]⟩
            case measure => simp [intOf]; omega
          · have htb : (((t % 2 : Nat) : Int) == 1) = false := by rw [beq_eq_false_iff_ne]; omega
            have HT := Hd.mk ht
            clear ht
            go_wp2
            go_round
            case rel => exact ⟨j + 1, by omega, by go_num, by rw [HSN.out, crcT, if_neg HT.out]; go_num⟩
            case measure => simp [intOf]; omega
        · go_wp2
          obtain rfl : j = 8 := by omega
          go_round
          case rel => exact ⟨k + 1, by omega, by go_num, by rw [HX.out, ← HTJ.out]⟩
          case measure => simp [intOf]; omega
    · obtain rfl : k = n := by omega
      have hfull : l.take k = l := List.take_of_length_le (by rw [HL.out]; omega)
      rw [hfull] at hlt32 ⊢
      clear hfull
      have hx := u32_xor_nat 4294967295 (crcRaw 4294967295 l) (by omega) hlt32
      have hm : ((4294967295 : Nat) : Int) = IntKind.u32.max := rfl
      rw [hm] at hx
      have hc2 : 4294967295 ^^^ crcRaw 4294967295 l = crc l := Nat.xor_comm _ _
      rw [hc2] at hx
      have H32 := Hd.mk hlt32
      clear hlt32 hc2 hm
      go_wp2
      go_ret
      exact ⟨rfl, rfl⟩
set_option maxHeartbeats 400000 in
theorem grown138 (A : Option Addr) (n c : Nat) (m : Nat) (l : List UInt8) (w : World) (h : Rd8 w A n l) (hn : n ≤ 140737488355328)  (hm' : m ≤ 4096) :
    Calls Try.prog 138 #[.slice A n c, .int .i64 m] w (Ret8 w l) := by
  go_enter Try.func138, Try.ntmps138
  go_wp2_with (first
    | (at_make; refine wl_make8 rfl (.const (.int .i64 0)) (.tmp 8) rfl (n := 0) (c := n + m) rfl rfl rfl (by omega) (by omega) (by omega) (base := w.heap.size) (Nat.le_refl _) ?_; intro w1 hown hb)
    | (at_builtin; refine wl_app8 rfl (.tmp 9) (.tmp 10) rfl rfl rfl hown (h.below hb) (by omega) hb.size ?_; rintro v w2 ⟨A', c', rfl, hown2, hg2, _⟩))
  go_ret
  simp only [Nat.zero_add, zeros, List.replicate_zero, List.nil_append] at hown2 ⊢
  exact ⟨_, _, _, rfl, hown2, below_app hb hb.size hown hg2⟩
set_option maxRecDepth 100000 in
set_option maxHeartbeats 400000 in
theorem same28 (A B : Option Addr) (n c m d : Nat) (l k : List UInt8) (w : World) (h : Rd8 w A n l) (h' : Rd8 w B m k) :
    Calls Try.prog 28 #[.slice A n c, .slice B m d] w fun e w' => e = .returned (.bool (l == k)) ∧ w = w' := by
  have h1 := run_str8 (c := c) h
  have h2 := run_str8 (c := d) h'
  go_enter Try.func28, Try.ntmps28
  go_wp2
  go_ret
  exact ⟨rfl, rfl⟩
theorem u8_xor_byte (x y : UInt8) : bits .xor .u8 (x.toNat : Int) (y.toNat : Int) = ((x ^^^ y).toNat : Int) := by
  rw [u8_xor_nat _ _ (byte_lt x) (byte_lt y), UInt8.toNat_xor]
set_option maxRecDepth 100000 in
set_option maxHeartbeats 400000 in
theorem spoil26 (A : Option Addr) (n c base : Nat) (l : List UInt8) (w : World) (h : Own8 w base A n c l) (hn : n ≤ 140737488355328) :
    Calls Try.prog 26 #[.slice A n c] w fun e w' => e = .returned (.tuple #[]) ∧ Own8 w' base A n c (l.map (· ^^^ 85)) ∧ w.grownBy w' (ownBlk A c) := by
  have HL := Hd.mk h.len
  go_enter Try.func26, Try.ntmps26
  go_wp2
  go_loopw [5, 2] (fun i _ wr => ∃ k : Nat, k ≤ n ∧ i = .int .i64 k ∧ Own8 wr base A n c ((l.take k).map (· ^^^ 85) ++ l.drop k) ∧ w.grownBy wr (ownBlk A c)) (fun i _ _ => n - (intOf i).toNat)
  case atStart => exact ⟨0, Nat.zero_le _, rfl, by simpa using h, World.grownBy.refl w _⟩
  case round =>
    obtain ⟨k, hk, rfl, ho, hg⟩ := hrel
    by_cases hlt : k < n
    · obtain ⟨ad, x, rfl, hx, hc, hf, hbk⟩ := ho.at_ hlt
      have hxor : bits .xor .u8 (x.toNat : Int) 85 = ((x ^^^ 85).toNat : Int) := u8_xor_byte x 85
      have hs := ho.set_ hlt rfl (x ^^^ 85)
      have hgs := grown_trans hg (grown_set (w := wr) k (.int .u8 ((x ^^^ 85).toNat : Int)) hbk)
      have HX := Hd.mk hx
      have HB := Hd.mk hbk
      clear hx hbk ho hg
      go_wp2
      go_roundw
      case rel =>
        refine ⟨k + 1, by omega, by go_num, ?_, hgs⟩
        have e : ((l.take k).map (· ^^^ 85) ++ l.drop k).set k (x ^^^ 85) = (l.take (k + 1)).map (· ^^^ 85) ++ l.drop (k + 1) := by
          have hkl : k < l.length := by rw [HL.out]; exact hlt
          have hx2 : l[k] = x := by
            have := HX.out
            rw [List.getElem?_append_right (by simp; omega)] at this
            simp [Nat.min_eq_left (Nat.le_of_lt hkl), hkl] at this
            exact this
          rw [List.set_append_right _ _ (by simp; omega)]
          have e2 : k - ((l.take k).map (· ^^^ 85)).length = 0 := by simp; omega
          rw [e2, List.drop_eq_getElem_cons hkl, List.set_cons_zero, List.take_succ_eq_append_getElem hkl, hx2]
          simp
        rw [← e]
        exact hs
      case measure => simp [intOf]; omega
    · go_wp2
      go_end0
      obtain rfl : k = n := by omega
      have hL := HL.out
      rw [List.take_of_length_le (by omega), List.drop_of_length_le (by omega), List.append_nil] at ho
      exact ⟨rfl, ho, hg⟩
/-- A number's four bytes, the lowest ahead. -/
def low4 (x : Nat) : List UInt8 := [UInt8.ofNat x, UInt8.ofNat (x / 256), UInt8.ofNat (x / 65536), UInt8.ofNat (x / 16777216)]
theorem low4_cells (x : Nat) (hx : x < 4294967296) : #[Value.int .u8 ((x : Int) % 256), .int .u8 ((x : Int) / 256 % 256), .int .u8 ((x : Int) / 65536 % 256), .int .u8 ((x : Int) / 16777216)] = (bc (low4 x)).toArray := by
  have e : (x : Int) / 16777216 % 256 = (x : Int) / 16777216 := by omega
  simp [bc, low4, e]
set_option maxRecDepth 100000 in
set_option maxHeartbeats 400000 in
theorem put32_84 (A : Option Addr) (n c : Nat) (l : List UInt8) (x : Nat) (w : World) (h : Rd8 w A n l) (hn : n ≤ 140737488355320) (hx : Hd (x < 4294967296)) (hx' : (x : Int) ≤ 4294967295) :
    Calls Try.prog 84 #[.slice A n c, .int .u32 x] w (Ret8 w (l ++ low4 x)) := by
  go_enter Try.func84, Try.ntmps84
  go_wp2_with (first
    | (go_at_call 138; refine (grown138 A n c 4 l w h (by omega) (by omega)).mono ?_; rintro e w1 ⟨A1, n1, c1, rfl, ho, hb⟩)
    | (at_builtin; refine wl_app8 rfl (.tmp 6) (.tmp 18) rfl (k := low4 x) (m := 4) rfl rfl (ho.alloc _) (Rd8.new w1 _ (low4_cells x hx.out) rfl) (by have := ho.len; have := h.len; omega) (by have := hb.size; simp; omega) ?_; rintro v w2 ⟨A2, c2, rfl, ho2, hg2, _⟩))
  go_ret
  exact ⟨_, _, _, rfl, ho2, below_app (hb.alloc hb.size _) (by have := hb.size; simp; omega) (ho.alloc _) hg2⟩
set_option maxRecDepth 100000 in
set_option maxHeartbeats 400000 in
theorem rsum87 (A : Option Addr) (n c : Nat) (l : List UInt8) (w : World) (h : Rd8 w A n l) (hn : n ≤ 140737488355328) :
    Calls Try.prog 87 #[.slice A n c] w fun e w' => e = .returned (.int .u32 (crc l : Nat)) ∧ w = w' := by
  have HL := Hd.mk h.len
  go_enter Try.func87, Try.ntmps87
  go_wp2
  go_loop [3, 9, 5, 6] (fun r i _ _ => ∃ k : Nat, k ≤ n ∧ i = .int .i64 k ∧ r = .int .u32 (crcRaw 4294967295 (l.take k) : Nat)) (fun _ i _ _ => n - (intOf i).toNat)
  case atStart => exact ⟨0, Nat.zero_le _, rfl, rfl⟩
  case round =>
    obtain ⟨k, hk, rfl, rfl⟩ := hrel
    have hlt32 : crcRaw 4294967295 (l.take k) < 4294967296 := crcRaw_lt _ (by omega)
    by_cases hlt : k < n
    · obtain ⟨ad, x, rfl, hx, hc⟩ := h.at_ hlt
      have hst := crcRaw_step hx 4294967295
      have HX := Hd.mk hst; clear hst hx
      generalize crcRaw 4294967295 (l.take k) = s at *
      have hb := byte_lt x
      have hb' : (x.toNat : Int) < 256 := by omega
      have H32 := Hd.mk hlt32
      have hxor : bits .xor .u32 (s : Int) (x.toNat : Int) = ((s ^^^ x.toNat : Nat) : Int) := u32_xor_nat _ _ hlt32 (by omega)
      have hlt0 : s ^^^ x.toNat < 4294967296 := Nat.xor_lt_two_pow (n := 32) hlt32 (by omega)
      have H0 := Hd.mk hlt0
      clear hlt32 hlt0
      go_wp2
      clear hxor
      generalize hs0 : s ^^^ x.toNat = s0 at *
      go_loop [3, 6] (fun r i => ∃ j : Nat, j ≤ 8 ∧ i = .int .i64 j ∧ r = .int .u32 (crcN j s0 : Nat)) (fun _ i => 8 - (intOf i).toNat)
      case atStart => exact ⟨0, Nat.zero_le _, rfl, rfl⟩
      case round =>
        obtain ⟨j, hj, rfl, rfl⟩ := hrel
        have HJ := Hd.mk (crcN_lt j H0.out)
        have hj2 : ((crcN j s0 : Nat) : Int) ≤ 4294967295 := by have := HJ.out; omega
        have hsn := crcN_snoc j s0
        have HSN := Hd.mk hsn; clear hsn hs0
        generalize htj : crcN j s0 = t at *
        have HTJ := Hd.mk htj
        clear htj
        by_cases hj8 : j < 8
        · by_cases ht : t % 2 = 1
          · have htb : ((t : Int) % 2 == 1) = true := by rw [beq_iff_eq]; omega
            have hx2 : bits .xor .u32 ((t : Int) / 2) 3988292384 = (((t / 2) ^^^ 3988292384 : Nat) : Int) := u32_xor_nat (t / 2) 3988292384 (by have := HJ.out; omega) (by omega)
            have HT := Hd.mk ht
            clear ht
            go_wp2
            go_round
            case rel => exact ⟨j + 1, by omega, by go_num, by rw [HSN.out, crcT, if_pos HT.out]⟩
            case measure => simp [intOf]; omega
          · have htb : ((t : Int) % 2 == 1) = false := by rw [beq_eq_false_iff_ne]; omega
            have HT := Hd.mk ht
            clear ht
            go_wp2
            go_round
            case rel => exact ⟨j + 1, by omega, by go_num, by rw [HSN.out, crcT, if_neg HT.out]; go_num⟩
            case measure => simp [intOf]; omega
        · go_wp2
          obtain rfl : j = 8 := by omega
          go_round
          case rel => exact ⟨k + 1, by omega, by go_num, by rw [HX.out, ← HTJ.out]⟩
          case measure => simp [intOf]; omega
    · obtain rfl : k = n := by omega
      have hfull : l.take k = l := List.take_of_length_le (by rw [HL.out]; omega)
      rw [hfull] at hlt32 ⊢
      clear hfull
      have hx := u32_xor_nat 4294967295 (crcRaw 4294967295 l) (by omega) hlt32
      have hm : ((4294967295 : Nat) : Int) = IntKind.u32.max := rfl
      rw [hm] at hx
      have hc2 : 4294967295 ^^^ crcRaw 4294967295 l = crc l := Nat.xor_comm _ _
      rw [hc2] at hx
      have H32 := Hd.mk hlt32
      clear hlt32 hc2 hm
      go_wp2
      go_ret
      exact ⟨rfl, rfl⟩
theorem byte_cell (y : Nat) : #[Value.int .u8 ((y : Int) % 256)] = (bc [UInt8.ofNat y]).toArray := by simp [bc]
/-- A number's lowest bytes. -/
def lowN : Nat → Nat → List UInt8
  | _, 0 => []
  | x, m + 1 => UInt8.ofNat x :: lowN (x / 256) m
theorem lowN_length : ∀ (x m : Nat), (lowN x m).length = m
  | _, 0 => rfl
  | x, m + 1 => by simp [lowN, lowN_length]
theorem lowN_snoc : ∀ (x m : Nat), lowN x (m + 1) = lowN x m ++ [UInt8.ofNat (x / 256 ^ m)]
  | x, 0 => by simp [lowN]
  | x, m + 1 => by
    have ih := lowN_snoc (x / 256) m
    rw [lowN, ih]
    simp only [lowN, List.cons_append, Nat.div_div_eq_div_mul, Nat.pow_succ, Nat.mul_comm]
theorem lowN_four (x : Nat) : lowN x 4 = low4 x := by simp [lowN, low4, Nat.div_div_eq_div_mul]
set_option maxRecDepth 100000 in
set_option maxHeartbeats 400000 in
theorem low86 (x m : Nat) (w : World) (hm : m ≤ 4096) (hx : (x : Int) ≤ 18446744073709551615) :
    Calls Try.prog 86 #[.int .u64 x, .int .i64 m] w (Ret8 w (lowN x m)) := by
  go_enter Try.func86, Try.ntmps86
  go_wp2
  go_loopw [0, 5, 6] (fun y v i wr => ∃ (k : Nat) (A : Option Addr) (c : Nat), k ≤ m ∧ i = .int .i64 k ∧ y = .int .u64 (x / 256 ^ k : Nat) ∧ v = .slice A k c ∧ Own8 wr w.heap.size A k c (lowN x k) ∧ Below w.heap.size w wr)
    (fun _ _ i _ => m - (intOf i).toNat)
  case atStart => exact ⟨0, none, 0, Nat.zero_le _, rfl, by simp, rfl, Own8.nil_ _ _ _, Below.refl _ _⟩
  case round =>
    obtain ⟨k, A, c, hk, rfl, rfl, rfl, ho, hb⟩ := hrel
    have HS := Hd.mk (lowN_snoc x k)
    have hle : x / 256 ^ k ≤ x := Nat.div_le_self _ _
    have hd : x / 256 ^ k / 256 = x / 256 ^ (k + 1) := by rw [Nat.div_div_eq_div_mul, Nat.pow_succ]
    have HD := Hd.mk hd
    clear hd
    generalize x / 256 ^ k = y at *
    have hy : (y : Int) ≤ 18446744073709551615 := by omega
    clear hle
    by_cases hlt : k < m
    · go_wp2_with (first
        | (at_builtin; refine wl_app8 rfl (.tmp 12) (.tmp 16) rfl (k := [UInt8.ofNat y]) (m := 1) rfl rfl (ho.alloc _) (Rd8.new wr _ (byte_cell y) rfl) (by omega) (by have := hb.size; simp; omega) ?_; rintro v w2 ⟨A2, c2, rfl, ho2, hg2, _⟩))
      have hb2 := below_app (hb.alloc hb.size _) (by have := hb.size; simp; omega) (ho.alloc _) hg2
      go_roundw
      case rel => exact ⟨k + 1, A2, c2, by omega, by go_num, by rw [← HD.out]; go_num, rfl, by rw [HS.out]; exact ho2, hb2⟩
      case measure => simp [intOf]; omega
    · go_wp2
      go_ret
      obtain rfl : k = m := by omega
      exact ⟨_, _, _, rfl, ho, hb⟩
end Go.Proofs.Ytkgdcglnkodgnaa
