/-
  Numbers of seven bits a byte: the walks of octet.PutUint, PutText and of the reference's Uint, Bytes. No condition but sizes.
-/
import Derived.Test.YtkgdcglnkodgnaaVar
import Derived.Test.YtkgdcglnkodgnaaPage
namespace Go.Proofs.Ytkgdcglnkodgnaa
open Go.RowKit
set_option maxRecDepth 100000 in
theorem or128 (y : Nat) : bits .or .u8 ((y : Int) % 256) 128 = ((y % 128 + 128 : Nat) : Int) := by
  have e : ((y : Int) % 256) = ((y % 256 : Nat) : Int) := by omega
  have h := u8_or_nat (y % 256) 128 (by omega) (by omega)
  rw [e]
  have h2 : y % 256 ||| 128 = y % 128 + 128 := by
    have h3 : ∀ z : Fin 256, z.1 ||| 128 = z.1 % 128 + 128 := by decide
    have h4 := h3 ⟨y % 256, by omega⟩
    simp only at h4
    rw [h4]; omega
  rw [← h2]
  exact h
theorem byte_cell128 (y : Nat) : #[Value.int .u8 ((y : Int) % 128 + 128)] = (bc [UInt8.ofNat (y % 128 + 128)]).toArray := by
  have h := cellN (y % 128 + 128) (by omega)
  rw [← h]
  congr 3
theorem putU_length_le : ∀ (y k : Nat), 0 < k → y < 128 ^ k → (putU y).length ≤ k := by
  intro y
  induction y using Nat.strongRecOn with
  | _ y ih =>
    intro k hk h
    by_cases hs : y < 128
    · rw [putU_small hs]; simp; omega
    · rw [putU_big hs]
      obtain ⟨j, rfl⟩ : ∃ j, k = j + 1 := ⟨k - 1, by omega⟩
      have hj : 0 < j := by
        rcases Nat.eq_zero_or_pos j with h0 | h0
        · subst h0; simp at h; omega
        · exact h0
      have := ih (y / 128) (by omega) j hj (by rw [Nat.pow_succ] at h; omega)
      simp only [List.length_cons]; omega
set_option maxRecDepth 100000 in
theorem putU_length (y : Nat) (h : y < 18446744073709551616) : (putU y).length ≤ 10 := putU_length_le y 10 (by omega) (by omega)
set_option maxRecDepth 100000 in
set_option maxHeartbeats 400000 in
theorem putu145 (A : Option Addr) (n c : Nat) (l : List UInt8) (x : Nat) (w : World) (h : Rd8 w A n l) (hn : n ≤ 140737488355300) (hx : (x : Int) ≤ 18446744073709551615) :
    Calls Try.prog 145 #[.slice A n c, .int .u64 x] w (Ret8 w (l ++ putU x)) := by
  have HL := Hd.mk h.len
  have HP : Hd ((putU x).length ≤ 10) := ⟨putU_length x (by omega)⟩
  go_enter Try.func145, Try.ntmps145
  go_wp2_with (go_at_call 138; refine (grown138 A n c 10 l w h (by omega) (by omega)).mono ?_; rintro e w1 ⟨A1, n1, c1, rfl, ho, hb⟩)
  obtain rfl : n1 = n := by rw [← ho.len, HL.out]
  go_loopw [5, 1, 13] (fun v y _ wr => ∃ (k z : Nat) (A' : Option Addr) (c' : Nat) (pre : List UInt8), v = .slice A' (n1 + k) c' ∧ y = .int .u64 z ∧ z ≤ x ∧ Own8 wr w.heap.size A' (n1 + k) c' (l ++ pre) ∧ Hd (pre ++ putU z = putU x) ∧ Hd (pre.length = k) ∧ k ≤ 10 ∧ Below w.heap.size w wr)
    (fun _ y _ _ => (intOf y).toNat)
  case atStart => exact ⟨0, x, A1, c1, [], rfl, rfl, Nat.le_refl _, by simpa using ho, ⟨rfl⟩, ⟨rfl⟩, by omega, hb⟩
  case round =>
    obtain ⟨k, z, A', c', pre, rfl, rfl, hz, ho', hpre, hk, hk10, hb'⟩ := hrel
    have hz64 : (z : Int) ≤ 18446744073709551615 := by omega
    by_cases hlt : 127 < z
    · have hzi : (127 : Int) < (z : Int) := by omega
      have hor := or128 z
      have HPZ : Hd (putU z = UInt8.ofNat (z % 128 + 128) :: putU (z / 128)) := ⟨putU_big (by omega)⟩
      have hk9 : k + 1 ≤ 10 := by
        have h1 := HP.out
        have h2 := congrArg List.length hpre.out
        rw [HPZ.out] at h2
        have h3 : 1 ≤ (putU (z / 128)).length := by
          by_cases hs : z / 128 < 128
          · rw [putU_small hs]; simp
          · rw [putU_big hs]; simp
        have h4 := hk.out
        simp only [List.length_append, List.length_cons] at h2
        omega
      go_wp2_with (at_builtin; refine wl_app8 rfl (.tmp 10) (.tmp 14) rfl (k := [UInt8.ofNat (z % 128 + 128)]) (m := 1) rfl rfl (ho'.alloc _) (Rd8.new wr _ (byte_cell128 z) rfl) (by omega) (by have := hb'.size; simp; omega) ?_; rintro v w2 ⟨A2, c2, rfl, ho2, hg2, _⟩)
      have hb2 := below_app (hb'.alloc hb'.size _) (by have := hb'.size; simp; omega) (ho'.alloc _) hg2
      go_roundw
      case rel => exact ⟨k + 1, z / 128, A2, c2, pre ++ [UInt8.ofNat (z % 128 + 128)], rfl, by go_num, by omega, by rw [← List.append_assoc]; exact ho2, ⟨by rw [← hpre.out, HPZ.out]; simp⟩, ⟨by have := hk.out; simp; omega⟩, hk9, hb2⟩
      case measure => simp [intOf]; omega
    · have hzi : ¬ (127 : Int) < (z : Int) := by omega
      have hz8 : (z : Int) < 256 := by omega
      have HPZ : Hd (putU z = [UInt8.ofNat z]) := ⟨putU_small (by omega)⟩
      go_wp2_with (at_builtin; refine wl_app8 rfl (.tmp 18) (.tmp 21) rfl (k := [UInt8.ofNat z]) (m := 1) rfl rfl (ho'.alloc _) (Rd8.new wr _ (cellN z (by omega)) rfl) (by omega) (by have := hb'.size; simp; omega) ?_; rintro v w2 ⟨A2, c2, rfl, ho2, hg2, _⟩)
      have hb2 := below_app (hb'.alloc hb'.size _) (by have := hb'.size; simp; omega) (ho'.alloc _) hg2
      go_ret
      refine ⟨_, _, _, rfl, ?_, hb2⟩
      have e : l ++ pre ++ [UInt8.ofNat z] = l ++ putU x := by rw [← hpre.out, HPZ.out, List.append_assoc]
      rw [← e]
      exact ho2
set_option maxRecDepth 100000 in
set_option maxHeartbeats 400000 in
theorem ruint170 (x : Nat) (w : World) (hx : (x : Int) ≤ 18446744073709551615) :
    Calls Try.prog 170 #[.int .u64 x] w (Ret8 w (putU x)) := by
  have HP : Hd ((putU x).length ≤ 10) := ⟨putU_length x (by omega)⟩
  go_enter Try.func170, Try.ntmps170
  go_wp2
  go_loopw [3, 0, 10] (fun v y _ wr => ∃ (k z : Nat) (A' : Option Addr) (c' : Nat) (pre : List UInt8), v = .slice A' k c' ∧ y = .int .u64 z ∧ z ≤ x ∧ Own8 wr w.heap.size A' k c' pre ∧ Hd (pre ++ putU z = putU x) ∧ Hd (pre.length = k) ∧ k ≤ 10 ∧ Below w.heap.size w wr)
    (fun _ y _ _ => (intOf y).toNat)
  case atStart => exact ⟨0, x, none, 0, [], rfl, rfl, Nat.le_refl _, Own8.nil_ _ _ _, ⟨rfl⟩, ⟨rfl⟩, by omega, Below.refl _ _⟩
  case round =>
    obtain ⟨k, z, A', c', pre, rfl, rfl, hz, ho', hpre, hk, hk10, hb'⟩ := hrel
    have hz64 : (z : Int) ≤ 18446744073709551615 := by omega
    by_cases hlt : 127 < z
    · have hzi : (128 : Int) ≤ (z : Int) := by omega
      have HPZ : Hd (putU z = UInt8.ofNat (z % 128 + 128) :: putU (z / 128)) := ⟨putU_big (by omega)⟩
      have hk9 : k + 1 ≤ 10 := by
        have h1 := HP.out
        have h2 := congrArg List.length hpre.out
        rw [HPZ.out] at h2
        have h3 : 1 ≤ (putU (z / 128)).length := by
          by_cases hs : z / 128 < 128
          · rw [putU_small hs]; simp
          · rw [putU_big hs]; simp
        have h4 := hk.out
        simp only [List.length_append, List.length_cons] at h2
        omega
      go_wp2_with (at_builtin; refine wl_app8 rfl (.tmp 6) (.tmp 11) rfl (k := [UInt8.ofNat (z % 128 + 128)]) (m := 1) rfl rfl (ho'.alloc _) (Rd8.new wr _ (byte_cell128 z) rfl) (by omega) (by have := hb'.size; simp; omega) ?_; rintro v w2 ⟨A2, c2, rfl, ho2, hg2, _⟩)
      have hb2 := below_app (hb'.alloc hb'.size _) (by have := hb'.size; simp; omega) (ho'.alloc _) hg2
      go_roundw
      case rel => exact ⟨k + 1, z / 128, A2, c2, pre ++ [UInt8.ofNat (z % 128 + 128)], rfl, by go_num, by omega, ho2, ⟨by rw [← hpre.out, HPZ.out]; simp⟩, ⟨by have := hk.out; simp; omega⟩, hk9, hb2⟩
      case measure => simp [intOf]; omega
    · have hzi : ¬ (128 : Int) ≤ (z : Int) := by omega
      have hz8 : (z : Int) < 256 := by omega
      have HPZ : Hd (putU z = [UInt8.ofNat z]) := ⟨putU_small (by omega)⟩
      go_wp2_with (at_builtin; refine wl_app8 rfl (.tmp 15) (.tmp 18) rfl (k := [UInt8.ofNat z]) (m := 1) rfl rfl (ho'.alloc _) (Rd8.new wr _ (cellN z (by omega)) rfl) (by omega) (by have := hb'.size; simp; omega) ?_; rintro v w2 ⟨A2, c2, rfl, ho2, hg2, _⟩)
      have hb2 := below_app (hb'.alloc hb'.size _) (by have := hb'.size; simp; omega) (ho'.alloc _) hg2
      go_ret
      refine ⟨_, _, _, rfl, ?_, hb2⟩
      have e : pre ++ [UInt8.ofNat z] = putU x := by rw [← hpre.out, HPZ.out]
      rw [← e]
      exact ho2
set_option maxRecDepth 100000 in
set_option maxHeartbeats 400000 in
theorem puttext168 (A : Option Addr) (n c : Nat) (l : List UInt8) (s : ByteArray) (w : World) (h : Rd8 w A n l) (hn : n + s.size ≤ 140737488355300) :
    Calls Try.prog 168 #[.slice A n c, .string s] w (Ret8 w (l ++ putU s.size ++ s.data.toList)) := by
  have HL := Hd.mk h.len
  have HP : Hd ((putU s.size).length ≤ 10) := ⟨putU_length s.size (by omega)⟩
  go_enter Try.func168, Try.ntmps168
  go_wp2_with (first
    | (go_at_call 145; refine (putu145 A n c l s.size w h (by omega) (by omega)).mono ?_; rintro e w1 ⟨A1, n1, c1, rfl, ho, hb⟩; have hn1 : n1 ≤ n + 10 := by (have h1 := ho.len; rw [List.length_append, HL.out] at h1; have := HP.out; omega))
    | (at_builtin; refine wl_apps8 rfl (.tmp 9) (.tmp 10) rfl rfl rfl ho (by omega) hb.size ?_; rintro v w2 ⟨A2, c2, rfl, ho2, hg2, _⟩))
  go_ret
  exact ⟨_, _, _, rfl, ho2, below_app hb hb.size ho hg2⟩
set_option maxRecDepth 100000 in
set_option maxHeartbeats 400000 in
theorem rbytes169 (A : Option Addr) (n c : Nat) (l : List UInt8) (w : World) (h : Rd8 w A n l) (hn : n ≤ 140737488355300) :
    Calls Try.prog 169 #[.slice A n c] w (Ret8 w (putU n ++ l)) := by
  have HP : Hd ((putU n).length ≤ 10) := ⟨putU_length n (by omega)⟩
  go_enter Try.func169, Try.ntmps169
  go_wp2_with (first
    | (go_at_call 170; refine (ruint170 n w (by omega)).mono ?_; rintro e w1 ⟨A1, n1, c1, rfl, ho, hb⟩; have hn1 : n1 ≤ 10 := by (have h1 := ho.len; have := HP.out; omega))
    | (at_builtin; refine wl_app8 rfl (.tmp 6) (.tmp 7) rfl rfl rfl ho (h.below hb) (by omega) hb.size ?_; rintro v w2 ⟨A2, c2, rfl, ho2, hg2, _⟩))
  go_ret
  exact ⟨_, _, _, rfl, ho2, below_app hb hb.size ho hg2⟩
end Go.Proofs.Ytkgdcglnkodgnaa
