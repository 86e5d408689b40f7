/-
  The walks of layer 19 (page) and of its reference: how many pages, a page made. No condition but sizes.
-/
import Derived.Test.YtkgdcglnkodgnaaOct
namespace Go.Proofs.Ytkgdcglnkodgnaa
open Go.RowKit
/-- Pages for so many bytes. -/
def pages (n : Int) : Int := if n < 1 then 0 else (n - 1) / 246 + 1
/-- How many pages a book of so many bytes has; the error. -/
def count (n : Nat) : Nat × Nat := if 4194304 < n then (0, 2) else if n % 256 = 0 then (n / 256, 0) else (0, 192)
set_option maxRecDepth 100000 in
set_option maxHeartbeats 400000 in
theorem pages40 (n : Int) (w : World) (h : n ≤ 9223372036854775807) :
    Calls Try.prog 40 #[.int .i64 n] w fun e w' => e = .returned (.int .i64 (pages n)) ∧ w = w' := by
  go_enter Try.func40, Try.ntmps40
  by_cases h1 : n < 1
  · have e : pages n = 0 := if_pos h1
    rw [e]
    go_wp2
    go_ret
    exact ⟨rfl, rfl⟩
  · have e : pages n = (n - 1) / 246 + 1 := if_neg h1
    rw [e]
    go_wp2
    go_ret
    exact ⟨rfl, rfl⟩
set_option maxRecDepth 100000 in
set_option maxHeartbeats 400000 in
theorem pages41 (n : Int) (w : World) (h : n ≤ 9223372036854775807) :
    Calls Try.prog 41 #[.int .i64 n] w fun e w' => e = .returned (.int .i64 (pages n)) ∧ w = w' := by
  go_enter Try.func41, Try.ntmps41
  by_cases h1 : n < 1
  · have e : pages n = 0 := if_pos h1
    rw [e]
    go_wp2
    go_ret
    exact ⟨rfl, rfl⟩
  · have e : pages n = (n - 1) / 246 + 1 := if_neg h1
    rw [e]
    go_wp2
    go_ret
    exact ⟨rfl, rfl⟩
set_option maxRecDepth 100000 in
set_option maxHeartbeats 400000 in
theorem count34 (A : Option Addr) (n c : Nat) (w : World) (hn : n ≤ 140737488355328) :
    Calls Try.prog 34 #[.slice A n c] w fun e w' => e = .returned (.tuple #[.int .i64 ((count n).1 : Int), .int .i64 ((count n).2 : Int)]) ∧ w = w' := by
  go_enter Try.func34, Try.ntmps34
  by_cases h1 : 4194304 < n
  · have e : count n = (0, 2) := if_pos h1
    rw [e]
    go_wp2
    go_ret2
    exact ⟨rfl, rfl⟩
  · by_cases h2 : n % 256 = 0
    · have e : count n = (n / 256, 0) := by unfold count; rw [if_neg h1, if_pos h2]
      rw [e]
      have hb : (((n : Int) % 256) != 0) = false := by simp; omega
      go_wp2
      go_ret2
      exact ⟨by simp, rfl⟩
    · have e : count n = (0, 192) := by unfold count; rw [if_neg h1, if_neg h2]
      rw [e]
      have hb : (((n : Int) % 256) != 0) = true := by simp; omega
      go_wp2
      go_ret2
      exact ⟨rfl, rfl⟩
set_option maxRecDepth 100000 in
set_option maxHeartbeats 400000 in
theorem count35 (A : Option Addr) (n c : Nat) (w : World) (hn : n ≤ 140737488355328) :
    Calls Try.prog 35 #[.slice A n c] w fun e w' => e = .returned (.tuple #[.int .i64 ((count n).1 : Int), .int .i64 ((count n).2 : Int)]) ∧ w = w' := by
  go_enter Try.func35, Try.ntmps35
  by_cases h1 : 4194304 < n
  · have e : count n = (0, 2) := if_pos h1
    rw [e]
    go_wp2
    go_ret2
    exact ⟨rfl, rfl⟩
  · by_cases h2 : n % 256 = 0
    · have e : count n = (n / 256, 0) := by unfold count; rw [if_neg h1, if_pos h2]
      rw [e]
      have hb : (((n : Int) % 256) != 0) = false := by simp; omega
      go_wp2
      go_ret2
      exact ⟨by simp, rfl⟩
    · have e : count n = (0, 192) := by unfold count; rw [if_neg h1, if_neg h2]
      rw [e]
      have hb : (((n : Int) % 256) != 0) = true := by simp; omega
      go_wp2
      go_ret2
      exact ⟨rfl, rfl⟩
/-- A page but for its sum. -/
def body (kind : UInt8) (number : Nat) (data : List UInt8) : List UInt8 := [kind] ++ low4 number ++ [UInt8.ofNat data.length] ++ data ++ zeros (246 - data.length)
/-- A page. -/
def mkPage (kind : UInt8) (number : Nat) (data : List UInt8) : List UInt8 := body kind number data ++ low4 (crc (body kind number data))
/-- Make's answer. -/
def make (kind : UInt8) (number : Int) (data : List UInt8) : List UInt8 × Nat :=
  if number < 0 ∨ 16384 ≤ number then ([], 1) else if 246 < data.length then ([], 2) else (mkPage kind number.toNat data, 0)
theorem low4_length (x : Nat) : (low4 x).length = 4 := rfl
theorem zeros_length (n : Nat) : (zeros n).length = n := by simp [zeros]
theorem body_length (kind : UInt8) (number : Nat) (data : List UInt8) (h : data.length ≤ 246) : (body kind number data).length = 252 := by
  simp only [body, List.length_append, List.length_cons, List.length_nil, low4_length, zeros_length]; omega
theorem mkPage_length (kind : UInt8) (number : Nat) (data : List UInt8) (h : data.length ≤ 246) : (mkPage kind number data).length = 256 := by
  rw [mkPage, List.length_append, body_length _ _ _ h, low4_length]

/-- Bytes and an error's number, the bytes new. -/
def RetE8 (w0 : World) (l : List UInt8) (err : Nat) (e : Ending) (w' : World) : Prop :=
  ∃ A n c, e = .returned (.tuple #[.slice A n c, .int .i64 (err : Int)]) ∧ Own8 w' w0.heap.size A n c l ∧ Below w0.heap.size w0 w'
theorem cell1 (b : UInt8) : #[Value.int .u8 (b.toNat : Int)] = (bc [b]).toArray := rfl
theorem cellN (n : Nat) (h : n ≤ 255) : #[Value.int .u8 (n : Int)] = (bc [UInt8.ofNat n]).toArray := by
  have : ((UInt8.ofNat n).toNat : Int) = n := by simp; omega
  simp [bc, -UInt8.toNat_ofNat', this]
set_option maxRecDepth 100000 in
set_option maxHeartbeats 400000 in
theorem make25 (kind : UInt8) (number : Int) (A : Option Addr) (n c : Nat) (l : List UInt8) (w : World) (h : Rd8 w A n l) :
    Calls Try.prog 25 #[.int .u8 (kind.toNat : Int), .int .i64 number, .slice A n c] w (RetE8 w (make kind number l).1 (make kind number l).2) := by
  have HL := Hd.mk h.len
  by_cases h1 : number < 0 ∨ 16384 ≤ number
  · have e : make kind number l = ([], 1) := if_pos h1
    rw [e]
    rcases h1 with h1 | h1
    · go_enter Try.func25, Try.ntmps25
      go_wp2
      go_ret2
      exact ⟨_, _, _, rfl, Own8.nil_ _ _ _, Below.refl _ _⟩
    · go_enter Try.func25, Try.ntmps25
      go_wp2
      go_ret2
      exact ⟨_, _, _, rfl, Own8.nil_ _ _ _, Below.refl _ _⟩
  · by_cases h2 : 246 < n
    · have e : make kind number l = ([], 2) := by unfold make; rw [if_neg h1, if_pos (by rw [HL.out]; exact h2)]
      rw [e]
      have h1' : 0 ≤ number := by omega
      have h1'' : number < 16384 := by omega
      clear h1
      go_enter Try.func25, Try.ntmps25
      go_wp2
      go_ret2
      exact ⟨_, _, _, rfl, Own8.nil_ _ _ _, Below.refl _ _⟩
    · obtain ⟨x, rfl⟩ := Int.eq_ofNat_of_zero_le (show 0 ≤ number by omega)
      have h1' : x < 16384 := by omega
      clear h1
      have e : make kind (x : Int) l = (mkPage kind x l, 0) := by unfold make; rw [if_neg (by omega), if_neg (by rw [HL.out]; exact h2)]; rfl
      rw [e]
      clear e
      have hbyte : ((kind.toNat : Nat) : Int) < 256 := by have := byte_lt kind; omega
      go_enter Try.func25, Try.ntmps25
      have hx32 : Hd (x < 4294967296) := ⟨by omega⟩
      have hbody : [kind] ++ low4 x ++ [UInt8.ofNat n] ++ l ++ zeros (246 - n) = body kind x l := by rw [body, HL.out]
      have HP := Hd.mk (show mkPage kind x l = body kind x l ++ low4 (crc (body kind x l)) from rfl)
      go_wp2_with fail
      refine (put32_84 _ 1 1 [kind] x _ (Rd8.new w _ (cell1 kind) rfl) (by omega) hx32 (by omega)).mono ?_
      rintro e w1 ⟨A1, n1, c1, rfl, ho1', hb1'⟩
      have hb1 : Below w.heap.size w w1 := ((Below.refl _ _).alloc (Nat.le_refl _) _).trans (hb1'.mono (by simp))
      have ho1 := ho1'.mono (b := w.heap.size) (by simp)
      have hn1 : n1 = 5 := by have := ho1.len; rw [← this]; rfl
      subst hn1
      clear ho1' hb1'
      go_wp2_with (first
        | (at_builtin; refine wl_app8 rfl (.tmp 22) (.tmp 26) rfl (k := [UInt8.ofNat n]) (m := 1) rfl rfl (ho1.alloc _) (Rd8.new w1 _ (cellN n (by omega)) rfl) (by omega) (by have := hb1.size; simp; omega) ?_; rintro v w2 ⟨A2, c2, rfl, ho2, hg2, _⟩; have hb2 := below_app (hb1.alloc hb1.size _) (by have := hb1.size; simp; omega) (ho1.alloc _) hg2)
        | (at_builtin; refine wl_app8 rfl (.tmp 28) (.tmp 29) rfl rfl rfl ho2 (h.below hb2) (by omega) hb2.size ?_; rintro v w3 ⟨A3, c3, rfl, ho3, hg3, _⟩; have hb3 := below_app hb2 hb2.size ho2 hg3)
        | (at_builtin; refine wl_appz8 rfl (.tmp 31) (.tmp 34) rfl (m := 246 - n) rfl rfl (by omega) ho3 (by omega) hb3.size ?_; rintro v w4 ⟨A4, c4, rfl, ho4, hg4, _⟩; rw [hbody] at ho4; have hb4 := below_app hb3 hb3.size ho3 hg4)
        | (go_at_call 85; refine (sum85 _ _ _ _ _ ho4.rd (by omega)).mono ?_; rintro e w5 ⟨rfl, rfl⟩))
      have HC := Hd.mk (crc_lt (body kind x l))
      have hc32 : ((crc (body kind x l) : Nat) : Int) ≤ 4294967295 := by have := HC.out; omega
      refine (put32_84 _ _ _ _ _ _ ho4.rd (by omega) HC hc32).mono ?_
      rintro e w5 ⟨A5, n5, c5, rfl, ho5, hb5⟩
      rw [← HP.out] at ho5
      have hb6 : Below w.heap.size w w5 := hb4.trans (hb5.mono hb4.size)
      go_wp2
      go_ret2
      exact ⟨_, _, _, rfl, ho5.mono hb4.size, hb6⟩
theorem zero_cell : #[Value.int .u8 0] = (bc [0]).toArray := by simp [bc]
theorem zeros_snoc (k : Nat) : zeros k ++ [0] = zeros (k + 1) := by simp [zeros, List.replicate_succ']
set_option maxRecDepth 100000 in
set_option maxHeartbeats 400000 in
theorem rmake27 (kind : UInt8) (number : Int) (A : Option Addr) (n c : Nat) (l : List UInt8) (w : World) (h : Rd8 w A n l) :
    Calls Try.prog 27 #[.int .u8 (kind.toNat : Int), .int .i64 number, .slice A n c] w (RetE8 w (make kind number l).1 (make kind number l).2) := by
  have HL := Hd.mk h.len
  by_cases h1 : number < 0 ∨ 16384 ≤ number
  · have e : make kind number l = ([], 1) := if_pos h1
    rw [e]
    rcases h1 with h1 | h1
    · go_enter Try.func27, Try.ntmps27
      go_wp2
      go_ret2
      exact ⟨_, _, _, rfl, Own8.nil_ _ _ _, Below.refl _ _⟩
    · go_enter Try.func27, Try.ntmps27
      go_wp2
      go_ret2
      exact ⟨_, _, _, rfl, Own8.nil_ _ _ _, Below.refl _ _⟩
  · by_cases h2 : 246 < n
    · have e : make kind number l = ([], 2) := by unfold make; rw [if_neg h1, if_pos (by rw [HL.out]; exact h2)]
      rw [e]
      have h1' : 0 ≤ number := by omega
      have h1'' : number < 16384 := by omega
      clear h1
      go_enter Try.func27, Try.ntmps27
      go_wp2
      go_ret2
      exact ⟨_, _, _, rfl, Own8.nil_ _ _ _, Below.refl _ _⟩
    · obtain ⟨x, rfl⟩ := Int.eq_ofNat_of_zero_le (show 0 ≤ number by omega)
      have h1' : x < 16384 := by omega
      clear h1
      have e : make kind (x : Int) l = (mkPage kind x l, 0) := by unfold make; rw [if_neg (by omega), if_neg (by rw [HL.out]; exact h2)]; rfl
      rw [e]
      clear e
      have hbyte : ((kind.toNat : Nat) : Int) < 256 := by have := byte_lt kind; omega
      have hbody : [kind] ++ low4 x ++ [UInt8.ofNat n] ++ l ++ zeros (246 - n) = body kind x l := by rw [body, HL.out]
      have HB := Hd.mk hbody
      clear hbody
      have HP := Hd.mk (show mkPage kind x l = body kind x l ++ low4 (crc (body kind x l)) from rfl)
      go_enter Try.func27, Try.ntmps27
      go_wp2_with fail
      refine (low86 x 4 _ (by omega) (by omega)).mono ?_
      rintro e w1 ⟨A1, n1, c1, rfl, ho1, hb1'⟩
      have ho0 := (Own8.new w [kind] (cell1 kind) (m := 1) (base := w.heap.size) rfl (Nat.le_refl _) (by simp [maxLen])).below hb1'
      have hb1 : Below w.heap.size w w1 := ((Below.refl _ _).alloc (Nat.le_refl _) _).trans (hb1'.mono (by simp))
      have hn1 : n1 = 4 := by rw [← ho1.len]; rfl
      subst hn1
      rw [lowN_four] at ho1
      go_wp2_with (first
        | (at_builtin; refine wl_app8 rfl (.tmp 20) (.tmp 23) rfl rfl rfl ho0 ho1.rd (by omega) hb1.size ?_; rintro v w2 ⟨A2, c2, rfl, ho2, hg2, _⟩; have hb2 := below_app hb1 hb1.size ho0 hg2)
        | (at_builtin; refine wl_app8 rfl (.tmp 25) (.tmp 29) rfl (k := [UInt8.ofNat n]) (m := 1) rfl rfl (ho2.alloc _) (Rd8.new w2 _ (cellN n (by omega)) rfl) (by omega) (by have := hb2.size; simp; omega) ?_; rintro v w3 ⟨A3, c3, rfl, ho3, hg3, _⟩; have hb3 := below_app (hb2.alloc hb2.size _) (by have := hb2.size; simp; omega) (ho2.alloc _) hg3)
        | (at_builtin; refine wl_app8 rfl (.tmp 31) (.tmp 32) rfl rfl rfl ho3 (h.below hb3) (by omega) hb3.size ?_; rintro v w4 ⟨A4, c4, rfl, ho4, hg4, _⟩; have hb4 := below_app hb3 hb3.size ho3 hg4))
      clear ho3 ho2 ho1 ho0 hg2 hg3 hg4 hb1 hb2 hb3
      generalize hpre : [kind] ++ low4 x ++ [UInt8.ofNat n] ++ l = pre at *
      have HPRE := Hd.mk hpre
      clear hpre
      go_loopw [8] (fun v wr => ∃ (k : Nat) (A' : Option Addr) (c' : Nat), n + k ≤ 246 ∧ v = .slice A' (6 + n + k) c' ∧ Own8 wr w.heap.size A' (6 + n + k) c' (pre ++ zeros k) ∧ Below w.heap.size w wr)
        (fun v _ => match v with | .slice _ m _ => 252 - m | _ => 0)
      case atStart => exact ⟨0, A4, c4, by omega, rfl, by simpa [zeros] using ho4, hb4⟩
      case round =>
        obtain ⟨k, A', c', hk, rfl, ho, hb⟩ := hrel
        by_cases hlt : n + k < 246
        · go_wp2_with (first
            | (at_builtin; refine wl_app8 rfl (.tmp 37) (.tmp 38) rfl (k := [0]) (m := 1) rfl rfl (ho.alloc _) (Rd8.new wr _ zero_cell rfl) (by omega) (by have := hb.size; simp; omega) ?_; rintro v w5 ⟨A5, c5, rfl, ho5, hg5, _⟩; have hb5 := below_app (hb.alloc hb.size _) (by have := hb.size; simp; omega) (ho.alloc _) hg5; rw [List.append_assoc, zeros_snoc] at ho5))
          go_roundw
          case rel => exact ⟨k + 1, A5, c5, by omega, rfl, ho5, hb5⟩
          case measure => simp; omega
        · obtain rfl : k = 246 - n := by omega
          rw [HB.out] at ho
          have HC := Hd.mk (crc_lt (body kind x l))
          have hc32 : ((crc (body kind x l) : Nat) : Int) ≤ 4294967295 := by have := HC.out; omega
          go_wp2_with (first
            | (go_at_call 87; refine (rsum87 _ _ _ _ _ ho.rd (by omega)).mono ?_; rintro e w5 ⟨rfl, rfl⟩)
            | (go_at_call 86; refine (low86 (crc (body kind x l)) 4 _ (by omega) (by omega)).mono ?_; rintro e w5 ⟨A5, n5, c5, rfl, ho5, hb5⟩; obtain rfl : n5 = 4 := (by rw [← ho5.len]; rfl); rw [lowN_four] at ho5; have ho6 := ho.below hb5; have hb6 := hb.trans (hb5.mono hb.size))
            | (at_builtin; refine wl_app8 rfl (.tmp 40) (.tmp 44) rfl rfl rfl ho6 ho5.rd (by omega) hb6.size ?_; rintro v w6 ⟨A6, c6, rfl, ho7, hg7, _⟩; have hb7 := below_app hb6 hb6.size ho6 hg7))
          go_ret2
          rw [← HP.out] at ho7
          exact ⟨_, _, _, rfl, ho7, hb7⟩
end Go.Proofs.Ytkgdcglnkodgnaa
