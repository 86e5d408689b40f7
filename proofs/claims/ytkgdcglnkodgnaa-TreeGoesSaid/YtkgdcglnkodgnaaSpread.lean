/-
  The walks of layer 19 (page) and of its reference: Spread. No condition but sizes.
-/
import Derived.Test.YtkgdcglnkodgnaaPage
namespace Go.Proofs.Ytkgdcglnkodgnaa
open Go.RowKit
/-- How many pages. -/
def npages (n : Nat) : Nat := (n + 245) / 246
theorem pages_nat (n : Nat) : pages n = npages n := by unfold pages npages; split <;> omega
/-- Pages one behind the other. -/
def spr (kind : UInt8) (x : Nat) (data : List UInt8) (m : Nat) : List UInt8 := (List.range m).flatMap fun i => mkPage kind (x + i) ((data.drop (246 * i)).take 246)
theorem spr_succ (kind : UInt8) (x : Nat) (data : List UInt8) (m : Nat) : spr kind x data (m + 1) = spr kind x data m ++ mkPage kind (x + m) ((data.drop (246 * m)).take 246) := by
  simp [spr, List.range_succ, List.flatMap_append]
theorem spr_length (kind : UInt8) (x : Nat) (data : List UInt8) : ∀ m, (spr kind x data m).length = 256 * m
  | 0 => rfl
  | m + 1 => by rw [spr_succ, List.length_append, spr_length kind x data m, mkPage_length _ _ _ (by rw [List.length_take]; omega)]; omega
/-- Spread's answer. -/
def spread (kind : UInt8) (first : Int) (data : List UInt8) : List UInt8 × Nat :=
  if first < 0 ∨ 16383 < first ∨ 16384 < first + npages data.length then ([], 1) else (spr kind first.toNat data (npages data.length), 0)
theorem make_ok (kind : UInt8) (y : Nat) (d : List UInt8) (h1 : y < 16384) (h2 : d.length ≤ 246) : make kind (y : Int) d = (mkPage kind y d, 0) := by
  unfold make; rw [if_neg (by omega), if_neg (by omega)]; rfl
theorem make_ok' (kind : UInt8) (x k : Nat) (d : List UInt8) (h1 : x + k < 16384) (h2 : d.length ≤ 246) : make kind ((x : Int) + (k : Int)) d = (mkPage kind (x + k) d, 0) := by
  have := make_ok kind (x + k) d h1 h2
  rwa [Int.natCast_add] at this
set_option maxRecDepth 100000 in
set_option maxHeartbeats 8000000 in
theorem spread31_ok (kind : UInt8) (x : Nat) (A : Option Addr) (n c : Nat) (l : List UInt8) (w : World) (h : Rd8 w A n l) (hn : n ≤ 140737488355328) (hnc : n ≤ c) (h1 : x ≤ 16383) (h2 : x + npages n ≤ 16384) (hn0 : 1 ≤ n) :
    Calls Try.prog 31 #[.int .u8 (kind.toNat : Int), .int .i64 x, .slice A n c] w (RetE8 w (spr kind x l (npages n)) 0) := by
  have HL := Hd.mk h.len
  have HN := Hd.mk (show npages n = (n + 245) / 246 from rfl)
  have hp := pages_nat n
  generalize hm : npages n = m at *
  clear hm
  have hm0 : ((m : Int) == 0) = false := by rw [beq_eq_false_iff_ne]; have := HN.out; omega
  go_enter Try.func31, Try.ntmps31
  go_wp2_with (go_at_call 40; refine (pages40 n _ (by omega)).mono ?_; rw [hp]; rintro e w' ⟨rfl, rfl⟩; clear hp)
  clear hm0
  go_loopw [38, 9, 2, 10, 11, 12, 13] (fun i v d _ _ _ _ wr => ∃ (k : Nat) (A' : Option Addr) (c' : Nat) (D : Option Addr) (dn dc : Nat), k ≤ m ∧ i = .int .i64 k ∧ v = .slice A' (256 * k) c' ∧ d = .slice D dn dc ∧ dn ≤ dc ∧
      dn = n - 246 * k ∧ Own8 wr w.heap.size A' (256 * k) c' (spr kind x l k) ∧ Rd8 w D dn (l.drop (246 * k)) ∧ Below w.heap.size w wr)
    (fun i _ _ _ _ _ _ _ => m - (intOf i).toNat)
  case atStart => exact ⟨0, none, 0, A, n, c, by omega, rfl, rfl, rfl, hnc, by omega, Own8.nil_ _ _ _, by simpa using h, Below.refl _ _⟩
  case round =>
    obtain ⟨k, A', c', D, dn, dc, hk, rfl, rfl, rfl, hdc, hdn, ho, hr, hb⟩ := hrel
    have HSP := Hd.mk (spr_succ kind x l k)
    have HDN := Hd.mk hdn
    clear hdn
    by_cases hlt : k < m
    · have hd0 : 1 ≤ dn := by have := HN.out; have := HDN.out; omega
      have HMK := Hd.mk (make_ok' kind x k ((l.drop (246 * k)).take 246) (by omega) (by rw [List.length_take]; omega))
      have HM := Hd.mk (mkPage_length kind (x + k) ((l.drop (246 * k)).take 246) (by rw [List.length_take]; omega))
      by_cases hd : 246 < dn
      · go_wp2_with (first
          | (go_at_call 25; refine (make25 kind ((x : Int) + (k : Int)) D 246 dc _ wr ((hr.below hb).take (by omega))).mono ?_; rw [HMK.out]; rintro e w1 ⟨A1, n1, c1, rfl, ho1, hb1⟩; obtain rfl : n1 = 256 := (by rw [← ho1.len]; exact HM.out); have hb2 := hb.trans (hb1.mono hb.size); have ho' := ho.below hb1))
        have hd' : (246 : Int) ≤ (dn : Int) := by omega
        go_region_law ((refine st_app8 (by rfl) (.tmp 58) (.tmp 59) (by rfl) (by rfl) (by rfl) ho'.drew ho1.rd.drew (by omega) hb2.size ?_; rintro v w2 ⟨A2, c2, rfl, ho2, hg2, _⟩))
        have hb3 := below_app hb2.drew hb2.size ho'.drew hg2
        go_wp2
        go_roundw
        case rel =>
          refine ⟨k + 1, A2, c2, _, dn - 246, dc - 246, by omega, by go_num, rfl, rfl, by omega, by have := HDN.out; omega, by rw [HSP.out]; exact ho2, ?_, hb3⟩
          have := hr.drop (a := 246) (m := dc) (by omega) hdc
          rw [List.drop_drop] at this
          simpa [Addr.add, Nat.mul_add] using this
        case measure => simp [intOf]; omega
      · have hd2 : (dn : Int) ≤ 246 := by omega
        have hd3 : (dn : Int) ≤ (dn : Int) := by omega
        have HTK := Hd.mk (show (l.drop (246 * k)).take 246 = l.drop (246 * k) from List.take_of_length_le (by rw [hr.len]; omega))
        rw [HTK.out] at HMK HM HSP
        go_wp2_with (first
          | (go_at_call 25; refine (make25 kind ((x : Int) + (k : Int)) D dn dc _ wr (hr.below hb)).mono ?_; rw [HMK.out]; rintro e w1 ⟨A1, n1, c1, rfl, ho1, hb1⟩; obtain rfl : n1 = 256 := (by rw [← ho1.len]; exact HM.out); have hb2 := hb.trans (hb1.mono hb.size); have ho' := ho.below hb1))
        go_region_law ((refine st_app8 (by rfl) (.tmp 58) (.tmp 59) (by rfl) (by rfl) (by rfl) ho'.drew ho1.rd.drew (by omega) hb2.size ?_; rintro v w2 ⟨A2, c2, rfl, ho2, hg2, _⟩))
        have hb3 := below_app hb2.drew hb2.size ho'.drew hg2
        go_wp2
        go_roundw
        case rel =>
          refine ⟨k + 1, A2, c2, _, _, _, by omega, by go_num, rfl, rfl, by omega, by have := HDN.out; omega, by rw [HSP.out]; exact ho2, ?_, hb3⟩
          have := hr.drop (a := dn) (m := dc) (by omega) hdc
          rw [List.drop_drop, List.drop_of_length_le (by rw [HL.out]; have := HDN.out; omega)] at this
          rw [List.drop_of_length_le (by rw [HL.out]; have := HDN.out; omega)]
          simpa [Addr.add] using this
        case measure => simp [intOf]; omega
    · obtain rfl : k = m := by omega
      go_wp2
      go_ret2
      exact ⟨_, _, _, rfl, ho, hb⟩
set_option maxRecDepth 100000 in
set_option maxHeartbeats 400000 in
theorem spread31_zero (kind : UInt8) (x : Nat) (A : Option Addr) (c : Nat) (w : World) (h1 : x ≤ 16383) :
    Calls Try.prog 31 #[.int .u8 (kind.toNat : Int), .int .i64 x, .slice A 0 c] w (RetE8 w [] 0) := by
  go_enter Try.func31, Try.ntmps31
  go_wp2_with (go_at_call 40; refine (pages40 0 _ (by omega)).mono ?_; rw [show pages 0 = 0 from rfl]; rintro e w' ⟨rfl, rfl⟩)
  refine wp_loop_rounds 1 ?_
  rw [rounds_succ]
  go_wp2
  go_ret2
  exact ⟨_, _, _, rfl, Own8.nil_ _ _ _, Below.refl _ _⟩
set_option maxRecDepth 100000 in
set_option maxHeartbeats 400000 in
theorem spread31_bad (kind : UInt8) (first : Int) (A : Option Addr) (n c : Nat) (w : World) (hn : n ≤ 140737488355328) (hlo : -9223372036854775808 ≤ first) (hhi : first ≤ 9223372036854775807) (h : first < 0 ∨ 16383 < first ∨ 16384 < first + npages n) :
    Calls Try.prog 31 #[.int .u8 (kind.toNat : Int), .int .i64 first, .slice A n c] w (RetE8 w [] 1) := by
  have HN := Hd.mk (show npages n = (n + 245) / 246 from rfl)
  have hp := pages_nat n
  generalize hm : npages n = m at *
  clear hm
  have hm1 : (m : Int) ≤ 140737488355328 := by have := HN.out; omega
  by_cases h0 : first < 0
  · go_enter Try.func31, Try.ntmps31
    go_wp2_with (go_at_call 40; refine (pages40 n _ (by omega)).mono ?_; rw [hp]; rintro e w' ⟨rfl, rfl⟩; clear hp)
    go_ret2
    exact ⟨_, _, _, rfl, Own8.nil_ _ _ _, Below.refl _ _⟩
  · have h0' : 0 ≤ first := by omega
    by_cases h1 : 16384 < first
    · clear h h0
      go_enter Try.func31, Try.ntmps31
      go_wp2_with (go_at_call 40; refine (pages40 n _ (by omega)).mono ?_; rw [hp]; rintro e w' ⟨rfl, rfl⟩; clear hp)
      go_ret2
      exact ⟨_, _, _, rfl, Own8.nil_ _ _ _, Below.refl _ _⟩
    · have h1' : first ≤ 16384 := by omega
      by_cases h2 : 16384 - first < m
      · clear h h0 h1
        go_enter Try.func31, Try.ntmps31
        go_wp2_with (go_at_call 40; refine (pages40 n _ (by omega)).mono ?_; rw [hp]; rintro e w' ⟨rfl, rfl⟩; clear hp)
        go_ret2
        exact ⟨_, _, _, rfl, Own8.nil_ _ _ _, Below.refl _ _⟩
      · have h3 : first = 16384 := by omega
        have h4 : m = 0 := by omega
        subst h3; subst h4
        clear h h0 h1 h2
        go_enter Try.func31, Try.ntmps31
        go_wp2_with (go_at_call 40; refine (pages40 n _ (by omega)).mono ?_; rw [hp]; rintro e w' ⟨rfl, rfl⟩; clear hp)
        go_ret2
        exact ⟨_, _, _, rfl, Own8.nil_ _ _ _, Below.refl _ _⟩
theorem spread31 (kind : UInt8) (first : Int) (A : Option Addr) (n c : Nat) (l : List UInt8) (w : World) (h : Rd8 w A n l) (hn : n ≤ 140737488355328) (hnc : n ≤ c) (hlo : -9223372036854775808 ≤ first) (hhi : first ≤ 9223372036854775807) :
    Calls Try.prog 31 #[.int .u8 (kind.toNat : Int), .int .i64 first, .slice A n c] w (RetE8 w (spread kind first l).1 (spread kind first l).2) := by
  unfold spread
  rw [h.len]
  by_cases hb : first < 0 ∨ 16383 < first ∨ 16384 < first + npages n
  · rw [if_pos hb]
    exact spread31_bad kind first A n c w hn hlo hhi hb
  · rw [if_neg hb]
    obtain ⟨x, rfl⟩ := Int.eq_ofNat_of_zero_le (show 0 ≤ first by omega)
    by_cases h0 : 1 ≤ n
    · exact spread31_ok kind x A n c l w h hn hnc (by omega) (by omega) h0
    · obtain rfl : n = 0 := by omega
      exact spread31_zero kind x A c w (by omega)
set_option maxRecDepth 100000 in
set_option maxHeartbeats 8000000 in
theorem spread32_ok (kind : UInt8) (x : Nat) (A : Option Addr) (n c : Nat) (l : List UInt8) (w : World) (h : Rd8 w A n l) (hn : n ≤ 140737488355328) (hnc : n ≤ c) (h1 : x ≤ 16383) (h2 : x + npages n ≤ 16384) :
    Calls Try.prog 32 #[.int .u8 (kind.toNat : Int), .int .i64 x, .slice A n c] w (RetE8 w (spr kind x l (npages n)) 0) := by
  have HL := Hd.mk h.len
  have HN := Hd.mk (show npages n = (n + 245) / 246 from rfl)
  have HP := Hd.mk (pages_nat n)
  generalize hm : npages n = m at *
  clear hm
  go_enter Try.func32, Try.ntmps32
  go_wp2_with (go_at_call 41; refine (pages41 n _ (by omega)).mono ?_; rw [HP.out]; rintro e w' ⟨rfl, rfl⟩)
  go_loopw [8, 9, 10, 11] (fun v i _ _ wr => ∃ (k : Nat) (A' : Option Addr) (c' : Nat), k ≤ m ∧ i = .int .i64 k ∧ v = .slice A' (256 * k) c' ∧ Own8 wr w.heap.size A' (256 * k) c' (spr kind x l k) ∧ Below w.heap.size w wr)
    (fun _ i _ _ _ => m - (intOf i).toNat)
  case atStart => exact ⟨0, none, 0, by omega, rfl, rfl, Own8.nil_ _ _ _, Below.refl _ _⟩
  case round =>
    obtain ⟨k, A', c', hk, rfl, rfl, ho, hb⟩ := hrel
    have HSP := Hd.mk (spr_succ kind x l k)
    by_cases hlt : k < m
    · have hd0 : 246 * k < n := by have := HN.out; omega
      have HMK := Hd.mk (make_ok' kind x k ((l.drop (246 * k)).take 246) (by omega) (by rw [List.length_take]; omega))
      have HM := Hd.mk (mkPage_length kind (x + k) ((l.drop (246 * k)).take 246) (by rw [List.length_take]; omega))
      have HR := h.mid (a := k * 246) (q := min 246 (n - 246 * k)) (by omega)
      have HTK := Hd.mk (show (l.drop (k * 246)).take (min 246 (n - 246 * k)) = (l.drop (246 * k)).take 246 by
        rw [Nat.mul_comm k 246]
        by_cases hd : n - 246 * k ≤ 246
        · rw [Nat.min_eq_right hd, List.take_of_length_le (by rw [List.length_drop, HL.out]; omega), List.take_of_length_le (by rw [List.length_drop, HL.out]; omega)]
        · rw [Nat.min_eq_left (by omega)])
      rw [HTK.out] at HR
      by_cases hd : 246 * k + 246 < n
      · rw [Nat.min_eq_left (by omega)] at HR
        go_wp2_with (first
          | (go_at_call 41; refine (pages41 n _ (by omega)).mono ?_; rw [HP.out]; rintro e w' ⟨rfl, rfl⟩)
          | (go_at_call 27; refine (rmake27 kind ((x : Int) + (k : Int)) _ 246 _ _ wr (HR.below hb)).mono ?_; rw [HMK.out]; rintro e w1 ⟨A1, n1, c1, rfl, ho1, hb1⟩; obtain rfl : n1 = 256 := (by rw [← ho1.len]; exact HM.out); have hb2 := hb.trans (hb1.mono hb.size); have ho' := ho.below hb1)
          | (at_builtin; refine wl_app8 rfl (.tmp 51) (.tmp 52) rfl rfl rfl ho' ho1.rd (by omega) hb2.size ?_; rintro v w2 ⟨A2, c2, rfl, ho2, hg2, _⟩; have hb3 := below_app hb2 hb2.size ho' hg2))
        go_roundw
        case rel => exact ⟨k + 1, A2, c2, by omega, by go_num, rfl, by rw [HSP.out]; exact ho2, hb3⟩
        case measure => simp [intOf]; omega
      · rw [Nat.min_eq_right (by omega), show n - 246 * k = n - k * 246 by omega] at HR
        go_wp2_with (first
          | (go_at_call 41; refine (pages41 n _ (by omega)).mono ?_; rw [HP.out]; rintro e w' ⟨rfl, rfl⟩)
          | (go_at_call 27; refine (rmake27 kind ((x : Int) + (k : Int)) _ _ _ _ wr (HR.below hb)).mono ?_; rw [HMK.out]; rintro e w1 ⟨A1, n1, c1, rfl, ho1, hb1⟩; obtain rfl : n1 = 256 := (by rw [← ho1.len]; exact HM.out); have hb2 := hb.trans (hb1.mono hb.size); have ho' := ho.below hb1)
          | (at_builtin; refine wl_app8 rfl (.tmp 51) (.tmp 52) rfl rfl rfl ho' ho1.rd (by omega) hb2.size ?_; rintro v w2 ⟨A2, c2, rfl, ho2, hg2, _⟩; have hb3 := below_app hb2 hb2.size ho' hg2))
        go_roundw
        case rel => exact ⟨k + 1, A2, c2, by omega, by go_num, rfl, by rw [HSP.out]; exact ho2, hb3⟩
        case measure => simp [intOf]; omega
    · obtain rfl : k = m := by omega
      go_wp2_with (go_at_call 41; refine (pages41 n _ (by omega)).mono ?_; rw [HP.out]; rintro e w' ⟨rfl, rfl⟩)
      go_ret2
      exact ⟨_, _, _, rfl, ho, hb⟩
set_option maxRecDepth 100000 in
set_option maxHeartbeats 400000 in
theorem spread32_bad (kind : UInt8) (first : Int) (A : Option Addr) (n c : Nat) (w : World) (hn : n ≤ 140737488355328) (hlo : -9223372036854775808 ≤ first) (hhi : first ≤ 9223372036854775807) (h : first < 0 ∨ 16383 < first ∨ 16384 < first + npages n) :
    Calls Try.prog 32 #[.int .u8 (kind.toNat : Int), .int .i64 first, .slice A n c] w (RetE8 w [] 1) := by
  have HN := Hd.mk (show npages n = (n + 245) / 246 from rfl)
  have HP := Hd.mk (pages_nat n)
  generalize hm : npages n = m at *
  clear hm
  have hm1 : (m : Int) ≤ 140737488355328 := by have := HN.out; omega
  by_cases h0 : first < 0
  · go_enter Try.func32, Try.ntmps32
    go_wp2
    go_ret2
    exact ⟨_, _, _, rfl, Own8.nil_ _ _ _, Below.refl _ _⟩
  · have h0' : 0 ≤ first := by omega
    by_cases h1 : 16383 < first
    · clear h h0
      go_enter Try.func32, Try.ntmps32
      go_wp2
      go_ret2
      exact ⟨_, _, _, rfl, Own8.nil_ _ _ _, Below.refl _ _⟩
    · have h1' : first ≤ 16383 := by omega
      have h2 : 16384 - (m : Int) < first := by omega
      clear h h0 h1
      go_enter Try.func32, Try.ntmps32
      go_wp2_with (go_at_call 41; refine (pages41 n _ (by omega)).mono ?_; rw [HP.out]; rintro e w' ⟨rfl, rfl⟩)
      go_ret2
      exact ⟨_, _, _, rfl, Own8.nil_ _ _ _, Below.refl _ _⟩
theorem spread32 (kind : UInt8) (first : Int) (A : Option Addr) (n c : Nat) (l : List UInt8) (w : World) (h : Rd8 w A n l) (hn : n ≤ 140737488355328) (hnc : n ≤ c) (hlo : -9223372036854775808 ≤ first) (hhi : first ≤ 9223372036854775807) :
    Calls Try.prog 32 #[.int .u8 (kind.toNat : Int), .int .i64 first, .slice A n c] w (RetE8 w (spread kind first l).1 (spread kind first l).2) := by
  unfold spread
  rw [h.len]
  by_cases hb : first < 0 ∨ 16383 < first ∨ 16384 < first + npages n
  · rw [if_pos hb]
    exact spread32_bad kind first A n c w hn hlo hhi hb
  · rw [if_neg hb]
    obtain ⟨x, rfl⟩ := Int.eq_ofNat_of_zero_le (show 0 ≤ first by omega)
    exact spread32_ok kind x A n c l w h hn hnc (by omega) (by omega)
end Go.Proofs.Ytkgdcglnkodgnaa
