/-
  tree.behind: how many pairs have keys that are not behind one. No condition but sizes.
-/
import Derived.Test.YtkgdcglnkodgnaaPairb
namespace Go.Proofs.Ytkgdcglnkodgnaa
open Go.RowKit
/-- How many pairs at the beginning have keys that are not behind one. -/
def behindK (key : ByteArray) : List Kp → Nat
  | [] => 0
  | p :: r => if leK p.1 key = true then behindK key r + 1 else 0
theorem behindK_le (key : ByteArray) (l : List Kp) : behindK key l ≤ l.length := by
  induction l with
  | nil => simp [behindK]
  | cons p r ih => unfold behindK; split <;> simp <;> omega
set_option maxRecDepth 100000 in
set_option maxHeartbeats 1000000 in
theorem behind113 (A : Option Addr) (n c : Nat) (l : List Kp) (key : ByteArray) (w : World) (h : RdK w A n l) (hn : n ≤ 1000000) :
    Calls Try.prog 113 #[.slice A n c, .string key] w fun e w' => e = .returned (.int .i64 (behindK key l : Int)) ∧ w' = w := by
  have HL := Hd.mk h.len
  go_enter Try.func113, Try.ntmps113
  go_wp2_with fail
  go_loopw [5] (fun i wr => ∃ j : Nat, i = .int .i64 (j : Int) ∧ j ≤ n ∧ wr = w ∧ Hd (behindK key l = j + behindK key (l.drop j)))
    (fun i _ => n - (intOf i).toNat)
  case atStart => exact ⟨0, rfl, by omega, rfl, ⟨by simp⟩⟩
  case round =>
    obtain ⟨j, rfl, hj, rfl, hb⟩ := hrel
    by_cases hlt : j < n
    · obtain ⟨p, hp⟩ : ∃ p, l[j]? = some p := ⟨l[j]'(by have := HL.out; omega), List.getElem?_eq_getElem _⟩
      have hd : l.drop j = p :: l.drop (j + 1) := by
        obtain ⟨hk, e⟩ := List.getElem?_eq_some_iff.1 hp
        rw [← e]; exact List.drop_eq_getElem_cons hk
      obtain ⟨ad, rfl, q0, -⟩ := RdK.get h hp
      have hji : (j : Int) < (n : Int) := by omega
      have hj0 : (0 : Int) ≤ (j : Int) := by omega
      rw [hd, behindK] at hb
      by_cases hle : leK p.1 key = true
      · rw [if_pos hle] at hb
        have hle' : (Op.bytesLess p.1.toList key.toList || p.1.toList == key.toList) = true := hle
        clear hle hd hp
        go_wp2_with fail
        go_roundw
        case rel => exact ⟨j + 1, by go_num, by omega, trivial, ⟨by rw [hb.out]; omega⟩⟩
        case measure => simp [intOf]; omega
      · rw [if_neg hle] at hb
        have hle' : (Op.bytesLess p.1.toList key.toList || p.1.toList == key.toList) = false := by simpa [leK] using hle
        clear hle hd hp
        go_wp2_with fail
        go_ret
        rw [hb.out]
        exact ⟨rfl, rfl⟩
    · obtain rfl : j = n := by omega
      have hji : ¬ ((j : Int) < (j : Int)) := by omega
      rw [List.drop_of_length_le (by rw [HL.out]; omega), behindK] at hb
      go_wp2_with fail
      go_ret
      rw [hb.out]
      exact ⟨rfl, rfl⟩
end Go.Proofs.Ytkgdcglnkodgnaa

