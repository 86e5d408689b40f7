/-
  The walk of the law PageSpreads. No condition but sizes.
-/
import Derived.Test.YtkgdcglnkodgnaaAwake
namespace Go.Proofs.Ytkgdcglnkodgnaa
open Go.RowKit
set_option maxRecDepth 100000 in
set_option maxHeartbeats 1000000 in
theorem pageSpreads5 (kind : UInt8) (first : Int) (A : Option Addr) (n c : Nat) (l : List UInt8) (w : World) (h : Rd8 w A n l) (hn : n ≤ 140737488355328) (hnc : n ≤ c) (hlo : -9223372036854775808 ≤ first) (hhi : first ≤ 9223372036854775807) :
    Calls Try.prog 5 #[.int .u8 (kind.toNat : Int), .int .i64 first, .slice A n c] w fun e w' => e = .returned (.bool true) ∧ Below w.heap.size w w' := by
  have HL := Hd.mk h.len
  obtain ⟨sl, se, hse⟩ : ∃ sl se, Hd (spread kind first l = (sl, se)) := ⟨_, _, ⟨rfl⟩⟩
  go_enter Try.func5, Try.ntmps5
  go_wp2_with (go_at_call 23; refine (awake23 _).mono ?_; rintro e w1 ⟨rfl, hb1⟩)
  refine (twin24 A n c l w1 (h.below hb1) hn).mono ?_
  rintro e w2 ⟨M, m, mc, rfl, ho2, hb2⟩
  obtain rfl : m = n := by rw [← ho2.len, HL.out]
  have hb12 : Below w.heap.size w w2 := hb1.trans (hb2.mono hb1.size)
  go_wp2_with fail
  refine (spread31 kind first M m mc l w2 ho2.rd hn (Own8.le ho2).1 hlo hhi).mono ?_
  rw [hse.out]
  rintro e w3 ⟨A3, n3, c3, rfl, ho3, hb3⟩
  have hb13 : Below w.heap.size w w3 := hb12.trans (hb3.mono hb12.size)
  have ho23 := ho2.below hb3
  go_wp2_with fail
  refine (spoil26 M m mc _ l w3 ho23 hn).mono ?_
  rintro e w4 ⟨rfl, ho4, hg4⟩
  have hb14 : Below w.heap.size w w4 := hb13.grown hg4 hb13.size (fun r hr => by have := (ho2.lt hr).1; have := hb1.size; omega)
  have ho34 := ho3.grown hg4 (fun r hr e => by have h1 := (ho3.lt hr).1; have h2 := (ho2.lt e).2; omega)
  go_wp2_with fail
  refine (spread32 kind first A m c l w4 (h.below hb14) hn hnc hlo hhi).mono ?_
  rw [hse.out]
  rintro e w5 ⟨A5, n5, c5, rfl, ho5, hb5⟩
  have hb15 : Below w.heap.size w w5 := hb14.trans (hb5.mono hb14.size)
  go_wp2_with fail
  refine (same28 A3 A5 n3 c3 n5 c5 _ _ w5 (ho34.rd.below hb5) ho5.rd).mono ?_
  rw [show (sl == sl) = true by simp]
  rintro e w6 ⟨rfl, rfl⟩
  go_wp2
  go_ret
  exact ⟨rfl, hb15⟩
end Go.Proofs.Ytkgdcglnkodgnaa
