/-
  The walk of the law NavNone (function 12).
-/
import Derived.Test.YtkgdcglnkodgnaaNoNav
namespace Go.Proofs.Ytkgdcglnkodgnaa
open Go.RowKit
theorem three_allocs (w : World) (o1 o2 o3 : Obj) :
    (((w.alloc o1).alloc o2).alloc o3).heap[w.heap.size]? = some o1 ∧ (((w.alloc o1).alloc o2).alloc o3).heap[w.heap.size + 1]? = some o2 ∧ (((w.alloc o1).alloc o2).alloc o3).heap[w.heap.size + 1 + 1]? = some o3 ∧
    Below w.heap.size w (((w.alloc o1).alloc o2).alloc o3) ∧ w.heap.size + 1 + 1 < (((w.alloc o1).alloc o2).alloc o3).heap.size := by
  have s1 : (w.alloc o1).heap.size = w.heap.size + 1 := Array.size_push ..
  have s2 : ((w.alloc o1).alloc o2).heap.size = w.heap.size + 1 + 1 := by rw [← s1]; exact Array.size_push ..
  have s3 : (((w.alloc o1).alloc o2).alloc o3).heap.size = w.heap.size + 1 + 1 + 1 := by rw [← s2]; exact Array.size_push ..
  refine ⟨?_, ?_, ?_, ((Below.refl _ _).alloc (Nat.le_refl _) _).alloc (by omega) _ |>.alloc (by omega) _, by omega⟩
  · rw [heap_alloc_old _ _ (by omega), heap_alloc_old _ _ (by omega)]; exact heap_alloc_new w o1
  · rw [heap_alloc_old _ _ (by omega), ← s1]; exact heap_alloc_new _ o2
  · rw [← s2]; exact heap_alloc_new _ o3
set_option maxRecDepth 100000 in
set_option maxHeartbeats 1000000 in
theorem navNone12 (h42 : ∀ w, Calls Try.prog 42 #[] w fun e w' => e = .returned (.bool true) ∧ Below w.heap.size w w') (a b i : Int) (w : World) :
    Calls Try.prog 12 #[.agg #[.int .i64 a, .int .i64 b], .int .i64 i] w fun e w' => e = .returned (.bool true) ∧ Below w.heap.size w w' := by
  go_enter Try.func12, Try.ntmps12
  go_wp2_with fail
  go_loopw [23] (fun ix wr => ∃ k : Nat, k ≤ 2 ∧ ix = .int .i64 k ∧ Hd (Below w.heap.size w wr) ∧ Hd (w.heap.size + 1 + 1 < wr.heap.size) ∧ wr.cell? ⟨w.heap.size + 1 + 1, 0, none⟩ = some (.pointer none) ∧ wr.cell? ⟨w.heap.size + 1 + 1, 1, none⟩ = some (.pointer (some ⟨w.heap.size + 1, 0, none⟩)) ∧ Hd (wr.cell? ⟨w.heap.size + 1, 0, none⟩ = some (.int .i64 0)) ∧ wr.heap[w.heap.size]? = some (.cells #[.int .i64 a, .int .i64 b] 58))
    (fun ix _ => 2 - (intOf ix).toNat)
  case atStart =>
    have HT := three_allocs w (.cells #[.int .i64 a, .int .i64 b] 58) (.cells #[.int .i64 0, .int .i64 0, .int .i64 0, .int .i64 0, .slice none 0 0, .slice none 0 0, .slice none 0 0] 78) (.cells #[.pointer none, .pointer (some ⟨w.heap.size + 1, 0, none⟩)] 59)
    exact ⟨0, by omega, rfl, ⟨HT.2.2.2.1⟩, ⟨HT.2.2.2.2⟩, cell_of_row _ _ 0 _ _ _ HT.2.2.1, cell_of_row _ _ 1 _ _ _ HT.2.2.1, ⟨cell_of_row _ _ 0 _ _ _ HT.2.1⟩, HT.1⟩
  case round =>
    obtain ⟨k, hk, rfl, hb0, hlt, c0, c1, cz, hp⟩ := hrel
    by_cases h2 : k < 2
    · rcases (show k = 0 ∨ k = 1 by omega) with rfl | rfl
      · have HN : Hd (∀ w', Below wr.heap.size wr w' → NoNav w' none) := ⟨fun _ _ => .inl rfl⟩
        clear h2 hk
        have hpB : ∀ w', Below wr.heap.size wr w' → w'.heap[w.heap.size]? = some (.cells #[.int .i64 a, .int .i64 b] 58) := fun w' hb => (hb.block _ (by have := hlt.out; omega)).trans hp
        go_wp2_with (first
          | (go_at_call 47; refine (no47 _ wr (HN.out _ (Below.refl _ _))).mono ?_; rintro e w1 ⟨rfl, hb1⟩; have hW1 := hb1.alloc hb1.size (.cells #[.int .i64 0, .int .i64 0] 58))
          | (go_at_call 45; refine (no45 _ _ (HN.out _ hW1)).mono ?_; rintro e w2 ⟨rfl, hb2⟩; have hV2 := hW1.trans (hb2.mono hW1.size); have hW2 := hV2.alloc hV2.size (.cells #[.int .i64 0, .int .i64 0] 58))
          | (go_at_call 46; refine (no46 _ _ (HN.out _ hW2)).mono ?_; rintro e w3 ⟨rfl, hb3⟩; have hV3 := hW2.trans (hb3.mono hW2.size); have hW3 := hV3.alloc hV3.size (.cells #[.int .i64 0, .int .i64 0] 58))
          | (go_at_call 56; refine (no56 _ _ (HN.out _ hW3)).mono ?_; rintro e w' ⟨rfl, rfl⟩)
          | (go_at_call 57; refine (no57 _ i _ (HN.out _ hW3)).mono ?_; rintro e w4 ⟨rfl, hb4⟩; have hV4 := hW3.trans (hb4.mono hW3.size); have hW4 := hV4.alloc hV4.size (.cells #[.int .i64 0, .int .i64 0] 58); have hp4 := cell_of_row _ _ 0 _ _ _ (hpB _ hW4); have hp5 := cell_of_row _ _ 1 _ _ _ (hpB _ hW4); simp only [List.getElem?_toArray, List.getElem?_cons_zero, List.getElem?_cons_succ] at hp4 hp5)
          | (go_at_call 48; refine (no48 _ a b _ (HN.out _ hW4)).mono ?_; rintro e w5 ⟨rfl, hb5⟩; have hW5 := hW4.trans (hb5.mono hW4.size))
          | (go_at_call 58; refine (no58 _ i _ (HN.out _ hW5)).mono ?_; rintro e w' ⟨rfl, rfl⟩)
          | (go_at_call 59; refine (no59 _ i _ (HN.out _ hW5)).mono ?_; rintro e w' ⟨rfl, rfl⟩)
          | (go_at_call 50; refine (no50 _ i _ (HN.out _ hW5)).mono ?_; rintro e w6 ⟨rfl, hb6⟩; have hW6 := hW5.trans (hb6.mono hW5.size))
          | (go_at_call 51; refine (no51 _ _ (HN.out _ hW6)).mono ?_; rintro e w' ⟨rfl, rfl⟩)
          | (go_at_call 49; refine (no49 _ _ (HN.out _ hW6)).mono ?_; rintro e w' ⟨rfl, rfl⟩)
          | (go_at_call 53; refine (no53 _ _ (HN.out _ hW6)).mono ?_; rintro e w' ⟨rfl, rfl⟩)
          | (go_at_call 44; refine (no44 _ _ (HN.out _ hW6)).mono ?_; rintro e w' ⟨rfl, rfl⟩)
          | (go_at_call 60; refine (no60 _ _ (HN.out _ hW6)).mono ?_; rintro e w' ⟨rfl, rfl⟩))
        go_roundw
        case rel =>
          have hl := hlt.out
          refine ⟨1, by omega, rfl, ⟨hb0.out.trans (hW6.mono hb0.out.size)⟩, ⟨Nat.lt_of_lt_of_le hl hW6.size⟩, ?_, ?_, ⟨?_⟩, hpB _ hW6⟩
          · rw [hW6.cell (by exact hl)]; exact c0
          · rw [hW6.cell (by exact hl)]; exact c1
          · rw [hW6.cell (by show w.heap.size + 1 < _; omega)]; exact cz.out
        case measure => simp [intOf]
      · have HN : Hd (∀ w', Below wr.heap.size wr w' → NoNav w' (some ⟨w.heap.size + 1, 0, none⟩)) := ⟨fun w' hb => NoNav.below (w := wr) (.inr ⟨_, 0, rfl, cz.out, rfl⟩) hb⟩
        clear h2 hk
        have hpB : ∀ w', Below wr.heap.size wr w' → w'.heap[w.heap.size]? = some (.cells #[.int .i64 a, .int .i64 b] 58) := fun w' hb => (hb.block _ (by have := hlt.out; omega)).trans hp
        go_wp2_with (first
          | (go_at_call 47; refine (no47 _ wr (HN.out _ (Below.refl _ _))).mono ?_; rintro e w1 ⟨rfl, hb1⟩; have hW1 := hb1.alloc hb1.size (.cells #[.int .i64 0, .int .i64 0] 58))
          | (go_at_call 45; refine (no45 _ _ (HN.out _ hW1)).mono ?_; rintro e w2 ⟨rfl, hb2⟩; have hV2 := hW1.trans (hb2.mono hW1.size); have hW2 := hV2.alloc hV2.size (.cells #[.int .i64 0, .int .i64 0] 58))
          | (go_at_call 46; refine (no46 _ _ (HN.out _ hW2)).mono ?_; rintro e w3 ⟨rfl, hb3⟩; have hV3 := hW2.trans (hb3.mono hW2.size); have hW3 := hV3.alloc hV3.size (.cells #[.int .i64 0, .int .i64 0] 58))
          | (go_at_call 56; refine (no56 _ _ (HN.out _ hW3)).mono ?_; rintro e w' ⟨rfl, rfl⟩)
          | (go_at_call 57; refine (no57 _ i _ (HN.out _ hW3)).mono ?_; rintro e w4 ⟨rfl, hb4⟩; have hV4 := hW3.trans (hb4.mono hW3.size); have hW4 := hV4.alloc hV4.size (.cells #[.int .i64 0, .int .i64 0] 58); have hp4 := cell_of_row _ _ 0 _ _ _ (hpB _ hW4); have hp5 := cell_of_row _ _ 1 _ _ _ (hpB _ hW4); simp only [List.getElem?_toArray, List.getElem?_cons_zero, List.getElem?_cons_succ] at hp4 hp5)
          | (go_at_call 48; refine (no48 _ a b _ (HN.out _ hW4)).mono ?_; rintro e w5 ⟨rfl, hb5⟩; have hW5 := hW4.trans (hb5.mono hW4.size))
          | (go_at_call 58; refine (no58 _ i _ (HN.out _ hW5)).mono ?_; rintro e w' ⟨rfl, rfl⟩)
          | (go_at_call 59; refine (no59 _ i _ (HN.out _ hW5)).mono ?_; rintro e w' ⟨rfl, rfl⟩)
          | (go_at_call 50; refine (no50 _ i _ (HN.out _ hW5)).mono ?_; rintro e w6 ⟨rfl, hb6⟩; have hW6 := hW5.trans (hb6.mono hW5.size))
          | (go_at_call 51; refine (no51 _ _ (HN.out _ hW6)).mono ?_; rintro e w' ⟨rfl, rfl⟩)
          | (go_at_call 49; refine (no49 _ _ (HN.out _ hW6)).mono ?_; rintro e w' ⟨rfl, rfl⟩)
          | (go_at_call 53; refine (no53 _ _ (HN.out _ hW6)).mono ?_; rintro e w' ⟨rfl, rfl⟩)
          | (go_at_call 44; refine (no44 _ _ (HN.out _ hW6)).mono ?_; rintro e w' ⟨rfl, rfl⟩)
          | (go_at_call 60; refine (no60 _ _ (HN.out _ hW6)).mono ?_; rintro e w' ⟨rfl, rfl⟩))
        go_roundw
        case rel =>
          have hl := hlt.out
          refine ⟨2, by omega, rfl, ⟨hb0.out.trans (hW6.mono hb0.out.size)⟩, ⟨Nat.lt_of_lt_of_le hl hW6.size⟩, ?_, ?_, ⟨?_⟩, hpB _ hW6⟩
          · rw [hW6.cell (by exact hl)]; exact c0
          · rw [hW6.cell (by exact hl)]; exact c1
          · rw [hW6.cell (by show w.heap.size + 1 < _; omega)]; exact cz.out
        case measure => simp [intOf]
    · obtain rfl : k = 2 := by omega
      clear h2 hk
      go_wp2_with (go_at_call 42; refine (h42 wr).mono ?_; rintro e w' ⟨rfl, hb⟩)
      try rw [Exit.noGoto_ret]
      go_ret
      exact ⟨rfl, hb0.out.trans (hb.mono hb0.out.size)⟩
end Go.Proofs.Ytkgdcglnkodgnaa
