/-
  A pair's bytes: tree.pairBytes and the document's. No condition but sizes.
-/
import Derived.Test.YtkgdcglnkodgnaaKps
import Derived.Test.YtkgdcglnkodgnaaZone
import Derived.Test.YtkgdcglnkodgnaaPush
namespace Go.Proofs.Ytkgdcglnkodgnaa
open Go.RowKit
set_option maxRecDepth 100000 in
set_option maxHeartbeats 1000000 in
theorem pairBytes150 (p : Kp) (w : World) (hk : p.1.size ≤ 140737488355200) (hn : 0 ≤ p.2) (hn2 : p.2 ≤ 9223372036854775807) :
    Calls Try.prog 150 #[kpV p] w (Ret8 w (pairB p)) := by
  obtain ⟨s, x⟩ := p
  obtain ⟨n, rfl⟩ := Int.eq_ofNat_of_zero_le hn
  unfold kpV
  have hmix := try_mixed
  have hA := Hd.mk (below_alloc w (.cells #[.string s, .int .i64 (n : Int)] 113))
  have hX := Hd.mk (heap_alloc_new w (.cells #[.string s, .int .i64 (n : Int)] 113))
  have hwr : IntKind.u64.wrap (n : Int) = (n : Int) := by rw [IntKind.wrap_u64]; simp at hn2; omega
  have hks : s.size ≤ 140737488355200 := hk
  have hP := Hd.mk (putU_length s.size (by omega))
  have hn3 : (n : Int) ≤ 18446744073709551615 := by simp at hn2; omega
  clear hn hn2 hk
  go_enter Try.func150, Try.ntmps150
  go_wp2_with fail
  obtain ⟨V, hV⟩ : ∃ V, Hd (w.alloc (.cells #[.string s, .int .i64 (n : Int)] 113) = V) := ⟨_, ⟨rfl⟩⟩
  rw [hV.out] at hA hX ⊢
  have hlV := (Array.getElem?_eq_some_iff.1 hX.out).1
  clear hV
  refine region_zone 8 [false, false, false, false, false, false, false, false] (by kernel_rfl) (by kernel_rfl) hmix (fun w' => w'.heap[w.heap.size]? = some (.cells #[.string s, .int .i64 (n : Int)] 113 (0, 0))) [] ?_ (fun hS => ?_)
  · exact hX.out
  refine wpAnyZ_take0 (i := 0) (oi := ⟨_, _, _, _, _, _⟩) (v := ?_) rfl (by decide +kernel) (fun _ _ _ h => h) (Or.inl ⟨by rfl, ?_⟩) (fun _ => hS) ?_
  rotate_left
  focus (intro w _; go_simp; (try with_reducible rfl); done)
  simp only [Act.put, List.setIfInBounds_toArray, List.set_cons_zero, List.set_cons_succ]
  refine wpAnyZ_take (i := 1) (oi := ⟨_, _, _, _, _, _⟩) (v := ?_) rfl (by decide +kernel) (fun _ _ _ h => h) (Or.inl ⟨by rfl, ?_⟩) hS ?_
  rotate_left
  focus (intro w hSw; (try dsimp only at hSw); (obtain ⟨z0, z1⟩ := box_loadK hSw; clear hSw); go_simp; (try with_reducible rfl); done)
  simp only [Act.put, List.setIfInBounds_toArray, List.set_cons_zero, List.set_cons_succ]
  refine wpAnyZ_take0 (i := 3) (oi := ⟨_, _, _, _, _, _⟩) (v := ?_) rfl (by decide +kernel) (fun _ _ _ h => h) (Or.inl ⟨by rfl, ?_⟩) (fun _ => hS) ?_
  rotate_left
  focus (intro w _; go_simp; (try with_reducible rfl); done)
  simp only [Act.put, List.setIfInBounds_toArray, List.set_cons_zero, List.set_cons_succ]
  refine wpAnyZ_take (i := 4) (oi := ⟨_, _, _, _, _, _⟩) (v := ?_) rfl (by decide +kernel) (fun _ _ _ h => h) (Or.inl ⟨by rfl, ?_⟩) hS ?_
  rotate_left
  focus (intro w hSw; (try dsimp only at hSw); (obtain ⟨z0, z1⟩ := box_loadK hSw; clear hSw); go_simp; (try with_reducible rfl); done)
  simp only [Act.put, List.setIfInBounds_toArray, List.set_cons_zero, List.set_cons_succ]
  refine wpAnyZ_take0 (i := 5) (oi := ⟨_, _, _, _, _, _⟩) (v := ?_) rfl (by decide +kernel) (fun _ _ _ h => h) (Or.inl ⟨by rfl, ?_⟩) (fun _ => hS) ?_
  rotate_left
  focus (intro w _; go_simp; (try with_reducible rfl); done)
  simp only [Act.put, List.setIfInBounds_toArray, List.set_cons_zero, List.set_cons_succ]
  refine wpAnyZ_one (i := 2) rfl (by decide +kernel) (fun K hKK => ?_)
  go_simp
  refine (puttext168 none 0 0 [] s V.drew Rd8.nil_ (by omega)).mono ?_
  rintro e w1 ⟨A1, n1, c1, rfl, o1, b1⟩
  have S1 := (below_drew V).trans b1
  have hl1 := o1.len
  clear hS
  have hS := (S1.block w.heap.size hlV).trans hX.out
  refine hKK.out _ _ (fun _ => hS) ?_
  clear hKK
  refine wpAnyZ_one (i := 6) rfl (by decide +kernel) (fun K hKK => ?_)
  go_simp
  refine (putu145 A1 n1 c1 _ n w1 (Own.rd o1) (by have := hP.out; simp at hl1; have e : s.data.size = s.size := rfl; omega) hn3).mono ?_
  rintro e w2 ⟨A2, n2, c2, rfl, o2, b2⟩
  have S2 := S1.trans (b2.mono S1.size)
  clear hS
  have hS := (S2.block w.heap.size hlV).trans hX.out
  refine hKK.out _ _ (fun _ => hS) ?_
  clear hKK
  refine wpAnyZ_take0 (i := 7) (oi := ⟨_, _, _, _, _, _⟩) (v := ?_) rfl (by decide +kernel) (fun _ _ _ h => h) (Or.inl ⟨by rfl, ?_⟩) (fun _ => hS) ?_
  rotate_left
  focus (intro w _; go_simp; (try with_reducible rfl); done)
  simp only [Act.put, List.setIfInBounds_toArray, List.set_cons_zero, List.set_cons_succ]
  refine wpAnyZ_done (by decide +kernel) ?_
  have HO := Hd.mk (Own.mono o2 (Nat.le_trans hA.out.size S1.size))
  have HB := Hd.mk (hA.out.trans (S2.mono hA.out.size))
  clear S1 S2 o1 o2 b1 b2 hS
  go_wp2
  go_ret
  refine ⟨_, _, _, rfl, ?_, HB.out⟩
  have := HO.out
  simp only [List.nil_append] at this
  show Own8 w2 w.heap.size A2 n2 c2 (putU s.size ++ s.data.toList ++ putU ((n : Int).toNat))
  rw [Int.toNat_natCast]
  exact this
/-- A string's bytes in new memory. -/
theorem str_bytes (w : World) (s : ByteArray) : ∃ A cap u, (convert 9 22 (.string s)).run Try.prog w = .ok (.slice A s.size cap) u ∧ Rd8 u A s.size s.data.toList ∧ Below w.heap.size w u := by
  refine ⟨_, _, _, run_bytes_of_string w 9 22 5 s Try.underlying9 Try.underlying22 Try.underlying5, ?_, (below_drew w).trans (below_alloc w.drew _)⟩
  have hl : (bc s.data.toList).length = s.size := by rw [bc_length, Array.length_toList]; rfl
  refine ⟨by rw [hl]; omega, fun _ => ⟨_, rfl, fun j v hv => ?_⟩⟩
  have hj : j < s.size := by rw [← hl]; exact (List.getElem?_eq_some_iff.1 hv).1
  rw [add_plain, Nat.zero_add, show w.heap.size = w.drew.heap.size from rfl, cell_of_row _ _ _ _ _ _ (heap_alloc_new w.drew _)]
  have hj' : j < (s.data.map fun b => Value.int .u8 b.toNat).size := by simpa using hj
  unfold bytesRow
  rw [Array.getElem?_append_left hj']
  rw [← hv, bc]
  simp
set_option maxRecDepth 100000 in
set_option maxHeartbeats 1000000 in
theorem rbytes151 (p : Kp) (w : World) (hk : p.1.size ≤ 140737488355200) (hn : 0 ≤ p.2) (hn2 : p.2 ≤ 9223372036854775807) :
    Calls Try.prog 151 #[kpV p] w (Ret8 w (pairB p)) := by
  obtain ⟨s, x⟩ := p
  obtain ⟨n, rfl⟩ := Int.eq_ofNat_of_zero_le hn
  unfold kpV
  have hmix := try_mixed
  have hA := Hd.mk (below_alloc w (.cells #[.string s, .int .i64 (n : Int)] 113))
  have hX := Hd.mk (heap_alloc_new w (.cells #[.string s, .int .i64 (n : Int)] 113))
  have hwr : IntKind.u64.wrap (n : Int) = (n : Int) := by rw [IntKind.wrap_u64]; simp at hn2; omega
  have hks : s.size ≤ 140737488355200 := hk
  have hP := Hd.mk (putU_length s.size (by omega))
  have hn3 : (n : Int) ≤ 18446744073709551615 := by simp at hn2; omega
  clear hn hn2 hk
  go_enter Try.func151, Try.ntmps151
  go_wp2_with fail
  obtain ⟨V, hV⟩ : ∃ V, Hd (w.alloc (.cells #[.string s, .int .i64 (n : Int)] 113) = V) := ⟨_, ⟨rfl⟩⟩
  rw [hV.out] at hA hX ⊢
  have hlV := (Array.getElem?_eq_some_iff.1 hX.out).1
  clear hV
  refine region_zone 10 [false, false, false, false, false, false, false, false, false, false] (by kernel_rfl) (by kernel_rfl) hmix (fun w' => w'.heap[w.heap.size]? = some (.cells #[.string s, .int .i64 (n : Int)] 113 (0, 0))) [] ?_ (fun hS => ?_)
  · exact hX.out
  refine wpAnyZ_take0 (i := 0) (oi := ⟨_, _, _, _, _, _⟩) (v := ?_) rfl (by decide +kernel) (fun _ _ _ h => h) (Or.inl ⟨by rfl, ?_⟩) (fun _ => hS) ?_
  rotate_left
  focus (intro w _; go_simp; (try with_reducible rfl); done)
  simp only [Act.put, List.setIfInBounds_toArray, List.set_cons_zero, List.set_cons_succ]
  refine wpAnyZ_take (i := 1) (oi := ⟨_, _, _, _, _, _⟩) (v := ?_) rfl (by decide +kernel) (fun _ _ _ h => h) (Or.inl ⟨by rfl, ?_⟩) hS ?_
  rotate_left
  focus (intro w hSw; (try dsimp only at hSw); (obtain ⟨z0, z1⟩ := box_loadK hSw; clear hSw); go_simp; (try with_reducible rfl); done)
  simp only [Act.put, List.setIfInBounds_toArray, List.set_cons_zero, List.set_cons_succ]
  refine wpAnyZ_take0 (i := 4) (oi := ⟨_, _, _, _, _, _⟩) (v := ?_) rfl (by decide +kernel) (fun _ _ _ h => h) (Or.inl ⟨by rfl, ?_⟩) (fun _ => hS) ?_
  rotate_left
  focus (intro w _; go_simp; (try with_reducible rfl); done)
  simp only [Act.put, List.setIfInBounds_toArray, List.set_cons_zero, List.set_cons_succ]
  refine wpAnyZ_take (i := 5) (oi := ⟨_, _, _, _, _, _⟩) (v := ?_) rfl (by decide +kernel) (fun _ _ _ h => h) (Or.inl ⟨by rfl, ?_⟩) hS ?_
  rotate_left
  focus (intro w hSw; (try dsimp only at hSw); (obtain ⟨z0, z1⟩ := box_loadK hSw; clear hSw); go_simp; (try with_reducible rfl); done)
  simp only [Act.put, List.setIfInBounds_toArray, List.set_cons_zero, List.set_cons_succ]
  refine wpAnyZ_take0 (i := 6) (oi := ⟨_, _, _, _, _, _⟩) (v := ?_) rfl (by decide +kernel) (fun _ _ _ h => h) (Or.inl ⟨by rfl, ?_⟩) (fun _ => hS) ?_
  rotate_left
  focus (intro w _; go_simp; (try with_reducible rfl); done)
  simp only [Act.put, List.setIfInBounds_toArray, List.set_cons_zero, List.set_cons_succ]
  obtain ⟨A0, cap, u, hcv, hr0, hb0⟩ := str_bytes V.drew s
  refine wpAnyZ_one (i := 2) rfl (by decide +kernel) (fun K hKK => ?_)
  go_simp
  clear hcv
  have S0 := (below_drew V).trans hb0
  clear hS
  have hS := (S0.block w.heap.size hlV).trans hX.out
  refine hKK.out _ _ (fun _ => hS) ?_
  clear hKK
  refine wpAnyZ_one (i := 3) rfl (by decide +kernel) (fun K hKK => ?_)
  go_simp
  refine (rbytes169 A0 s.size cap s.data.toList u hr0 (by omega)).mono ?_
  rintro e w1 ⟨A1, n1, c1, rfl, o1, b1⟩
  have S1 := S0.trans (b1.mono S0.size)
  have hl1 := o1.len
  clear hS
  have hS := (S1.block w.heap.size hlV).trans hX.out
  refine hKK.out _ _ (fun _ => hS) ?_
  clear hKK
  refine wpAnyZ_one (i := 7) rfl (by decide +kernel) (fun K hKK => ?_)
  go_simp
  refine (ruint170 n w1 hn3).mono ?_
  rintro e w2 ⟨A2, n2, c2, rfl, o2, b2⟩
  have S2 := S1.trans (b2.mono S1.size)
  have hl2 := o2.len
  have hp2 := putU_length n (by omega)
  clear hS
  have hS := (S2.block w.heap.size hlV).trans hX.out
  refine hKK.out _ _ (fun _ => hS) ?_
  clear hKK
  refine wpAnyZ_one (i := 8) rfl (by decide +kernel) (fun K hKK => ?_)
  refine st_app8 (by rfl) (.tmp 6) (.tmp 10) (by rfl) (by rfl) (by rfl) (Own.below o1 b2) (Own.rd o2) (by have := hP.out; have e : s.data.size = s.size := rfl; simp at hl1; omega) (Nat.le_trans b1.size b2.size) ?_
  rintro v w3 ⟨A3, c3, rfl, o3, g3, _⟩
  have S3 := S2.grown g3 S2.size (fun q e => Nat.le_trans S0.size (Own.lt o1 e).1)
  clear hS
  have hS := (S3.block w.heap.size hlV).trans hX.out
  refine hKK.out _ _ (fun _ => hS) ?_
  clear hKK
  change wpAnyZ _ _ _ _ _ _ _ _ (Act.put _ (some 11) _) _
  simp only [Act.put, List.setIfInBounds_toArray, List.set_cons_zero, List.set_cons_succ]
  refine wpAnyZ_take0 (i := 9) (oi := ⟨_, _, _, _, _, _⟩) (v := ?_) rfl (by decide +kernel) (fun _ _ _ h => h) (Or.inl ⟨by rfl, ?_⟩) (fun _ => hS) ?_
  rotate_left
  focus (intro w _; go_simp; (try with_reducible rfl); done)
  simp only [Act.put, List.setIfInBounds_toArray, List.set_cons_zero, List.set_cons_succ]
  refine wpAnyZ_done (by decide +kernel) ?_
  have HO := Hd.mk (Own.mono o3 (Nat.le_trans hA.out.size S0.size))
  have HB := Hd.mk (hA.out.trans (S3.mono hA.out.size))
  clear S0 S1 S2 S3 o1 o2 o3 b1 b2 hS g3 hb0 hr0
  go_wp2
  go_ret
  refine ⟨_, _, _, rfl, ?_, HB.out⟩
  have := HO.out
  show Own8 w3 w.heap.size A3 (n1 + n2) c3 (putU s.size ++ s.data.toList ++ putU ((n : Int).toNat))
  rw [Int.toNat_natCast]
  exact this
end Go.Proofs.Ytkgdcglnkodgnaa

