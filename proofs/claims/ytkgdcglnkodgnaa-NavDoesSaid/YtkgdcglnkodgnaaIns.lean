/-
  slices.Insert of one place at the front; laws of copy and append over places. No condition but sizes.
-/
import Derived.Test.YtkgdcglnkodgnaaPush
import Derived.Test.YtkgdcglnkodgnaaCopyAt
import Derived.Lib.Overlaps
import Derived.Laws.Externs
namespace Go.Proofs.Ytkgdcglnkodgnaa
open Go.RowKit
section
variable {w : World} {base : Nat} {e : TypeId} {size : Nat} {A : Option Addr} {n c : Nat} {xs : List Value}
/-- An own slice's front; a longer one. -/
theorem Own.front (h : Own w base e size A n c xs) {k : Nat} (hk : k ≤ n) : Own w base e size A k c (xs.take (k * size)) := by
  have hkn : k * size ≤ n * size := Nat.mul_le_mul_right _ hk
  refine ⟨by rw [List.length_take, h.1]; omega, by have := h.2.1; omega, h.2.2.1, ?_⟩
  rcases h.2.2.2 with h0 | ⟨g, off, cur, h1, h2, h3, h4, h5⟩
  · exact .inl h0
  · exact .inr ⟨g, off, cur, h1, h2, h3, h4, by rw [← h5, List.take_take, Nat.min_eq_left hkn]⟩
theorem Own.more (h : Own w base e size A n c xs) {m : Nat} (h1 : n ≤ m) (h2 : m ≤ c) : ∃ ys, Own w base e size A m c (xs ++ ys) := by
  rcases h.2.2.2 with h0 | ⟨g, off, cur, h3, h4, h5, h6, h7⟩
  · obtain rfl : m = n := by omega
    exact ⟨[], by simpa using h⟩
  · have hnm : n * size ≤ m * size := Nat.mul_le_mul_right _ h1
    have hmc : m * size ≤ c * size := Nat.mul_le_mul_right _ h2
    have e1 : xs ++ ((cur.toList.drop off).take (m * size)).drop (n * size) = (cur.toList.drop off).take (m * size) := by
      rw [← h7]
      conv => rhs; rw [← List.take_append_drop (n * size) ((cur.toList.drop off).take (m * size))]
      rw [List.take_take, Nat.min_eq_left hnm]
    refine ⟨((cur.toList.drop off).take (m * size)).drop (n * size), ?_, h2, h.2.2.1, .inr ⟨g, off, cur, h3, h4, h5, h6, e1.symm⟩⟩
    rw [e1, List.length_take, List.length_drop, Array.length_toList]
    omega
end
/-- copy into the middle of an own slice, of cells of which those that are taken are known. -/
theorem run_copy_mid2 {P : Program} (w : World) (base : Nat) (t ty e : TypeId) (i : TypeInfo) (size : Nat) (ht : P.underlying t = some (.slice e)) (hi : P.info? e = some i) (hsize : i.size = size)
    (A : Option Addr) (n c : Nat) (xs : List Value) (hown : Own w base e size A n c xs) (o nd cd : Nat) (hnd : nd = n - o)
    (S : Option Addr) (m cs : Nat) (news : List Value) (hr : Rd w size S m news) (h1 : ∀ u ∈ news.take (min m nd * size), u.oneCell' = true) (hm : 0 < m) (ho : o < n) :
    ∃ w', (Builtin.copy_ #[t, t] ty #[.slice (A.map (·.add (o * size))) nd cd, .slice S m cs]).run P w = .ok (goInt (min m nd : Nat)) w' ∧
      Own w' base e size A n c (xs.take (o * size) ++ news.take (min m nd * size) ++ xs.drop ((o + min m nd) * size)) ∧ w.grownBy w' (ownBlk A c) := by
  subst hsize; subst hnd
  have hr' := Rd.take_ w hr (q := min m (n - o)) (by omega)
  have hf := run_firstCells_rd (P := P) w i.size (min m (n - o)) cs S _ hr'
  obtain ⟨ad, w', rfl, hst, hown', hg⟩ := stored_mid (P := P) w base e i.size A n c o (min m (n - o)) xs _ hown hr'.1 h1 (by omega) (by omega)
  refine ⟨w', ?_, hown', hg⟩
  have hff : (Builtin.firstCells i.size (Nat.min m (n - o)) (.slice S m cs)).run P w = .ok (news.take (min m (n - o) * i.size)).toArray w := by
    rw [show Nat.min m (n - o) = min m (n - o) from rfl]
    cases S with
    | none => exact hf
    | some a => exact hf
  simp only [Builtin.copy_, Option.map_some]
  simp [run_underlying ht, Builtin.lenOf, sizeOf, typeInfo, hi, hff, hst]
/-- append of k zero elements where there is no room ('append(b, make([]T, k)...)'). -/
theorem run_append_zeros_grow {P : Program} (w : World) (base : Nat) (t tn ty e : TypeId) (i : TypeInfo) (z : Value) (size bytes : Nat) (kq kn : IntKind) (ht : P.underlying t = some (.slice e)) (htn : P.underlying tn = some (.int kn)) (hi : P.info? e = some i) (hz : i.zero = some z)
    (hsize : i.size = size) (hby : i.bytes = bytes) (hzs : z.cells.size = size) (hsz : 0 < size) (_h1 : ∀ u ∈ (Builtin.zeroCells z.cells 1).toList, u.oneCell' = true)
    (A : Option Addr) (n c : Nat) (xs : List Value) (hown : Own w base e size A n c xs) (m : Nat)
    (h63 : n + m ≤ maxLen) (hbytes : (n + m) * bytes ≤ 140737488355328) (hbase : base ≤ w.heap.size) (hroom : ¬ n + m ≤ c) :
    ∃ c' w', (Builtin.append_ #[t, tn] ty #[.slice A n c, .int kq m]).run P w = .ok (.slice (some ⟨w.heap.size, 0, none⟩) (n + m) c') w' ∧
      Own w' base e size (some ⟨w.heap.size, 0, none⟩) (n + m) c' (xs ++ (Builtin.zeroCells z.cells m).toList) ∧ Below w.heap.size w w' := by
  subst hsize; subst hby
  have hl : (Builtin.zeroCells z.cells m).toList.length = m * i.size := by rw [Array.length_toList, size_zeroCells, hzs]
  have hw : IntKind.i64.wrap (m : Int) = m := by rw [IntKind.wrap_i64]; unfold maxLen at h63; omega
  have hneg : ¬ ((m : Int) < 0) := by omega
  have hmb : m * i.bytes ≤ 140737488355328 := Nat.le_trans (Nat.mul_le_mul_right _ (Nat.le_add_left m n)) hbytes
  have h48i : ¬ (281474976710656 < (m : Int) * (i.bytes : Int)) := by rw [← Int.natCast_mul]; omega
  have hns : ¬ (m * i.size = 0) := Nat.mul_ne_zero (by have := hown.2.1; omega) (by omega)
  have ho := run_firstCells_rd (P := P) w.drew i.size n c A xs hown.rd.drew
  have hn : ¬ (n + m ≤ c) := by omega
  have h63' : ¬ (9223372036854775807 < ((n : Int) + (m : Int))) := by unfold maxLen at h63; omega
  have h48' : ¬ (281474976710656 < Builtin.nextslicecap (n + m) c * i.bytes) := by have := growslice_fits (need := n + m) (old := c) (by omega) hbytes; omega
  refine ⟨_, _, ?_, (appended_grown w base e i.size z hzs A n c m c xs _ hown.1 hl h63 hbase).1, ⟨rfl, rfl, rfl, by simp, fun k hk => heap_alloc_old w.drew _ (by exact hk)⟩⟩
  simp [Builtin.append_, run_underlying ht, run_underlying htn, sizeOf, typeInfo, zeroValue, hi, hz, asInt, asIntOf, hw, hn, hneg, hns, h63', h48', h48i, Question.forced, ho, newRow, grownCap]

section
variable {w : World} {ops : Array Oper} {rest : List Oper} {o : Oper} {a : Act} {Q : Exit → Act → World → Prop}
theorem run_copyV {w : World} {base : Nat} {A S : Option Addr} {n c m cs : Nat} {xs news : List Value} (ty : TypeId) (hown : Own w base 58 2 A n c xs) (hr : Rd w 2 S m news) (h1 : ∀ u ∈ news, u.oneCell' = true) :
    ∃ v w', (Builtin.copy_ #[67, 67] ty #[.slice A n c, .slice S m cs]).run Try.prog w = .ok v w' ∧ (v = .int .i64 (min m n : Nat) ∧ Own w' base 58 2 A n c (news.take (min m n * 2) ++ xs.drop (min m n * 2)) ∧ w.grownBy w' (ownBlk A c)) := by
  obtain ⟨i0, hi, hz0, hz1, hz2⟩ := info_parts info58
  obtain ⟨w', hrun, ho, hg⟩ := run_copy_rd (P := Try.prog) w base 67 ty 58 i0 2 Try.underlying67 hi hz1 A n c xs hown S m cs news hr h1
  exact ⟨_, w', hrun, rfl, ho, hg⟩
theorem wl_copyV (hgd : o.guard = none) (s x : Operand) (ho : o.op = .call { callee := .builtin .copy, args := #[s, x], argTypes := #[67, 67] })
    {base : Nat} {A S : Option Addr} {n c m cs : Nat} {xs news : List Value} (hs : a.eval s = .slice A n c) (hx : a.eval x = .slice S m cs) (hown : Own w base 58 2 A n c xs) (hr : Rd w 2 S m news) (h1 : ∀ u ∈ news, u.oneCell' = true)
    (h : ∀ w', Own w' base 58 2 A n c (news.take (min m n * 2) ++ xs.drop (min m n * 2)) → w.grownBy w' (ownBlk A c) → wpList Try.prog ops Q rest (a.put o.dst (.int .i64 (min m n : Nat))) w') : wpList Try.prog ops Q (o :: rest) a w :=
  wpList_copy w hgd s x 67 67 ho _ _ hs hx (run_copyV o.type hown hr h1) (fun _ w' hv => by rw [hv.1]; exact h w' hv.2.1 hv.2.2)
theorem st_copyV_mid {K : Act → World → Prop} {E : Prop} (hgd : o.guard = none) (s x : Operand) (ho : o.op = .call { callee := .builtin .copy, args := #[s, x], argTypes := #[67, 67] })
    {base : Nat} {A S D : Option Addr} {n c m cs p nd cd : Nat} {xs news : List Value} (hs : a.eval s = .slice D nd cd) (hx : a.eval x = .slice S m cs) (hD : D = A.map (·.add (p * 2))) (hnd : nd = n - p) (hown : Own w base 58 2 A n c xs) (hr : Rd w 2 S m news) (h1 : ∀ u ∈ news.take (min m nd * 2), u.oneCell' = true)
    (hm : 0 < m) (hp : p < n)
    (h : ∀ w', Own w' base 58 2 A n c (xs.take (p * 2) ++ news.take (min m nd * 2) ++ xs.drop ((p + min m nd) * 2)) → w.grownBy w' (ownBlk A c) → K (a.put o.dst (.int .i64 (min m nd : Nat))) w') : if Region.wanted o (yielded ops a.tmps) = true then Oper.wp Try.prog o a w K Q else E := by
  subst hD
  obtain ⟨i0, hi, hz0, hz1, hz2⟩ := info_parts info58
  obtain ⟨w', hrun, ho', hg⟩ := run_copy_mid2 (P := Try.prog) w base 67 o.type 58 i0 2 Try.underlying67 hi hz1 A n c xs hown p nd cd hnd S m cs news hr h1 hm hp
  exact step_copy w hgd s x 67 67 ho _ _ hs hx (R := fun v w'' => v = goInt (min m nd : Nat) ∧ w'' = w') ⟨_, _, hrun, rfl, rfl⟩ (fun v w'' hv => by rw [hv.1, hv.2]; exact h w' ho' hg)
/-- append of new elements where there is no room. -/
theorem wl_appzV (hgd : o.guard = none) (s x : Operand) (ho : o.op = .call { callee := .builtin .append, args := #[s, x], argTypes := #[67, 3] })
    {base : Nat} {A : Option Addr} {n c m : Nat} {mi : Int} {xs : List Value} (hs : a.eval s = .slice A n c) (hx : a.eval x = .int .i64 mi) (hmi : mi = m)
    (hown : Own w base 58 2 A n c xs) (hb : n + m ≤ 8796093022208) (hbase : base ≤ w.heap.size) (hroom : ¬ n + m ≤ c)
    (h : ∀ c' w', Below w.heap.size w w' → Own w' base 58 2 (some ⟨w.heap.size, 0, none⟩) (n + m) c' (xs ++ (Builtin.zeroCells (Value.agg #[.int .i64 0, .int .i64 0]).cells m).toList) → wpList Try.prog ops Q rest (a.put o.dst (.slice (some ⟨w.heap.size, 0, none⟩) (n + m) c')) w') : wpList Try.prog ops Q (o :: rest) a w := by
  subst hmi
  obtain ⟨i0, hi, hz0, hz1, hz2⟩ := info_parts info58
  obtain ⟨c', w', hrun, hap, hb'⟩ := run_append_zeros_grow (P := Try.prog) w base 67 3 o.type 58 i0 _ 2 16 .i64 .i64 Try.underlying67 Try.underlying3 hi hz0 hz1 hz2 rfl (by omega) (by intro u hu; simp [Builtin.zeroCells, Value.cells, Array.range] at hu; rcases hu with rfl | rfl <;> rfl) A n c xs hown m (by unfold maxLen; omega) (by omega) hbase hroom
  exact wpList_run w hgd s x 67 3 ho _ _ hs hx (R := fun v w'' => v = .slice (some ⟨w.heap.size, 0, none⟩) (n + m) c' ∧ w'' = w') ⟨_, w', hrun, rfl, rfl⟩ (fun v w'' hv => by rw [hv.1, hv.2]; exact h c' w' hb' hap)
end
theorem Rd.grown {w w' : World} {size : Nat} {A : Option Addr} {n : Nat} {xs : List Value} (h : Rd w size A n xs) {row : Option Nat} (hg : w.grownBy w' row) (hne : ∀ ad, A = some ad → row ≠ some ad.block) : Rd w' size A n xs := by
  refine ⟨h.1, fun hn => ?_⟩
  obtain ⟨ad, hA, hc⟩ := h.2 hn
  exact ⟨ad, hA, fun j u hu => hg.cell (hc j u hu) (by rw [block_add]; exact fun e => hne ad hA e.symm)⟩
/-- Two slices of different rows do not overlap. -/
theorem overlaps_no {w : World} {vb g off m vc lb cb : Nat} {cv cg : Array Value} (hv : w.heap[vb]? = some (.cells cv 58 (0, 0))) (hg : w.heap[g]? = some (.cells cg 58 (0, 0))) (hne : vb ≠ g) (hz : cg.size ≠ 0) :
    (callFunc 146 #[.slice (some ⟨vb, 0, none⟩) m vc, .slice (some ⟨g, off, none⟩) lb cb]).run Try.prog w = .ok (.value (.bool false)) w := by
  have hs1 : w.shape? vb = some (58, cv.size) := by unfold World.shape?; rw [hv]
  have hs2 : w.shape? g = some (58, cg.size) := by unfold World.shape?; rw [hg]
  have hsz : ∀ w, (Go.sizeOf 58).run Try.prog w = .ok 2 w := fun w => by
    obtain ⟨i0, hi, hz0, hz1, hz2⟩ := info_parts info58
    simp [Go.sizeOf, typeInfo, hi, hz1]
  rw [run_callFunc_extern Try.func146 (by kernel_rfl) (by kernel_rfl) (by kernel_rfl) (e := Extern.SlicesOverlaps.overlaps #[67, 67] #[4]) (by kernel_rfl),
    Lib.run_overlaps_apart w 67 4 58 Try.underlying67 2 hsz ⟨vb, 0, none⟩ ⟨g, off, none⟩ m vc lb cb hne 58 58 cv.size cg.size hs1 hs2 hz (frozen_of_row w vb 0 _ _ hv) (frozen_of_row w vb _ _ _ hv)]
  rfl
theorem pc1 (p : Pl) : pc [p] = [.int .i64 p.1, .int .i64 p.2] := rfl
theorem pc_cons (p : Pl) (l : List Pl) : pc (p :: l) = .int .i64 p.1 :: .int .i64 p.2 :: pc l := rfl
def InsR (w : World) (A : Option Addr) (c n' : Nat) (l' : List Pl) (e : Ending) (w' : World) : Prop := ∃ A' c', e = .returned (.slice A' n' c') ∧ Slot w w' A c A' n' c' l'
set_option maxRecDepth 100000 in
set_option maxHeartbeats 1000000 in
theorem insert98_end (A : Option Addr) (c : Nat) (p : Pl) (V : Nat) (w : World) (h : OwnP w 0 A 0 c []) (hv : RdP w (some ⟨V, 0, none⟩) 1 [p]) :
    Calls Try.prog 98 #[.slice A 0 c, .int .i64 0, .slice (some ⟨V, 0, none⟩) 1 1] w (InsR w A c 1 [p]) := by
  obtain ⟨D, hD⟩ : ∃ D, (if c = 0 then A else A.map (·.add (0 * 2))) = D := ⟨_, rfl⟩
  go_enter Try.func98, Try.ntmps98
  go_wp2_with (first | (at_builtin; refine wl_appP rfl (.tmp 23) (.tmp 24) rfl rfl rfl h hv (by omega) (Nat.zero_le _) ?_; rintro v w1 hap; obtain ⟨A', c', rfl, hs⟩ := Slot.ofApp1 h hap))
  go_ret
  exact ⟨_, _, rfl, hs⟩
set_option maxRecDepth 100000 in
set_option maxHeartbeats 1000000 in
theorem insert98_room (A : Option Addr) (n c : Nat) (l : List Pl) (p : Pl) (V : Nat) (cv : Array Value) (w : World) (h : OwnP w 0 A n c l) (hn0 : 0 < n) (hnc : n < c) (hn : n ≤ 100) (hv : RdP w (some ⟨V, 0, none⟩) 1 [p])
    (hV : w.heap[V]? = some (.cells cv 58 (0, 0))) (hne : ∀ k, ownBlk A c = some k → k ≠ V) :
    Calls Try.prog 98 #[.slice A n c, .int .i64 0, .slice (some ⟨V, 0, none⟩) 1 1] w (InsR w A c (n + 1) (p :: l)) := by
  obtain ⟨ys, hmore⟩ := Own.more h (m := n + 1) (by omega) (by omega)
  have hh := h.2.2.2
  rcases hh with h0 | ⟨g, off, cur, rfl, _, hg, hsz, _⟩
  · omega
  have hb : ownBlk (some (⟨g, off, none⟩ : Addr)) c = some g := by simp [ownBlk]; omega
  have hov : ∀ lb cb, (callFunc 146 #[.slice (some ⟨V, 0, none⟩) 1 1, .slice (some ⟨g, off + 2, none⟩) lb cb]).run Try.prog w = .ok (.value (.bool false)) w := fun lb cb =>
    overlaps_no hV hg (fun e => hne g hb e.symm) (by omega)
  have hlen : (pc l).length = n * 2 := h.1
  have hmix := try_mixed
  clear hg hsz
  have hw1 : IntKind.i64.wrap 1 = 1 := by rw [IntKind.wrap_i64]; omega
  have hle1 : (1 : Int) ≤ (n : Int) + 1 := by omega
  have hc1 : ¬ (c = 1) := by omega
  have h01 : (0 : Int) ≤ (n : Int) + 1 := by omega
  have hc0 : ¬ (c = 0) := by omega
  have htk : Hd ((pc l ++ ys).take (min (n + 1) n * 2) = pc l) := ⟨by rw [show min (n + 1) n = n by omega, List.take_append_of_le_length (by omega), List.take_of_length_le (by omega)]⟩
  have hone : Hd (∀ u ∈ (pc l ++ ys).take (min (n + 1) n * 2), u.oneCell' = true) := ⟨by rw [htk.out]; exact pc_one l⟩
  have hmn : n + 1 - 1 = n := by omega
  go_enter Try.func98, Try.ntmps98
  go_wp2_with (simp only [hov])
  refine region_zone 9 [false, false, false, false, false, false, false, false, false] (by kernel_rfl) (by kernel_rfl) hmix (fun w' => True) [8] ?_ (fun hS => ?_)
  · exact trivial
  refine wpAnyZ_take0 (i := 0) (oi := ⟨_, _, _, _, _, _⟩) (v := ?_) rfl (by decide +kernel) (fun _ _ _ h => h) (Or.inl ⟨by rfl, ?_⟩) (fun _ => hS) ?_
  rotate_left
  focus (intro w _; go_simp; try with_reducible rfl)
  simp only [Act.put, List.setIfInBounds_toArray, List.set_cons_zero, List.set_cons_succ]
  refine wpAnyZ_take0 (i := 1) (oi := ⟨_, _, _, _, _, _⟩) (v := ?_) rfl (by decide +kernel) (fun _ _ _ h => h) (Or.inl ⟨by rfl, ?_⟩) (fun _ => hS) ?_
  rotate_left
  focus (intro w _; go_simp; try with_reducible rfl)
  simp only [Act.put, List.setIfInBounds_toArray, List.set_cons_zero, List.set_cons_succ]
  refine wpAnyZ_take0 (i := 2) (oi := ⟨_, _, _, _, _, _⟩) (v := ?_) rfl (by decide +kernel) (fun _ _ _ h => h) (Or.inl ⟨by rfl, ?_⟩) (fun _ => hS) ?_
  rotate_left
  focus (intro w _; go_simp; try with_reducible rfl)
  simp only [Act.put, List.setIfInBounds_toArray, List.set_cons_zero, List.set_cons_succ]
  refine wpAnyZ_take0 (i := 3) (oi := ⟨_, _, _, _, _, _⟩) (v := ?_) rfl (by decide +kernel) (fun _ _ _ h => h) (Or.inl ⟨by rfl, ?_⟩) (fun _ => hS) ?_
  rotate_left
  focus (intro w _; go_simp; try with_reducible rfl)
  simp only [Act.put, List.setIfInBounds_toArray, List.set_cons_zero, List.set_cons_succ]
  refine wpAnyZ_take0 (i := 4) (oi := ⟨_, _, _, _, _, _⟩) (v := ?_) rfl (by decide +kernel) (fun _ _ _ h => h) (Or.inl ⟨by rfl, ?_⟩) (fun _ => hS) ?_
  rotate_left
  focus (intro w _; go_simp; try with_reducible rfl)
  simp only [Act.put, List.setIfInBounds_toArray, List.set_cons_zero, List.set_cons_succ]
  refine wpAnyZ_take0 (i := 5) (oi := ⟨_, _, _, _, _, _⟩) (v := ?_) rfl (by decide +kernel) (fun _ _ _ h => h) (Or.inl ⟨by rfl, ?_⟩) (fun _ => hS) ?_
  rotate_left
  focus (intro w _; go_simp; try with_reducible rfl)
  simp only [Act.put, List.setIfInBounds_toArray, List.set_cons_zero, List.set_cons_succ]
  refine wpAnyZ_take0 (i := 6) (oi := ⟨_, _, _, _, _, _⟩) (v := ?_) rfl (by decide +kernel) (fun _ _ _ h => h) (Or.inl ⟨by rfl, ?_⟩) (fun _ => hS) ?_
  rotate_left
  focus (intro w _; go_simp; try with_reducible rfl)
  simp only [Act.put, List.setIfInBounds_toArray, List.set_cons_zero, List.set_cons_succ]
  refine wpAnyZ_take0 (i := 7) (oi := ⟨_, _, _, _, _, _⟩) (v := ?_) rfl (by decide +kernel) (fun _ _ _ h => h) (Or.inl ⟨by rfl, ?_⟩) (fun _ => hS) ?_
  rotate_left
  focus (intro w _; go_simp; try with_reducible rfl)
  simp only [Act.put, List.setIfInBounds_toArray, List.set_cons_zero, List.set_cons_succ]
  refine wpAnyZ_one (i := 8) rfl (by decide +kernel) (fun K hKK => ?_)
  refine st_copyV_mid (by rfl) (.tmp 73) (.tmp 76) (by rfl) (by rfl) (by rfl) (A := some ⟨g, off, none⟩) (p := 1) (n := n + 1) (by rfl) (by omega) hmore.drew hmore.drew.rd hone.out (by omega) (by omega) ?_
  rintro w1 ho1 hg1
  refine hKK.out _ _ (fun hz => absurd hz (by decide +kernel)) ?_
  clear hKK
  refine wpAnyZ_done (by decide +kernel) ?_
  have hx : Own w1 0 58 2 (some ⟨g, off, none⟩) (n + 1) c ((pc l ++ ys).take 2 ++ pc l) := by
    rw [htk.out, show min (n + 1) n = n by omega, List.drop_of_length_le (by rw [hmore.1]; omega), List.append_nil] at ho1
    exact ho1
  have hv1 : RdP w1 (some ⟨V, 0, none⟩) 1 [p] := Rd.grown (w := w.drew) hv hg1 (fun ad e => by rw [hb]; intro e2; injection e2 with e2; injection e with e; subst e; exact hne g hb e2)
  have hl2 : Hd (((pc l ++ ys).take 2).length = 2) := ⟨by rw [List.length_take, hmore.1]; omega⟩
  simp only [Act.put, List.setIfInBounds_toArray]
  clear ho1 hov htk hone hS
  go_wp2_with ((with_reducible show wpList _ _ _ _ _ _); refine wl_copyV rfl (.tmp 80) (.tmp 81) rfl rfl rfl hx hv1 (pc_one _) ?_; intro w2 ho2 hg2)
  go_ret
  have hx2 : OwnP w2 0 (some ⟨g, off, none⟩) (n + 1) c (p :: l) := by
    rw [show min 1 (n + 1) = 1 by omega, List.drop_append_of_le_length (by rw [hl2.out]; omega), List.drop_of_length_le (by rw [hl2.out]; omega)] at ho2
    exact ho2
  exact ⟨_, _, rfl, hx2, fun k e => .inl e, Tch.of_grown (grown_trans (grown_drewN (k := 1) hg1) hg2) (fun k e => .inl e)⟩
set_option maxRecDepth 100000 in
set_option maxHeartbeats 1000000 in
theorem insert98_grow (A : Option Addr) (n : Nat) (l : List Pl) (p : Pl) (V : Nat) (w : World) (h : OwnP w 0 A n n l) (hn0 : 0 < n) (hn : n ≤ 100) (hv : RdP w (some ⟨V, 0, none⟩) 1 [p]) (hne : ∀ k, ownBlk A n = some k → k ≠ V) :
    Calls Try.prog 98 #[.slice A n n, .int .i64 0, .slice (some ⟨V, 0, none⟩) 1 1] w (InsR w A n (n + 1) (p :: l)) := by
  have hown0 : Own w 0 58 2 A 0 n [] := by simpa using Own.front h (Nat.zero_le n)
  have hh := h.2.2.2
  rcases hh with h0 | ⟨g, off, cur, rfl, _, hg, hsz, _⟩
  · omega
  have hlen : (pc l).length = n * 2 := h.1
  have hmix := try_mixed
  clear hg hsz
  have hb : ownBlk (some (⟨g, off, none⟩ : Addr)) n = some g := by simp [ownBlk]; omega
  have hw1 : IntKind.i64.wrap 1 = 1 := by rw [IntKind.wrap_i64]; omega
  have h01 : (0 : Int) ≤ (n : Int) + 1 := by omega
  have hle1 : (1 : Int) ≤ (n : Int) + 1 := by omega
  have hmn : n + 1 - 1 = n := by omega
  have hn0' : ¬ n = 0 := by omega
  obtain ⟨zs, hzs⟩ : ∃ zs, Hd ((Builtin.zeroCells (Value.agg #[Value.int IntKind.i64 0, Value.int IntKind.i64 0]).cells (n + 1)).toList = zs) := ⟨_, ⟨rfl⟩⟩
  go_enter Try.func98, Try.ntmps98
  have hlt : g < w.heap.size := (Own.lt h hb).2
  go_wp2_with (first
    | (at_builtin
       refine wl_appzV rfl (.tmp 34) (.tmp 39) rfl (m := n + 1) rfl rfl (by omega) hown0 (by omega) (Nat.zero_le _) (by omega) ?_
       intro c' w1 hb1 hap
       rw [hzs.out] at hap
       simp only [Nat.zero_add, List.nil_append] at hap ⊢
       have hzl := Hd.mk hap.1
       have hge := (Own.le hap).1
       have hc0 : ¬ c' = 0 := by omega
       have hc1 : ¬ c' = 1 := by omega
       have hv1 : RdP w1 (some ⟨V, 0, none⟩) 1 [p] := Rd.below hv hb1
       have hr1 : Rd w1 2 (some ⟨g, off, none⟩) n (pc l) := Rd.below (Own.rd h) hb1)
    | ((with_reducible show wpList _ _ _ _ _ _); refine wl_copyV rfl (.tmp 43) (.tmp 44) rfl rfl rfl hap hv1 (pc_one _) ?_; intro w2 ho2 hg2))
  rw [show min 1 (n + 1) = 1 by omega] at ho2
  have hr2 : Rd w2 2 (some ⟨g, off, none⟩) n (pc l) := Rd.grown hr1 hg2 (fun ad e => by injection e with e; subst e; simp [ownBlk, hc0]; omega)
  have hmm : Hd (min n n = n) := ⟨Nat.min_self n⟩
  have hone : Hd (∀ u ∈ (pc l).take (min n n * 2), u.oneCell' = true) := ⟨fun u hu => pc_one l u (List.mem_of_mem_take hu)⟩
  clear hap hv
  refine region_zone 9 [false, false, false, false, false, false, false, false, false] (by kernel_rfl) (by kernel_rfl) hmix (fun w' => True) [8] ?_ (fun hS => ?_)
  · exact trivial
  refine wpAnyZ_take0 (i := 0) (oi := ⟨_, _, _, _, _, _⟩) (v := ?_) rfl (by decide +kernel) (fun _ _ _ h => h) (Or.inl ⟨by rfl, ?_⟩) (fun _ => hS) ?_
  rotate_left
  focus (intro w _; go_simp; try with_reducible rfl)
  simp only [Act.put, List.setIfInBounds_toArray, List.set_cons_zero, List.set_cons_succ]
  refine wpAnyZ_take0 (i := 1) (oi := ⟨_, _, _, _, _, _⟩) (v := ?_) rfl (by decide +kernel) (fun _ _ _ h => h) (Or.inl ⟨by rfl, ?_⟩) (fun _ => hS) ?_
  rotate_left
  focus (intro w _; go_simp; try with_reducible rfl)
  simp only [Act.put, List.setIfInBounds_toArray, List.set_cons_zero, List.set_cons_succ]
  refine wpAnyZ_take0 (i := 2) (oi := ⟨_, _, _, _, _, _⟩) (v := ?_) rfl (by decide +kernel) (fun _ _ _ h => h) (Or.inl ⟨by rfl, ?_⟩) (fun _ => hS) ?_
  rotate_left
  focus (intro w _; go_simp; try with_reducible rfl)
  simp only [Act.put, List.setIfInBounds_toArray, List.set_cons_zero, List.set_cons_succ]
  refine wpAnyZ_take0 (i := 3) (oi := ⟨_, _, _, _, _, _⟩) (v := ?_) rfl (by decide +kernel) (fun _ _ _ h => h) (Or.inl ⟨by rfl, ?_⟩) (fun _ => hS) ?_
  rotate_left
  focus (intro w _; go_simp; try with_reducible rfl)
  simp only [Act.put, List.setIfInBounds_toArray, List.set_cons_zero, List.set_cons_succ]
  refine wpAnyZ_take0 (i := 4) (oi := ⟨_, _, _, _, _, _⟩) (v := ?_) rfl (by decide +kernel) (fun _ _ _ h => h) (Or.inl ⟨by rfl, ?_⟩) (fun _ => hS) ?_
  rotate_left
  focus (intro w _; go_simp; try with_reducible rfl)
  simp only [Act.put, List.setIfInBounds_toArray, List.set_cons_zero, List.set_cons_succ]
  refine wpAnyZ_take0 (i := 5) (oi := ⟨_, _, _, _, _, _⟩) (v := ?_) rfl (by decide +kernel) (fun _ _ _ h => h) (Or.inl ⟨by rfl, ?_⟩) (fun _ => hS) ?_
  rotate_left
  focus (intro w _; go_simp; try with_reducible rfl)
  simp only [Act.put, List.setIfInBounds_toArray, List.set_cons_zero, List.set_cons_succ]
  refine wpAnyZ_take0 (i := 6) (oi := ⟨_, _, _, _, _, _⟩) (v := ?_) rfl (by decide +kernel) (fun _ _ _ h => h) (Or.inl ⟨by rfl, ?_⟩) (fun _ => hS) ?_
  rotate_left
  focus (intro w _; go_simp; try with_reducible rfl)
  simp only [Act.put, List.setIfInBounds_toArray, List.set_cons_zero, List.set_cons_succ]
  refine wpAnyZ_take0 (i := 7) (oi := ⟨_, _, _, _, _, _⟩) (v := ?_) rfl (by decide +kernel) (fun _ _ _ h => h) (Or.inl ⟨by rfl, ?_⟩) (fun _ => hS) ?_
  rotate_left
  focus (intro w _; go_simp; try with_reducible rfl)
  simp only [Act.put, List.setIfInBounds_toArray, List.set_cons_zero, List.set_cons_succ]
  refine wpAnyZ_one (i := 8) rfl (by decide +kernel) (fun K hKK => ?_)
  refine st_copyV_mid (by rfl) (.tmp 50) (.tmp 53) (by rfl) (by rfl) (by rfl) (A := some ⟨w.heap.size, 0, none⟩) (p := 1) (n := n + 1) (by rfl) (by omega) ho2.drew hr2.drew hone.out (by omega) (by omega) ?_
  rintro w3 ho3 hg3
  refine hKK.out _ _ (fun hz => absurd hz (by decide +kernel)) ?_
  clear hKK
  refine wpAnyZ_done (by decide +kernel) ?_
  simp only [Act.put, List.setIfInBounds_toArray]
  go_wp2
  go_ret
  have hx3 : OwnP w3 0 (some ⟨w.heap.size, 0, none⟩) (n + 1) c' (p :: l) := by
    have hz := hzl.out
    have h2 : ((pc [p]).take (1 * 2)).length = 2 := rfl
    have h3 : ((pc [p]).take (1 * 2)) = pc [p] := rfl
    rw [Nat.min_self, List.take_append_of_le_length (by rw [h2]; omega), List.take_take, Nat.min_self, h3, List.take_of_length_le (by omega), List.drop_of_length_le (by rw [List.length_append, List.length_drop, pc_length]; simp only [List.length_cons, List.length_nil]; omega), List.append_nil] at ho3
    exact ho3
  have hblk : ∀ k, ownBlk (some (⟨w.heap.size, 0, none⟩ : Addr)) c' = some k → w.heap.size ≤ k := by
    intro k e
    simp [ownBlk, hc0] at e
    omega
  have hb2 : Below w.heap.size w w2 := hb1.grown hg2 hb1.size hblk
  have hb3 : Below w.heap.size w w3 := hb2.grown (grown_drewN (k := 1) hg3) hb2.size hblk
  exact ⟨_, _, rfl, hx3, fun k e => .inr (hblk k e), Tch.of_below hb3⟩
/-- slices.Insert of one place at the front. -/
theorem insert98 (A : Option Addr) (n c : Nat) (l : List Pl) (p : Pl) (V : Nat) (cv : Array Value) (w : World) (h : OwnP w 0 A n c l) (hn : n ≤ 100) (hv : RdP w (some ⟨V, 0, none⟩) 1 [p])
    (hV : w.heap[V]? = some (.cells cv 58 (0, 0))) (hne : ∀ k, ownBlk A c = some k → k ≠ V) :
    Calls Try.prog 98 #[.slice A n c, .int .i64 0, .slice (some ⟨V, 0, none⟩) 1 1] w (InsR w A c (n + 1) (p :: l)) := by
  rcases Nat.eq_zero_or_pos n with h0 | h0
  · subst h0
    have hl : l = [] := List.eq_nil_of_length_eq_zero h.len
    subst hl
    exact insert98_end A c p V w h hv
  · have hle := (Own.le h).1
    rcases Nat.lt_or_ge n c with h1 | h1
    · exact insert98_room A n c l p V cv w h h0 h1 hn hv hV hne
    · obtain rfl : c = n := by omega
      exact insert98_grow A c l p V w h h0 hn hv hne
end Go.Proofs.Ytkgdcglnkodgnaa

