/-
  The document: Same, same walked. No condition but sizes.
-/
import Derived.Test.YtkgdcglnkodgnaaNav14
import Derived.Test.YtkgdcglnkodgnaaZone
namespace Go.Proofs.Ytkgdcglnkodgnaa
open Go.RowKit
theorem below_cell {w w' : World} {ad : Addr} {v : Value} (hb : Below w.heap.size w w') (h : w.cell? ad = some v) : w'.cell? ad = some v := by
  rw [World.cell?_of_block (w := w) (hb.block ad.block (cell_lt h))]; exact h
set_option maxRecDepth 100000 in
set_option maxHeartbeats 1000000 in
theorem same106 (p q : Pl) (w : World) :
    Calls Try.prog 106 #[plV p, plV q] w fun e w' => e = .returned (.bool (decide (p = q))) ∧ Below w.heap.size w w' := by
  obtain ⟨a, b⟩ := p
  obtain ⟨c, d⟩ := q
  unfold plV
  have HB := Hd.mk ((below_alloc w (.cells #[.int .i64 a, .int .i64 b] 58)).trans ((below_alloc (w.alloc (.cells #[.int .i64 a, .int .i64 b] 58)) (.cells #[.int .i64 c, .int .i64 d] 58)).mono (by simp)))
  have hcase : (a = c ∧ b = d) ∨ (a = c ∧ ¬ b = d) ∨ ¬ a = c := by
    by_cases h1 : a = c
    · by_cases h2 : b = d
      · exact .inl ⟨h1, h2⟩
      · exact .inr (.inl ⟨h1, h2⟩)
    · exact .inr (.inr h1)
  rcases hcase with ⟨rfl, rfl⟩ | ⟨rfl, h2⟩ | h1
  · have hD : Hd (decide ((a, b) = (a, b)) = true) := ⟨by simp⟩
    rw [hD.out]
    go_enter Try.func106, Try.ntmps106
    go_wp2
    go_ret
    exact ⟨rfl, HB.out⟩
  · have hD : Hd (decide ((a, b) = (a, d)) = false) := ⟨by simp [h2]⟩
    rw [hD.out]
    go_enter Try.func106, Try.ntmps106
    go_wp2
    go_ret
    exact ⟨by first | (show Ending.returned (.bool (decide (b = d))) = _; simp [h2]) | (show Ending.returned (.bool (b == d)) = _; simp [h2]), HB.out⟩
  · have hD : Hd (decide ((a, b) = (c, d)) = false) := ⟨by simp [h1]⟩
    rw [hD.out]
    go_enter Try.func106, Try.ntmps106
    go_wp2
    go_ret
    exact ⟨rfl, HB.out⟩
theorem eq_drop {l m : List Pl} {k : Nat} {p q : Pl} (hp : l[k]? = some p) (hq : m[k]? = some q) (hpre : l.take k = m.take k) : (l.take (k + 1) = m.take (k + 1)) ↔ p = q := by
  rw [take_snocP hp, take_snocP hq, hpre]
  simp
set_option maxRecDepth 100000 in
set_option maxHeartbeats 1000000 in
theorem same55 (A B : Option Addr) (n c m d : Nat) (l k : List Pl) (w : World) (h : RdP w A n l) (h' : RdP w B m k) (hn : n ≤ 1000000) :
    Calls Try.prog 55 #[.slice A n c, .slice B m d] w fun e w' => e = .returned (.bool (decide (l = k))) ∧ Below w.heap.size w w' := by
  have HL := Hd.mk h.len
  have HK := Hd.mk h'.len
  have hmix := try_mixed
  by_cases hnm : n = m
  · subst hnm
    go_enter Try.func55, Try.ntmps55
    go_wp2
    go_loopw [5] (fun i wr => ∃ j : Nat, i = .int .i64 (j : Int) ∧ j ≤ n ∧ Hd (l.take j = k.take j) ∧ Hd (Below w.heap.size w wr))
      (fun i _ => n - (intOf i).toNat)
    case atStart => exact ⟨0, rfl, by omega, ⟨rfl⟩, ⟨Below.refl _ _⟩⟩
    case round =>
      obtain ⟨j, rfl, hj, hpre, hb⟩ := hrel
      by_cases hlt : j < n
      · obtain ⟨p, hp⟩ : ∃ p, l[j]? = some p := ⟨l[j]'(by have := HL.out; omega), List.getElem?_eq_getElem _⟩
        obtain ⟨q, hq⟩ : ∃ q, k[j]? = some q := ⟨k[j]'(by have := HK.out; omega), List.getElem?_eq_getElem _⟩
        have hiff := Hd.mk (eq_drop hp hq hpre.out)
        obtain ⟨ad, rfl, p0, p1⟩ := RdP.get' (Rd.below h hb.out) hp
        obtain ⟨ad', rfl, q0, q1⟩ := RdP.get' (Rd.below h' hb.out) hq
        have hki : (j : Int) < (n : Int) := by omega
        have hki0 : (0 : Int) ≤ (j : Int) := by omega
        have hne : Hd (l.take (j + 1) ≠ k.take (j + 1) → l ≠ k) := ⟨fun h1 h2 => h1 (by rw [h2])⟩
        clear hp hq
        go_wp2_with fail
        refine region_zone 10 [false, false, false, false, false, false, false, false, false, false] (by kernel_rfl) (by kernel_rfl) hmix (fun w' => Below wr.heap.size wr w') [] ?_ (fun hS => ?_)
        · exact below_drew wr
        refine wpAnyZ_take0 (i := 0) (oi := ⟨_, _, _, _, _, _⟩) (v := ?_) rfl (by decide +kernel) (fun _ _ _ h => h) (Or.inl ⟨by rfl, ?_⟩) (fun _ => hS) ?_
        rotate_left
        focus (intro w _; go_simp; (try with_reducible rfl); done)
        simp only [Act.put, List.setIfInBounds_toArray, List.set_cons_zero, List.set_cons_succ]
        refine wpAnyZ_take0 (i := 1) (oi := ⟨_, _, _, _, _, _⟩) (v := ?_) rfl (by decide +kernel) (fun _ _ _ h => h) (Or.inl ⟨by rfl, ?_⟩) (fun _ => hS) ?_
        rotate_left
        focus (intro w _; go_simp; (try with_reducible rfl); done)
        simp only [Act.put, List.setIfInBounds_toArray, List.set_cons_zero, List.set_cons_succ]
        refine wpAnyZ_take0 (i := 2) (oi := ⟨_, _, _, _, _, _⟩) (v := ?_) rfl (by decide +kernel) (fun _ _ _ h => h) (Or.inl ⟨by rfl, ?_⟩) (fun _ => hS) ?_
        rotate_left
        focus (intro w _; go_simp; (try with_reducible rfl); done)
        simp only [Act.put, List.setIfInBounds_toArray, List.set_cons_zero, List.set_cons_succ]
        refine wpAnyZ_take (i := 3) (oi := ⟨_, _, _, _, _, _⟩) (v := ?_) rfl (by decide +kernel) (fun _ _ _ h => h) (Or.inl ⟨by rfl, ?_⟩) hS ?_
        rotate_left
        focus (intro w hSw; (try dsimp only at hSw); (have z0 := below_cell hSw p0; have z1 := below_cell hSw p1; have z2 := below_cell hSw q0; have z3 := below_cell hSw q1; clear hSw); go_simp; (try with_reducible rfl); done)
        simp only [Act.put, List.setIfInBounds_toArray, List.set_cons_zero, List.set_cons_succ]
        refine wpAnyZ_take0 (i := 4) (oi := ⟨_, _, _, _, _, _⟩) (v := ?_) rfl (by decide +kernel) (fun _ _ _ h => h) (Or.inl ⟨by rfl, ?_⟩) (fun _ => hS) ?_
        rotate_left
        focus (intro w _; go_simp; (try with_reducible rfl); done)
        simp only [Act.put, List.setIfInBounds_toArray, List.set_cons_zero, List.set_cons_succ]
        refine wpAnyZ_take0 (i := 5) (oi := ⟨_, _, _, _, _, _⟩) (v := ?_) rfl (by decide +kernel) (fun _ _ _ h => h) (Or.inl ⟨by rfl, ?_⟩) (fun _ => hS) ?_
        rotate_left
        focus (intro w _; go_simp; (try with_reducible rfl); done)
        simp only [Act.put, List.setIfInBounds_toArray, List.set_cons_zero, List.set_cons_succ]
        refine wpAnyZ_take0 (i := 6) (oi := ⟨_, _, _, _, _, _⟩) (v := ?_) rfl (by decide +kernel) (fun _ _ _ h => h) (Or.inl ⟨by rfl, ?_⟩) (fun _ => hS) ?_
        rotate_left
        focus (intro w _; go_simp; (try with_reducible rfl); done)
        simp only [Act.put, List.setIfInBounds_toArray, List.set_cons_zero, List.set_cons_succ]
        refine wpAnyZ_take (i := 7) (oi := ⟨_, _, _, _, _, _⟩) (v := ?_) rfl (by decide +kernel) (fun _ _ _ h => h) (Or.inl ⟨by rfl, ?_⟩) hS ?_
        rotate_left
        focus (intro w hSw; (try dsimp only at hSw); (have z0 := below_cell hSw p0; have z1 := below_cell hSw p1; have z2 := below_cell hSw q0; have z3 := below_cell hSw q1; clear hSw); go_simp; (try with_reducible rfl); done)
        simp only [Act.put, List.setIfInBounds_toArray, List.set_cons_zero, List.set_cons_succ]
        refine wpAnyZ_one (i := 8) rfl (by decide +kernel) (fun K hKK => ?_)
        go_simp
        refine (same106 p q _).mono ?_
        rintro e w3 ⟨rfl, b3⟩
        have hb3 := Hd.mk ((below_drew wr).trans b3)
        have hB := Hd.mk (hb.out.trans (hb3.out.mono hb.out.size))
        clear hS
        have hS := hb3.out
        refine hKK.out _ _ (fun _ => hS) ?_
        clear hKK
        refine wpAnyZ_take0 (i := 9) (oi := ⟨_, _, _, _, _, _⟩) (v := ?_) rfl (by decide +kernel) (fun _ _ _ h => h) (Or.inl ⟨by rfl, ?_⟩) (fun _ => hS) ?_
        rotate_left
        focus (intro w _; go_simp; (try with_reducible rfl); done)
        simp only [Act.put, List.setIfInBounds_toArray, List.set_cons_zero, List.set_cons_succ]
        refine wpAnyZ_done (by decide +kernel) ?_
        clear p0 p1 q0 q1
        by_cases hpq : p = q
        · have hdd : decide (p = q) = true := by simp [hpq]
          have hp2 : Hd (l.take (j + 1) = k.take (j + 1)) := ⟨hiff.out.2 hpq⟩
          simp only [hdd]
          go_wp2
          go_roundw
          case rel => exact ⟨j + 1, by go_num, by omega, hp2, hB⟩
          case measure => simp [intOf]; omega
        · have hdd : decide (p = q) = false := by simp [hpq]
          have hD : Hd (decide (l = k) = false) := ⟨by simp only [decide_eq_false_iff_not]; exact hne.out (fun e => hpq (hiff.out.1 e))⟩
          simp only [hdd]
          go_wp2
          go_ret
          exact ⟨by show Ending.returned (.bool false) = _; rw [hD.out], hB.out⟩
      · obtain rfl : j = n := by omega
        have hki : ¬ ((j : Int) < (j : Int)) := by omega
        have hD : Hd (decide (l = k) = true) := ⟨by
          have := hpre.out
          rw [List.take_of_length_le (by have := HL.out; omega), List.take_of_length_le (by have := HK.out; omega)] at this
          simp [this]⟩
        go_wp2
        go_ret
        exact ⟨by show Ending.returned (.bool true) = _; rw [hD.out], hb.out⟩
  · have hD : Hd (decide (l = k) = false) := ⟨by
      have := HL.out; have := HK.out
      simp only [decide_eq_false_iff_not]
      rintro rfl
      omega⟩
    rw [hD.out]
    have hne : ¬ (n : Int) = (m : Int) := by omega
    go_enter Try.func55, Try.ntmps55
    go_wp2
    go_ret
    exact ⟨rfl, Below.refl _ _⟩
end Go.Proofs.Ytkgdcglnkodgnaa

