/-
  nav: slices.Reverse of places walked. No condition but sizes.
-/
import Derived.Test.YtkgdcglnkodgnaaNav7
namespace Go.Proofs.Ytkgdcglnkodgnaa
open Go.RowKit
/-- k swapped from either end. -/
def Rv (l : List Pl) (k : Nat) (l' : List Pl) : Prop := l'.length = l.length ∧ ∀ m, m < l.length → l'[m]? = if m < k ∨ l.length - k ≤ m then l[l.length - 1 - m]? else l[m]?
theorem Rv.zero (l : List Pl) : Rv l 0 l := ⟨rfl, fun m hm => by rw [if_neg (by omega)]⟩
theorem Rv.step {l l' : List Pl} {k j : Nat} (h : Rv l k l') (hk : k < j) (hj : j + k + 1 = l.length) {p q : Pl} (hp : l'[k]? = some p) (hq : l'[j]? = some q) : Rv l (k + 1) ((l'.set k q).set j p) := by
  obtain ⟨h1, h2⟩ := h
  have e1 := h2 k (by omega)
  rw [if_neg (by omega), hp] at e1
  have e2 := h2 j (by omega)
  rw [if_neg (by omega), hq] at e2
  refine ⟨by simp [h1], fun m hm => ?_⟩
  by_cases hmj : m = j
  · subst hmj
    rw [if_pos (by omega), show l.length - 1 - m = k by omega, ← e1]
    exact List.getElem?_set_self (by rw [List.length_set, h1]; omega)
  · by_cases hmk : m = k
    · subst hmk
      rw [if_pos (by omega), show l.length - 1 - m = j by omega, ← e2]
      rw [List.getElem?_set_ne (by omega)]
      exact List.getElem?_set_self (by rw [h1]; omega)
    · rw [List.getElem?_set_ne (by omega), List.getElem?_set_ne (by omega), h2 m hm]
      by_cases hc : m < k ∨ l.length - k ≤ m
      · rw [if_pos hc, if_pos (by omega)]
      · rw [if_neg hc, if_neg (by omega)]
theorem Rv.done {l l' : List Pl} {k : Nat} (h : Rv l k l') (hk : l.length ≤ 2 * k + 1) : l' = l.reverse := by
  apply List.ext_getElem?
  intro m
  by_cases hm : m < l.length
  · rw [h.2 m hm, List.getElem?_reverse hm]
    by_cases hc : m < k ∨ l.length - k ≤ m
    · rw [if_pos hc]
    · rw [if_neg hc, show l.length - 1 - m = m by omega]
  · rw [List.getElem?_eq_none (by have := h.1; omega), List.getElem?_eq_none (by simp; omega)]
theorem pc_set (l : List Pl) (i : Nat) (a b : Int) : ((pc l).set (i * 2) (.int .i64 a)).set (i * 2 + 1) (.int .i64 b) = pc (l.set i (a, b)) := by
  induction l generalizing i with
  | nil => simp [pc]
  | cons p r ih =>
    cases i with
    | zero => rfl
    | succ i =>
      rw [show (i + 1) * 2 = i * 2 + 1 + 1 by omega]
      simp only [pc, List.set_cons_succ]
      rw [ih i]
theorem OwnP.set2 {w : World} {base g off n c : Nat} {l : List Pl} (h : OwnP w base (some ⟨g, off, none⟩) n c l) {i : Nat} (hi : i < n) (a b : Int) :
    OwnP ((w.setCell ⟨g, off + i * 2, none⟩ (.int .i64 a)).setCell ⟨g, off + i * 2 + 1, none⟩ (.int .i64 b)) base (some ⟨g, off, none⟩) n c (l.set i (a, b)) := by
  have h1 := Own.set_ h (j := i * 2) (by omega) rfl (.int .i64 a)
  have h2 := Own.set_ h1 (j := i * 2 + 1) (by omega) rfl (.int .i64 b)
  rw [pc_set, add_plain, add_plain, ← Nat.add_assoc] at h2
  exact h2
theorem OwnP.unfrozen {w : World} {base g off n c : Nat} {l : List Pl} (h : OwnP w base (some ⟨g, off, none⟩) n c l) (hn : 0 < n) : ∀ i, w.frozen? ⟨g, i, none⟩ = false := by
  rcases h.2.2.2 with h0 | ⟨G', off', cur, hA, _, hg', _⟩
  · have := (Own.le h).1; omega
  · injection hA with hA; injection hA with hA _; subst hA
    exact fun i => frozen_of_row w g i _ _ hg'
theorem Tch.set2 {w : World} {g i j : Nat} (u v : Value) : Tch (fun k => k = g) w ((w.setCell ⟨g, i, none⟩ u).setCell ⟨g, j, none⟩ v) := Tch.setCell2 u v
set_option maxRecDepth 100000 in
set_option maxHeartbeats 1000000 in
theorem reverse104_some (G off : Nat) (n c : Nat) (l : List Pl) (w : World) (h : OwnP w 0 (some ⟨G, off, none⟩) n c l) (hn : n ≤ 100) :
    Calls Try.prog 104 #[.slice (some ⟨G, off, none⟩) n c] w fun e w' => e = .returned (.tuple #[]) ∧ OwnP w' 0 (some ⟨G, off, none⟩) n c l.reverse ∧ Tch (fun k => k = G) w w' := by
  have HL := Hd.mk (OwnP.len h)
  have hmix := try_mixed
  go_enter Try.func104, Try.ntmps104
  go_wp2
  go_loopw [2, 3] (fun i j wr => ∃ (k jn : Nat) (jv : Int) (l' : List Pl), i = .int .i64 (k : Int) ∧ j = .int .i64 jv ∧ Hd (jv = (jn : Int) - 1) ∧ Hd (k + jn = n) ∧ k ≤ n ∧ -1 ≤ jv ∧ jv ≤ 100 ∧ OwnP wr 0 (some ⟨G, off, none⟩) n c l' ∧ Hd (Rv l k l') ∧ Hd (Tch (fun k => k = G) w wr))
    (fun i _ _ => n - (intOf i).toNat)
  case atStart => exact ⟨0, n, (n : Int) - 1, l, rfl, by first | rfl | (congr 1), ⟨rfl⟩, ⟨by omega⟩, by omega, by omega, by omega, h, ⟨Rv.zero l⟩, ⟨Tch.refl _ _⟩⟩
  case round =>
    obtain ⟨k, jn, jv, l', rfl, rfl, hjv, hkj, hk, hjv0, hjv1, ho, hrv, ht⟩ := hrel
    by_cases hlt : (k : Int) < jv
    · obtain ⟨j, rfl⟩ : ∃ j : Nat, jv = (j : Int) := ⟨jv.toNat, by omega⟩
      have hjn : Hd (jn = j + 1) := ⟨by have := hjv.out; omega⟩
      have hjn2 : j < n := by have := hjn.out; have := hkj.out; omega
      have hkj2 : k < j := by omega
      have hl' := Hd.mk (OwnP.len ho)
      obtain ⟨p, hp⟩ : ∃ p, l'[k]? = some p := ⟨l'[k]'(by have := hl'.out; omega), List.getElem?_eq_getElem _⟩
      obtain ⟨q, hq⟩ : ∃ q, l'[j]? = some q := ⟨l'[j]'(by have := hl'.out; omega), List.getElem?_eq_getElem _⟩
      have hrv2 := Hd.mk (hrv.out.step hkj2 (by have := hjn.out; have := hkj.out; have := HL.out; omega) hp hq)
      obtain ⟨p0, p1⟩ := OwnP.cellAt ho hp
      obtain ⟨q0, q1⟩ := OwnP.cellAt ho hq
      have ho2 := Hd.mk (OwnP.set2 (OwnP.set2 ho (i := k) (by omega) q.1 q.2) (i := j) (by omega) p.1 p.2)
      have ho1 := Hd.mk (OwnP.set2 ho (i := k) (by omega) q.1 q.2)
      have hq1' : (l'.set k (q.1, q.2))[j]? = some q := by rw [List.getElem?_set_ne (by omega)]; exact hq
      have hc1 := Hd.mk (OwnP.cellAt ho1.out hq1')
      have hp1' : (l'.set k (q.1, q.2))[k]? = some q := by rw [List.getElem?_set_self (by have := hl'.out; omega)]
      have hc0 := Hd.mk (OwnP.cellAt ho1.out hp1')
      have hf := OwnP.unfrozen ho (by omega)
      have hf1 := Hd.mk (OwnP.unfrozen ho1.out (by omega))
      have hki : (k : Int) < (n : Int) := by omega
      have hki0 : (0 : Int) ≤ (k : Int) := by omega
      have hji : (j : Int) < (n : Int) := by omega
      have hji0 : (0 : Int) ≤ (j : Int) := by omega
      clear hq1' hp1' hp hq
      go_wp2_with fail
      refine region_zone 16 [false, false, false, false, false, false, false, false, false, false, false, false, false, false, false, false] (by kernel_rfl) (by kernel_rfl) hmix (fun w' => w'.cell? ⟨G, off + k * 2, none⟩ = some (.int .i64 p.1) ∧ w'.cell? ⟨G, off + k * 2 + 1, none⟩ = some (.int .i64 p.2) ∧ w'.cell? ⟨G, off + j * 2, none⟩ = some (.int .i64 q.1) ∧ w'.cell? ⟨G, off + j * 2 + 1, none⟩ = some (.int .i64 q.2)) [13, 15] ?_ (fun hS => ?_)
      · exact ⟨p0, p1, q0, q1⟩
      refine wpAnyZ_take0 (i := 0) (oi := ⟨_, _, _, _, _, _⟩) (v := ?_) rfl (by decide +kernel) (fun _ _ _ h => h) (Or.inl ⟨by rfl, ?_⟩) (fun _ => hS) ?_
      rotate_left
      focus (intro w _; go_simp; (try with_reducible rfl); done)
      simp only [Act.put, List.setIfInBounds_toArray, List.set_cons_zero, List.set_cons_succ]
      refine wpAnyZ_take0 (i := 1) (oi := ⟨_, _, _, _, _, _⟩) (v := ?_) rfl (by decide +kernel) (fun _ _ _ h => h) (Or.inl ⟨by rfl, ?_⟩) (fun _ => hS) ?_
      rotate_left
      focus (intro w _; go_simp; (try with_reducible rfl); done)
      simp only [Act.put, List.setIfInBounds_toArray, List.set_cons_zero, List.set_cons_succ]
      refine wpAnyZ_take0 (i := 2) (oi := ⟨_, _, _, _, _, _⟩) (v := ?_) rfl (by decide +kernel) (fun _ _ _ h => h) (Or.inl ⟨by rfl, ?_⟩) (fun _ => hS) ?_
      rotate_left
      focus (intro w _; go_simp; (try with_reducible rfl); done)
      simp only [Act.put, List.setIfInBounds_toArray, List.set_cons_zero, List.set_cons_succ]
      refine wpAnyZ_take0 (i := 3) (oi := ⟨_, _, _, _, _, _⟩) (v := ?_) rfl (by decide +kernel) (fun _ _ _ h => h) (Or.inl ⟨by rfl, ?_⟩) (fun _ => hS) ?_
      rotate_left
      focus (intro w _; go_simp; (try with_reducible rfl); done)
      simp only [Act.put, List.setIfInBounds_toArray, List.set_cons_zero, List.set_cons_succ]
      refine wpAnyZ_take0 (i := 4) (oi := ⟨_, _, _, _, _, _⟩) (v := ?_) rfl (by decide +kernel) (fun _ _ _ h => h) (Or.inl ⟨by rfl, ?_⟩) (fun _ => hS) ?_
      rotate_left
      focus (intro w _; go_simp; (try with_reducible rfl); done)
      simp only [Act.put, List.setIfInBounds_toArray, List.set_cons_zero, List.set_cons_succ]
      refine wpAnyZ_take0 (i := 5) (oi := ⟨_, _, _, _, _, _⟩) (v := ?_) rfl (by decide +kernel) (fun _ _ _ h => h) (Or.inl ⟨by rfl, ?_⟩) (fun _ => hS) ?_
      rotate_left
      focus (intro w _; go_simp; (try with_reducible rfl); done)
      simp only [Act.put, List.setIfInBounds_toArray, List.set_cons_zero, List.set_cons_succ]
      refine wpAnyZ_take0 (i := 6) (oi := ⟨_, _, _, _, _, _⟩) (v := ?_) rfl (by decide +kernel) (fun _ _ _ h => h) (Or.inl ⟨by rfl, ?_⟩) (fun _ => hS) ?_
      rotate_left
      focus (intro w _; go_simp; (try with_reducible rfl); done)
      simp only [Act.put, List.setIfInBounds_toArray, List.set_cons_zero, List.set_cons_succ]
      refine wpAnyZ_take (i := 7) (oi := ⟨_, _, _, _, _, _⟩) (v := ?_) rfl (by decide +kernel) (fun _ _ _ h => h) (Or.inl ⟨by rfl, ?_⟩) hS ?_
      rotate_left
      focus (intro w hSw; (try dsimp only at hSw); obtain ⟨y0, y1, y2, y3⟩ := hSw; go_simp; (try with_reducible rfl); done)
      simp only [Act.put, List.setIfInBounds_toArray, List.set_cons_zero, List.set_cons_succ]
      refine wpAnyZ_take0 (i := 8) (oi := ⟨_, _, _, _, _, _⟩) (v := ?_) rfl (by decide +kernel) (fun _ _ _ h => h) (Or.inl ⟨by rfl, ?_⟩) (fun _ => hS) ?_
      rotate_left
      focus (intro w _; go_simp; (try with_reducible rfl); done)
      simp only [Act.put, List.setIfInBounds_toArray, List.set_cons_zero, List.set_cons_succ]
      refine wpAnyZ_take0 (i := 9) (oi := ⟨_, _, _, _, _, _⟩) (v := ?_) rfl (by decide +kernel) (fun _ _ _ h => h) (Or.inl ⟨by rfl, ?_⟩) (fun _ => hS) ?_
      rotate_left
      focus (intro w _; go_simp; (try with_reducible rfl); done)
      simp only [Act.put, List.setIfInBounds_toArray, List.set_cons_zero, List.set_cons_succ]
      refine wpAnyZ_take0 (i := 10) (oi := ⟨_, _, _, _, _, _⟩) (v := ?_) rfl (by decide +kernel) (fun _ _ _ h => h) (Or.inl ⟨by rfl, ?_⟩) (fun _ => hS) ?_
      rotate_left
      focus (intro w _; go_simp; (try with_reducible rfl); done)
      simp only [Act.put, List.setIfInBounds_toArray, List.set_cons_zero, List.set_cons_succ]
      refine wpAnyZ_take (i := 11) (oi := ⟨_, _, _, _, _, _⟩) (v := ?_) rfl (by decide +kernel) (fun _ _ _ h => h) (Or.inl ⟨by rfl, ?_⟩) hS ?_
      rotate_left
      focus (intro w hSw; (try dsimp only at hSw); obtain ⟨y0, y1, y2, y3⟩ := hSw; go_simp; (try with_reducible rfl); done)
      simp only [Act.put, List.setIfInBounds_toArray, List.set_cons_zero, List.set_cons_succ]
      refine wpAnyZ_take0 (i := 12) (oi := ⟨_, _, _, _, _, _⟩) (v := ?_) rfl (by decide +kernel) (fun _ _ _ h => h) (Or.inl ⟨by rfl, ?_⟩) (fun _ => hS) ?_
      rotate_left
      focus (intro w _; go_simp; (try with_reducible rfl); done)
      simp only [Act.put, List.setIfInBounds_toArray, List.set_cons_zero, List.set_cons_succ]
      refine wpAnyZ_one (i := 13) rfl (by decide +kernel) (fun K hKK => ?_)
      go_simp
      refine hKK.out _ _ (fun hz => absurd hz (by decide +kernel)) ?_
      clear hKK
      refine wpAnyZ_take0 (i := 14) (oi := ⟨_, _, _, _, _, _⟩) (v := ?_) rfl (by decide +kernel) (fun _ _ _ h => h) (Or.inl ⟨by rfl, ?_⟩) (fun hz => absurd hz (by decide +kernel)) ?_
      rotate_left
      focus (intro w _; go_simp; (try with_reducible rfl); done)
      simp only [Act.put, List.setIfInBounds_toArray, List.set_cons_zero, List.set_cons_succ]
      refine wpAnyZ_one (i := 15) rfl (by decide +kernel) (fun K hKK => ?_)
      clear hf p0 p1 q0 q1 hS
      obtain ⟨y2, y3⟩ := hc1.out
      have hf2 := hf1.out
      go_simp
      refine hKK.out _ _ (fun hz => absurd hz (by decide +kernel)) ?_
      clear hKK
      refine wpAnyZ_done (by decide +kernel) ?_
      have hT := Hd.mk ((ht.out.trans ((Tch.set2 (w := wr) (g := G) (i := off + k * 2) (j := off + k * 2 + 1) (.int .i64 q.1) (.int .i64 q.2)).mono (fun _ _ e => .inl e))).trans ((Tch.set2 (w := (wr.setCell ⟨G, off + k * 2, none⟩ (.int .i64 q.1)).setCell ⟨G, off + k * 2 + 1, none⟩ (.int .i64 q.2)) (g := G) (i := off + j * 2) (j := off + j * 2 + 1) (.int .i64 p.1) (.int .i64 p.2)).mono (fun _ _ e => .inl e)))
      clear y2 y3 hf2 ho
      go_wp2
      go_roundw
      case rel => exact ⟨k + 1, j, (j : Int) - 1, _, by go_num, rfl, ⟨rfl⟩, ⟨by have := hjn.out; have := hkj.out; omega⟩, by omega, by omega, by omega, ho2.out, hrv2, ⟨⟨hT.out.os, hT.out.tape, hT.out.output, hT.out.size, hT.out.block⟩⟩⟩
      case measure => simp [intOf]; omega
    · have hjn : Hd (n ≤ 2 * k + 1) := ⟨by have := hjv.out; have := hkj.out; omega⟩
      go_wp2
      go_end0
      refine ⟨rfl, ?_, ht.out⟩
      rw [hrv.out.done (by rw [HL.out]; exact hjn.out)] at ho
      exact ho
set_option maxRecDepth 100000 in
set_option maxHeartbeats 400000 in
theorem reverse104_nil (A : Option Addr) (c : Nat) (w : World) :
    Calls Try.prog 104 #[.slice A 0 c] w fun e w' => e = .returned (.tuple #[]) ∧ w = w' := by
  go_enter Try.func104, Try.ntmps104
  go_wp2
  go_loopw [2, 3] (fun i j wr => i = .int .i64 0 ∧ j = .int .i64 (-1) ∧ w = wr) (fun _ _ _ => 0)
  case atStart => exact ⟨rfl, rfl, rfl⟩
  case round =>
    obtain ⟨rfl, rfl, rfl⟩ := hrel
    go_wp2
    go_end0
    exact ⟨rfl, rfl⟩
/-- slices.Reverse of an own slice of places. -/
theorem reverse104 (A : Option Addr) (n c : Nat) (l : List Pl) (w : World) (h : OwnP w 0 A n c l) (hn : n ≤ 100) :
    Calls Try.prog 104 #[.slice A n c] w fun e w' => e = .returned (.tuple #[]) ∧ OwnP w' 0 A n c l.reverse ∧ Tch (fun k => ownBlk A c = some k) w w' := by
  rcases Nat.eq_zero_or_pos n with h0 | h0
  · subst h0
    have hl : l = [] := List.eq_nil_of_length_eq_zero h.len
    subst hl
    refine (reverse104_nil A c w).mono ?_
    rintro e w' ⟨rfl, rfl⟩
    exact ⟨rfl, h, Tch.refl _ _⟩
  · have hle := (Own.le h).1
    rcases h.2.2.2 with hc | ⟨G, off, cur, rfl, _⟩
    · omega
    · refine (reverse104_some G off n c l w h hn).mono ?_
      rintro e w' ⟨rfl, h1, h2⟩
      refine ⟨rfl, h1, h2.mono fun k _ e => ?_⟩
      simp [ownBlk, show c ≠ 0 by omega, e]
end Go.Proofs.Ytkgdcglnkodgnaa

