/-
  nav: Drop's inner function, apart walked. No condition but sizes.
-/
import Derived.Test.YtkgdcglnkodgnaaNav7
namespace Go.Proofs.Ytkgdcglnkodgnaa
open Go.RowKit
theorem OwnP.setFar {w : World} {base : Nat} {A : Option Addr} {n c g i : Nat} {l : List Pl} (h : OwnP w base A n c l) (hg : g < base) (v : Value) : OwnP (w.setCell ⟨g, i, none⟩ v) base A n c l :=
  Own.keep h fun k e h1 _ => heap_setCell_other w ⟨g, i, none⟩ k v (by show k ≠ g; omega)
theorem RdP.newAt (w : World) (k : List Pl) {cs : Array Value} (h : cs = (pc k).toArray) {m H : Nat} (hm : m = k.length) (hH : H = w.heap.size) : RdP (w.alloc (.cells cs 58)) (some ⟨H, 0, none⟩) m k := by subst hH; exact RdP.new w k h hm
theorem leftP_take_succ {t : Int} {ps : List Pl} {k : Nat} {q : Pl} (h : ps[k]? = some q) : leftP t (ps.take (k + 1)) = leftP t (ps.take k) ++ (if q.1 < t then [q] else []) := by
  rw [take_snocP h, leftP_append]
  congr 1
  by_cases hq : q.1 < t <;> simp [leftP, hq]
set_option maxRecDepth 100000 in
set_option maxHeartbeats 1000000 in
theorem left102 (B : Option Addr) (m d : Nat) (ps : List Pl) (T G : Nat) (t x : Int) (w : World) (h : RdP w B m ps) (hm : m ≤ 100) (hT : w.heap[T]? = some (.cells #[.int .i64 t] 3 (0, 0))) (hG : w.heap[G]? = some (.cells #[.int .i64 x] 3 (0, 0))) (hTG : T ≠ G)
    (hBG : ∀ ad, B = some ad → 0 < m → ad.block ≠ G) (hx0 : 0 ≤ x) (hx : x ≤ 10000) :
    Calls Try.prog 102 #[.slice B m d, .pointer (some ⟨T, 0, none⟩), .pointer (some ⟨G, 0, none⟩)] w fun e w' => ∃ A n c, e = .returned (.slice A n c) ∧ OwnP w' w.heap.size A n c (leftP t ps) ∧
      w'.heap[G]? = some (.cells #[.int .i64 (x + (m - (leftP t ps).length : Int))] 3 (0, 0)) ∧ Tch (fun k => k = G) w w' := by
  have HL := Hd.mk h.len
  have hGlt : G < w.heap.size := (Array.getElem?_eq_some_iff.1 hG).1
  have hTlt : T < w.heap.size := (Array.getElem?_eq_some_iff.1 hT).1
  have HT := Hd.mk hT
  have HBG := Hd.mk hBG
  have HTG := Hd.mk hTG
  have hG0 := Hd.mk hG
  clear hT hG hBG hTG
  go_enter Try.func102, Try.ntmps102
  go_wp2
  go_loopw [5, 10] (fun v i wr => ∃ (k : Nat) (A : Option Addr) (n c : Nat) (y : Int), v = .slice A n c ∧ i = .int .i64 (k : Int) ∧ k ≤ m ∧ OwnP wr w.heap.size A n c (leftP t (ps.take k)) ∧ Hd (wr.heap[G]? = some (.cells #[.int .i64 y] 3 (0, 0))) ∧ Hd (y = x + (k - (leftP t (ps.take k)).length : Int)) ∧ 0 ≤ y ∧ y ≤ 10000 + (k : Int) ∧ Hd (Tch (fun k => k = G) w wr))
    (fun _ i _ => m - (intOf i).toNat)
  case atStart => exact ⟨0, none, 0, 0, x, rfl, rfl, by omega, OwnP.nil_ _ _ _, hG0, ⟨by simp [leftP]⟩, hx0, by omega, ⟨Tch.refl _ _⟩⟩
  case round =>
    obtain ⟨k, A, n, c, y, rfl, rfl, hk, ho, hg, hy, hy0, hy1, ht⟩ := hrel
    have hrP : RdP wr B m ps := ⟨h.1, fun hn => by
      obtain ⟨ad, hA, hc⟩ := h.2 hn
      refine ⟨ad, hA, fun j u hu => ?_⟩
      have hcj := hc j u hu
      have hlt := cell_lt hcj
      rw [block_add] at hlt
      rw [World.cell?_of_block (w := w) (by rw [block_add]; exact ht.out.block ad.block hlt (HBG.out ad hA hn))]
      exact hcj⟩
    by_cases hlt : k < m
    · obtain ⟨q, hq⟩ : ∃ q, ps[k]? = some q := ⟨ps[k]'(by have := HL.out; omega), List.getElem?_eq_getElem _⟩
      have hls := leftP_take_succ (t := t) hq
      obtain ⟨ad, rfl, q0, q1⟩ := RdP.get' hrP hq
      obtain ⟨qx, qy⟩ := q
      simp only at q0 q1 hls
      have hTc := cell_of_row _ _ 0 _ _ _ ((ht.out.block T hTlt HTG.out).trans HT.out)
      have hGc := cell_of_row _ _ 0 _ _ _ hg.out
      have hGf := frozen_of_row wr G 0 _ _ hg.out
      have hTl := Nat.lt_of_lt_of_le hTlt ht.out.size
      have hGl := Nat.lt_of_lt_of_le hGlt ht.out.size
      simp only [List.getElem?_toArray, List.getElem?_cons_zero] at hTc hGc
      have hki : (k : Int) < (m : Int) := by omega
      have hki0 : (0 : Int) ≤ (k : Int) := by omega
      have hmr : k + 1 ≤ m := by omega
      have hn100 : n ≤ 100 := by have h1 := ho.len; have h2 := (leftP_sub t (ps.take k)).length_le; rw [List.length_take] at h2; omega
      have hlen := Hd.mk ho.len
      by_cases hqt : t ≤ qx
      · rw [if_neg (by omega), List.append_nil] at hls
        have HLS := Hd.mk hls
        clear hls
        go_wp2_with fail
        go_roundw
        case rel =>
          have hset := heap_setCell_same wr G 0 _ 3 (.int .i64 (y + 1)) hg.out
          have hA1 := below_alloc (wr.setCell ⟨G, 0, none⟩ (.int .i64 (y + 1))) (.cells #[.int .i64 qx, .int .i64 qy] 58)
          have hT1 : Tch (fun k => k = G) w (wr.setCell ⟨G, 0, none⟩ (.int .i64 (y + 1))) := ht.out.trans (Tch.setCell (up (fun k => k = G) w wr) _ _ _ _ (.inl (.inl rfl)))
          refine ⟨k + 1, A, n, c, y + 1, rfl, by go_num, hmr, ?_, ⟨(hA1.block G (by simp [World.setCell]; exact hGl)).trans hset⟩, ⟨by rw [hy.out, HLS.out]; omega⟩, by omega, by omega, ⟨hT1.trans (Tch.of_below hA1)⟩⟩
          rw [HLS.out]
          exact Own.alloc (OwnP.setFar ho hGlt _) _
        case measure => simp [intOf]; omega
      · rw [if_pos (by omega)] at hls
        have HLS := Hd.mk hls
        clear hls
        go_wp2_with (at_builtin; refine wl_appP rfl (.tmp 20) (.tmp 22) rfl (m := 1) rfl rfl (Own.alloc (Own.alloc ho _) _) (RdP.newAt _ [(qx, qy)] rfl rfl (by simp)) (by omega) (by have := ht.out.size; simp; omega) ?_; rintro v w1 ⟨A', c', rfl, ho1, hg1, _⟩)
        go_roundw
        case rel =>
          have hA1 := (below_alloc wr (.cells #[.int .i64 qx, .int .i64 qy] 58)).trans ((below_alloc (wr.alloc (.cells #[.int .i64 qx, .int .i64 qy] 58)) (.cells #[.int .i64 qx, .int .i64 qy] 58)).mono (by simp))
          have hob : ∀ q, ownBlk A c = some q → w.heap.size ≤ q := fun q e => (Own.lt ho e).1
          have hT1 : Tch (fun k => k = G) w w1 := (ht.out.trans (Tch.of_below hA1)).trans (Tch.of_grown hg1 (fun q e => by have h1 := hob q e; have h2 := Own.lt ho e; exact Or.inl (Or.inr ⟨h1, Nat.lt_of_lt_of_le h2.2 hA1.size⟩)))
          refine ⟨k + 1, A', n + 1, c', y, rfl, by go_num, hmr, ?_, ⟨?_⟩, ⟨by rw [hy.out, HLS.out, List.length_append]; simp; omega⟩, hy0, by omega, ⟨hT1⟩⟩
          · rw [HLS.out]; exact ho1
          · exact (hg1.block G (Nat.lt_of_lt_of_le hGl hA1.size) (fun e => by have := hob G e.symm; omega)).trans ((hA1.block G hGl).trans hg.out)
        case measure => simp [intOf]; omega
    · obtain rfl : k = m := by omega
      have hki : ¬ ((k : Int) < (k : Int)) := by omega
      go_wp2
      go_ret
      refine ⟨_, _, _, rfl, ?_, ?_, ht.out⟩
      · rw [List.take_of_length_le (by have := HL.out; omega)] at ho; exact ho
      · have h1 := hg.out
        rw [hy.out, List.take_of_length_le (by have := HL.out; omega)] at h1
        exact h1
theorem apart_state {f : Pl} {ps : List Pl} {k : Nat} {q g : Pl} {acc : List Pl} (h : ps[k]? = some q) (hs : acc ++ apartP g (ps.drop k) = apartP f ps) :
    (if q = g then acc else acc ++ [q]) ++ apartP q (ps.drop (k + 1)) = apartP f ps := by
  obtain ⟨hk, e⟩ := List.getElem?_eq_some_iff.1 h
  rw [← hs, List.drop_eq_getElem_cons hk, e]
  show _ = acc ++ (if q = g then apartP q (ps.drop (k + 1)) else q :: apartP q (ps.drop (k + 1)))
  by_cases hq : q = g
  · rw [if_pos hq, if_pos hq]
  · rw [if_neg hq, if_neg hq]
    simp only [List.append_assoc, List.cons_append, List.nil_append]
set_option maxRecDepth 100000 in
set_option maxHeartbeats 1000000 in
theorem apart105 (B : Option Addr) (m d : Nat) (ps : List Pl) (f : Pl) (w : World) (h : RdP w B m ps) (hm : m ≤ 100) :
    Calls Try.prog 105 #[plV f, .slice B m d] w fun e w' => ∃ A n c, e = .returned (.slice A n c) ∧ OwnP w' w.heap.size A n c (apartP f ps) ∧ Below w.heap.size w w' := by
  have HL := Hd.mk h.len
  obtain ⟨fx, fy⟩ := f
  unfold plV
  have hbox := Hd.mk (heap_alloc_new w (.cells #[.int .i64 fx, .int .i64 fy] 58))
  go_enter Try.func105, Try.ntmps105
  go_wp2
  go_loopw [5, 10] (fun v i wr => ∃ (k : Nat) (A : Option Addr) (n c : Nat) (g1 g2 : Int) (acc : List Pl), v = .slice A n c ∧ i = .int .i64 (k : Int) ∧ k ≤ m ∧ n ≤ k ∧ OwnP wr (w.heap.size + 1) A n c acc ∧ Hd (acc ++ apartP (g1, g2) (ps.drop k) = apartP (fx, fy) ps) ∧ Hd (wr.heap[w.heap.size]? = some (.cells #[.int .i64 g1, .int .i64 g2] 58 (0, 0))) ∧ Hd (Below w.heap.size w wr) ∧ Hd (w.heap.size + 1 ≤ wr.heap.size))
    (fun _ i _ => m - (intOf i).toNat)
  case atStart => exact ⟨0, none, 0, 0, fx, fy, [], rfl, rfl, by omega, by omega, OwnP.nil_ _ _ _, ⟨rfl⟩, hbox, ⟨below_alloc _ _⟩, ⟨by simp⟩⟩
  case round =>
    obtain ⟨k, A, n, c, g1, g2, acc, rfl, rfl, hk, hnk, ho, hst, hbx, hb, hsz⟩ := hrel
    by_cases hlt : k < m
    · obtain ⟨q, hq⟩ : ∃ q, ps[k]? = some q := ⟨ps[k]'(by have := HL.out; omega), List.getElem?_eq_getElem _⟩
      have hst2 := Hd.mk (apart_state hq hst.out)
      obtain ⟨ad, rfl, q0, q1⟩ := RdP.get' (Rd.below h hb.out) hq
      obtain ⟨x, y⟩ := q
      simp only at q0 q1
      obtain ⟨b0, b1⟩ := box_load hbx.out
      have bf0 := frozen_of_row wr w.heap.size 0 _ _ hbx.out
      have bf1 := frozen_of_row wr w.heap.size 1 _ _ hbx.out
      have hbl : w.heap.size < wr.heap.size := hsz.out
      have hki : (k : Int) < (m : Int) := by omega
      have hki0 : (0 : Int) ≤ (k : Int) := by omega
      have hmr : k + 1 ≤ m := by omega
      have hA1 := Hd.mk (below_alloc wr (.cells #[.int .i64 x, .int .i64 y] 58))
      have hcase : (g1 = x ∧ g2 = y) ∨ ¬ x = g1 ∨ (x = g1 ∧ ¬ y = g2) := by
        by_cases h1 : x = g1
        · by_cases h2 : y = g2
          · exact .inl ⟨h1.symm, h2.symm⟩
          · exact .inr (.inr ⟨h1, h2⟩)
        · exact .inr (.inl h1)
      rcases hcase with ⟨rfl, rfl⟩ | hne
      · have hst3 : Hd (acc ++ apartP (g1, g2) (ps.drop (k + 1)) = apartP (fx, fy) ps) := ⟨by have := hst2.out; rw [if_pos rfl] at this; exact this⟩
        clear hst2
        go_wp2_with fail
        go_roundw
        case rel =>
          have hs1 := heap_setCell_same wr w.heap.size 0 _ 58 (.int .i64 g1) hbx.out
          have hs2 := heap_setCell_same _ w.heap.size 1 _ 58 (.int .i64 g2) hs1
          have hA2 := below_alloc ((wr.setCell ⟨w.heap.size, 0, none⟩ (.int .i64 g1)).setCell ⟨w.heap.size, 1, none⟩ (.int .i64 g2)) (.cells #[.int .i64 g1, .int .i64 g2] 58)
          have hB2 : Below w.heap.size w ((wr.setCell ⟨w.heap.size, 0, none⟩ (.int .i64 g1)).setCell ⟨w.heap.size, 1, none⟩ (.int .i64 g2)) := (hb.out.setCell (Nat.le_refl _) _).setCell (Nat.le_refl _) _
          exact ⟨k + 1, A, n, c, g1, g2, acc, rfl, by go_num, hmr, by omega, Own.alloc (OwnP.setFar (OwnP.setFar ho (by omega) _) (by omega) _) _, hst3, ⟨(hA2.block w.heap.size (by simp [World.setCell]; exact hbl)).trans hs2⟩, ⟨hB2.trans (hA2.mono hB2.size)⟩, ⟨by simp [World.setCell]; omega⟩⟩
        case measure => simp [intOf]; omega
      · have hst3 : Hd (acc ++ [(x, y)] ++ apartP (x, y) (ps.drop (k + 1)) = apartP (fx, fy) ps) := ⟨by
          have := hst2.out
          rw [if_neg (fun e => by injection e with e1 e2; rcases hne with h1 | ⟨_, h2⟩; exact h1 e1; exact h2 e2)] at this
          exact this⟩
        clear hst2
        rcases hne with h1 | ⟨rfl, h2⟩
        all_goals
          go_wp2_with (at_builtin; refine wl_appP rfl (.tmp 17) (.tmp 19) rfl (m := 1) rfl rfl (Own.alloc (Own.alloc ho _) _) (RdP.newAt _ [(x, y)] rfl rfl (by simp)) (by omega) (by have := hsz.out; simp; omega) ?_; rintro v w1 ⟨A', c', rfl, ho1, hg1, _⟩; have hbx1 := Hd.mk ((hg1.block w.heap.size (by simp; omega) (fun e => by have := (Own.lt ho e.symm).1; omega)).trans ((heap_alloc_old _ _ (by simp; omega)).trans ((hA1.out.block w.heap.size hbl).trans hbx.out))); obtain ⟨e0, e1⟩ := box_load hbx1.out; have hbx2 := Hd.mk ((hg1.block wr.heap.size (by simp; omega) (fun e => by have := (Own.lt ho e.symm).2; omega)).trans ((heap_alloc_old _ _ (by simp)).trans (heap_alloc_new wr _))); obtain ⟨k0, k1⟩ := box_load hbx2.out; have ef0 := frozen_of_row w1 w.heap.size 0 _ _ hbx1.out; have ef1 := frozen_of_row w1 w.heap.size 1 _ _ hbx1.out)
          go_roundw
          case rel =>
            have hs1 := heap_setCell_same w1 w.heap.size 0 _ 58 (.int .i64 x) hbx1.out
            have hs2 := heap_setCell_same _ w.heap.size 1 _ 58 (.int .i64 y) hs1
            have hB1 : Below w.heap.size w w1 := by
              have h3 := (hb.out.alloc hb.out.size (.cells #[.int .i64 x, .int .i64 y] 58)).alloc (by have := hb.out.size; simp; omega) (.cells #[.int .i64 x, .int .i64 y] 58)
              exact h3.grown hg1 (by have := hb.out.size; simp; omega) (fun q e => by have := (Own.lt ho e).1; omega)
            have hB2 := (hB1.setCell (p := ⟨w.heap.size, 0, none⟩) (Nat.le_refl _) (.int .i64 x)).setCell (p := ⟨w.heap.size, 1, none⟩) (Nat.le_refl _) (.int .i64 y)
            exact ⟨k + 1, A', n + 1, c', x, y, _, rfl, by go_num, hmr, by omega, OwnP.setFar (OwnP.setFar ho1 (by omega) _) (by omega) _, hst3, ⟨hs2⟩, ⟨hB2⟩, ⟨by have := hg1.size; simp [World.setCell] at this ⊢; omega⟩⟩
          case measure => simp [intOf]; omega
    · obtain rfl : k = m := by omega
      have hki : ¬ ((k : Int) < (k : Int)) := by omega
      go_wp2
      go_ret
      refine ⟨_, _, _, rfl, ?_, hb.out⟩
      have h1 := hst.out
      rw [List.drop_of_length_le (by have := HL.out; omega)] at h1
      rw [← h1]
      simp only [apartP, List.append_nil]
      exact Own.mono ho (by omega)
end Go.Proofs.Ytkgdcglnkodgnaa

