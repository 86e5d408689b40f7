/-
  page.Gather: the whole of it. No condition but sizes.
-/
import Derived.Test.YtkgdcglnkodgnaaGather1
namespace Go.Proofs.Ytkgdcglnkodgnaa
open Go.RowKit
set_option maxRecDepth 100000 in
theorem ends2 (W4 w : World) (a : Act) (em : Nat) (hs : W4.heap.size = w.heap.size + 1 + 1 + 1 + 1) (hb : Below w.heap.size w W4) (hd : a.defers = []) (h8 : a.eval (.tmp 8) = .pointer (some ⟨w.heap.size + 1 + 1 + 1 + 1, 0, none⟩)) (h9 : a.eval (.tmp 9) = .pointer (some ⟨w.heap.size + 1 + 1 + 1 + 1 + 1, 0, none⟩)) :
    bodyPost Try.prog Try.f38 (RetA w ([], em)) Exit.ret a ((W4.alloc (.cells #[.slice none 0 0] 22)).alloc (.cells #[.int .i64 (em : Int)] 25)) := by
  have e4 := ((Boxed.new W4 22 (.slice none 0 0)).alloc (.cells #[.int .i64 (em : Int)] 25)).cell
  have e5 := (Boxed.new (W4.alloc (.cells #[.slice none 0 0] 22)) 25 (.int .i64 (em : Int))).cell
  rw [World.size_alloc] at e5
  rw [hs] at e4 e5
  have h8' : a.tmps[8]?.getD undef = .pointer (some ⟨w.heap.size + 1 + 1 + 1 + 1, 0, none⟩) := by rw [← Array.getD_eq_getD_getElem?]; exact h8
  have h9' : a.tmps[9]?.getD undef = .pointer (some ⟨w.heap.size + 1 + 1 + 1 + 1 + 1, 0, none⟩) := by rw [← Array.getD_eq_getD_getElem?]; exact h9
  refine bodyPost_ret (v := .tuple #[.slice none 0 0, .int .i64 (em : Int)]) ?_ hd ⟨_, _, _, rfl, Rd8.nil_, Nat.le_refl _, (hb.alloc (by omega) _).alloc (by simp; omega) _, fun h => absurd h (by omega)⟩
  simp [results, Try.f38, go_sem, h8', h9', e4, e5]

set_option maxRecDepth 100000 in
set_option maxHeartbeats 1000000 in
theorem gather38_count (A : Option Addr) (n c : Nat) (kind : UInt8) (first long : Int) (w : World) (hn : n ≤ 140737488355328) (m em : Nat) (hm : Hd (count n = (m, em))) (he : em ≠ 0) :
    Calls Try.prog 38 #[.slice A n c, .int .u8 (kind.toNat : Int), .int .i64 first, .int .i64 long] w (RetA w ([], em)) := by
  obtain ⟨P, HP⟩ : ∃ P, Hd (pages long = P) := ⟨_, ⟨rfl⟩⟩
  have he0 : ((em : Int) != 0) = true := by simp; omega
  go_enter Try.func38, Try.ntmps38
  go_wp2_with (first
    | (go_at_call 34; refine (count34 A n c _ hn).mono ?_; rw [hm.out]; rintro e w' ⟨rfl, rfl⟩)
    | (go_at_call 40; refine (pages40 long _ hl2).mono ?_; rw [HP.out]; rintro e w' ⟨rfl, rfl⟩))
  obtain ⟨W4, hW4⟩ : ∃ W4, ((((w.alloc (.cells #[.slice A n c] 22)).alloc (.cells #[.int .u8 (kind.toNat : Int)] 5)).alloc (.cells #[.int .i64 first] 3)).alloc (.cells #[.int .i64 long] 3)) = W4 := ⟨_, rfl⟩
  have hs : W4.heap.size = w.heap.size + 1 + 1 + 1 + 1 := by rw [← hW4]; simp
  have hb : Below w.heap.size w W4 := by
    rw [← hW4]
    refine ((((Below.refl w.heap.size w).alloc (Nat.le_refl _) _).alloc ?_ _).alloc ?_ _).alloc ?_ _ <;> simp <;> omega
  rw [hW4]
  exact ends2 W4 w _ _ hs hb rfl rfl rfl

set_option maxRecDepth 100000 in
set_option maxHeartbeats 1000000 in
theorem gather38_bad1 (A : Option Addr) (n c : Nat) (kind : UInt8) (first long : Int) (w : World) (hn : n ≤ 140737488355328) (hl2 : long ≤ 9223372036854775807) (m em : Nat) (hm : Hd (count n = (m, em))) (he : em = 0) (h1 : first < 0) :
    Calls Try.prog 38 #[.slice A n c, .int .u8 (kind.toNat : Int), .int .i64 first, .int .i64 long] w (RetA w ([], 1)) := by
  obtain ⟨P, HP⟩ : ∃ P, Hd (pages long = P) := ⟨_, ⟨rfl⟩⟩
  subst he
  go_enter Try.func38, Try.ntmps38
  go_wp2_with (first
    | (go_at_call 34; refine (count34 A n c _ hn).mono ?_; rw [hm.out]; rintro e w' ⟨rfl, rfl⟩)
    | (go_at_call 40; refine (pages40 long _ hl2).mono ?_; rw [HP.out]; rintro e w' ⟨rfl, rfl⟩))
  obtain ⟨W4, hW4⟩ : ∃ W4, ((((w.alloc (.cells #[.slice A n c] 22)).alloc (.cells #[.int .u8 (kind.toNat : Int)] 5)).alloc (.cells #[.int .i64 first] 3)).alloc (.cells #[.int .i64 long] 3)) = W4 := ⟨_, rfl⟩
  have hs : W4.heap.size = w.heap.size + 1 + 1 + 1 + 1 := by rw [← hW4]; simp
  have hb : Below w.heap.size w W4 := by
    rw [← hW4]
    refine ((((Below.refl w.heap.size w).alloc (Nat.le_refl _) _).alloc ?_ _).alloc ?_ _).alloc ?_ _ <;> simp <;> omega
  rw [hW4]
  exact ends2 W4 w _ _ hs hb rfl rfl rfl

set_option maxRecDepth 100000 in
set_option maxHeartbeats 1000000 in
theorem gather38_bad2 (A : Option Addr) (n c : Nat) (kind : UInt8) (first long : Int) (w : World) (hn : n ≤ 140737488355328) (hl2 : long ≤ 9223372036854775807) (m em : Nat) (hm : Hd (count n = (m, em))) (he : em = 0) (h1 : ¬ first < 0) (h2 : long < 0) :
    Calls Try.prog 38 #[.slice A n c, .int .u8 (kind.toNat : Int), .int .i64 first, .int .i64 long] w (RetA w ([], 1)) := by
  obtain ⟨P, HP⟩ : ∃ P, Hd (pages long = P) := ⟨_, ⟨rfl⟩⟩
  subst he
  go_enter Try.func38, Try.ntmps38
  go_wp2_with (first
    | (go_at_call 34; refine (count34 A n c _ hn).mono ?_; rw [hm.out]; rintro e w' ⟨rfl, rfl⟩)
    | (go_at_call 40; refine (pages40 long _ hl2).mono ?_; rw [HP.out]; rintro e w' ⟨rfl, rfl⟩))
  obtain ⟨W4, hW4⟩ : ∃ W4, ((((w.alloc (.cells #[.slice A n c] 22)).alloc (.cells #[.int .u8 (kind.toNat : Int)] 5)).alloc (.cells #[.int .i64 first] 3)).alloc (.cells #[.int .i64 long] 3)) = W4 := ⟨_, rfl⟩
  have hs : W4.heap.size = w.heap.size + 1 + 1 + 1 + 1 := by rw [← hW4]; simp
  have hb : Below w.heap.size w W4 := by
    rw [← hW4]
    refine ((((Below.refl w.heap.size w).alloc (Nat.le_refl _) _).alloc ?_ _).alloc ?_ _).alloc ?_ _ <;> simp <;> omega
  rw [hW4]
  exact ends2 W4 w _ _ hs hb rfl rfl rfl

set_option maxRecDepth 100000 in
set_option maxHeartbeats 2000000 in
theorem gather38_bad3 (A : Option Addr) (n c : Nat) (kind : UInt8) (first long : Int) (w : World) (hn : n ≤ 140737488355328) (hl2 : long ≤ 9223372036854775807) (hf2 : first ≤ 9223372036854775807) (m : Nat) (hm : Hd (count n = (m, 0))) (hmb : m ≤ 16384) (h1 : ¬ first < 0) (h2 : ¬ long < 0) (P : Int) (HP : Hd (pages long = P)) (hP : 0 < P) (h3 : (m : Int) ≤ first ∨ (m : Int) - first < P) :
    Calls Try.prog 38 #[.slice A n c, .int .u8 (kind.toNat : Int), .int .i64 first, .int .i64 long] w (RetA w ([], 1)) := by
  by_cases h4 : (m : Int) ≤ first
  · clear h3
    go_enter Try.func38, Try.ntmps38
    go_wp2_with (first
      | (go_at_call 34; refine (count34 A n c _ hn).mono ?_; rw [hm.out]; rintro e w' ⟨rfl, rfl⟩)
      | (go_at_call 40; refine (pages40 long _ hl2).mono ?_; rw [HP.out]; rintro e w' ⟨rfl, rfl⟩))
    obtain ⟨W4, hW4⟩ : ∃ W4, ((((w.alloc (.cells #[.slice A n c] 22)).alloc (.cells #[.int .u8 (kind.toNat : Int)] 5)).alloc (.cells #[.int .i64 first] 3)).alloc (.cells #[.int .i64 long] 3)) = W4 := ⟨_, rfl⟩
    have hs : W4.heap.size = w.heap.size + 1 + 1 + 1 + 1 := by rw [← hW4]; simp
    have hb : Below w.heap.size w W4 := by
      rw [← hW4]
      refine ((((Below.refl w.heap.size w).alloc (Nat.le_refl _) _).alloc ?_ _).alloc ?_ _).alloc ?_ _ <;> simp <;> omega
    rw [hW4]
    exact ends2 W4 w _ _ hs hb rfl rfl rfl
  · have h5 : (m : Int) - first < P := by omega
    clear h3
    go_enter Try.func38, Try.ntmps38
    go_wp2_with (first
      | (go_at_call 34; refine (count34 A n c _ hn).mono ?_; rw [hm.out]; rintro e w' ⟨rfl, rfl⟩)
      | (go_at_call 40; refine (pages40 long _ hl2).mono ?_; rw [HP.out]; rintro e w' ⟨rfl, rfl⟩))
    obtain ⟨W4, hW4⟩ : ∃ W4, ((((w.alloc (.cells #[.slice A n c] 22)).alloc (.cells #[.int .u8 (kind.toNat : Int)] 5)).alloc (.cells #[.int .i64 first] 3)).alloc (.cells #[.int .i64 long] 3)) = W4 := ⟨_, rfl⟩
    have hs : W4.heap.size = w.heap.size + 1 + 1 + 1 + 1 := by rw [← hW4]; simp
    have hb : Below w.heap.size w W4 := by
      rw [← hW4]
      refine ((((Below.refl w.heap.size w).alloc (Nat.le_refl _) _).alloc ?_ _).alloc ?_ _).alloc ?_ _ <;> simp <;> omega
    rw [hW4]
    exact ends2 W4 w _ _ hs hb rfl rfl rfl

/-- Gather's answer. -/
def gatherP (b : List UInt8) (kind : UInt8) (first long : Int) : List UInt8 × Nat :=
  if (count b.length).2 ≠ 0 then ([], (count b.length).2)
  else if first < 0 ∨ long < 0 ∨ (0 < pages long ∧ (((count b.length).1 : Int) ≤ first ∨ ((count b.length).1 : Int) - first < pages long)) then ([], 1)
  else gat b kind first.toNat long.toNat (List.range (npages long.toNat))
theorem count_ok {n m : Nat} (h : count n = (m, 0)) : n ≤ 4194304 ∧ 256 * m = n := by
  unfold count at h
  split at h
  · cases h
  · split at h
    · cases h; omega
    · cases h
theorem gather38 (A : Option Addr) (n c : Nat) (l : List UInt8) (kind : UInt8) (first long : Int) (w : World) (h : Rd8 w A n l) (hn : n ≤ 140737488355328) (hnc : n ≤ c) (hf2 : first ≤ 9223372036854775807) (hl2 : long ≤ 9223372036854775807) :
    Calls Try.prog 38 #[.slice A n c, .int .u8 (kind.toNat : Int), .int .i64 first, .int .i64 long] w (RetA w (gatherP l kind first long)) := by
  obtain ⟨m, em, hm⟩ : ∃ m e, count n = (m, e) := ⟨_, _, rfl⟩
  unfold gatherP
  rw [h.len, hm]
  by_cases he : em ≠ 0
  · rw [if_pos he]
    exact gather38_count A n c kind first long w hn m em ⟨hm⟩ he
  · rw [if_neg he]
    have he' : em = 0 := by omega
    obtain ⟨h1, h2⟩ := count_ok (he' ▸ hm)
    by_cases hb : first < 0 ∨ long < 0 ∨ (0 < pages long ∧ ((m : Int) ≤ first ∨ (m : Int) - first < pages long))
    · rw [if_pos hb]
      by_cases b1 : first < 0
      · exact gather38_bad1 A n c kind first long w hn hl2 m em ⟨hm⟩ he' b1
      · by_cases b2 : long < 0
        · exact gather38_bad2 A n c kind first long w hn hl2 m em ⟨hm⟩ he' b1 b2
        · obtain ⟨b3, b4⟩ := (hb.resolve_left b1).resolve_left b2
          exact gather38_bad3 A n c kind first long w hn hl2 hf2 m ⟨he' ▸ hm⟩ (by omega) b1 b2 _ ⟨rfl⟩ b3 b4
    · rw [if_neg hb]
      obtain ⟨f, rfl⟩ := Int.eq_ofNat_of_zero_le (by omega : 0 ≤ first)
      obtain ⟨lg, rfl⟩ := Int.eq_ofNat_of_zero_le (by omega : 0 ≤ long)
      rw [pages_nat] at hb
      simp only [Int.toNat_natCast]
      have hp : npages lg = (lg + 245) / 246 := rfl
      by_cases hP : npages lg = 0
      · rw [hP]
        exact callsIn_wide.1 (gather38_zero A n c l kind f lg w h1 m ⟨he' ▸ hm⟩ h2 0 ⟨hP⟩ (by omega) (by omega) (by omega))
      · exact callsIn_wide.1 (gather38_pos A n c l kind f lg w h h1 hnc m ⟨he' ▸ hm⟩ h2 _ ⟨rfl⟩ (by omega) (by omega) (by omega) (by omega) (by omega) (by omega))
end Go.Proofs.Ytkgdcglnkodgnaa
