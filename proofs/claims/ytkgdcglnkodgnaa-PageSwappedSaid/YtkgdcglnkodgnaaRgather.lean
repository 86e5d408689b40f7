/-
  The reference's Gather. No condition but sizes.
-/
import Derived.Test.YtkgdcglnkodgnaaGather2
namespace Go.Proofs.Ytkgdcglnkodgnaa
open Go.RowKit
set_option maxRecDepth 100000 in
set_option maxHeartbeats 1000000 in
theorem rgather39_count (A : Option Addr) (n c : Nat) (kind : UInt8) (first long : Int) (w : World) (hn : n ≤ 140737488355328) (m em : Nat) (hm : Hd (count n = (m, em))) (he : em ≠ 0) :
    Calls Try.prog 39 #[.slice A n c, .int .u8 (kind.toNat : Int), .int .i64 first, .int .i64 long] w (RetA w ([], em)) := by
  obtain ⟨P, HP⟩ : ∃ P, Hd (pages long = P) := ⟨_, ⟨rfl⟩⟩
  have he0 : ((em : Int) != 0) = true := by simp; omega
  go_enter Try.func39, Try.ntmps39
  go_wp2_with (go_at_call 35; refine (count35 A n c _ hn).mono ?_; rw [hm.out]; rintro e w' ⟨rfl, rfl⟩)
  go_ret2
  exact RetA.nil w em
set_option maxRecDepth 100000 in
set_option maxHeartbeats 1000000 in
theorem rgather39_bad1 (A : Option Addr) (n c : Nat) (kind : UInt8) (first long : Int) (w : World) (hn : n ≤ 140737488355328) (m em : Nat) (hm : Hd (count n = (m, em))) (he : em = 0) (h1 : first < 0) :
    Calls Try.prog 39 #[.slice A n c, .int .u8 (kind.toNat : Int), .int .i64 first, .int .i64 long] w (RetA w ([], 1)) := by
  obtain ⟨P, HP⟩ : ∃ P, Hd (pages long = P) := ⟨_, ⟨rfl⟩⟩
  subst he
  go_enter Try.func39, Try.ntmps39
  go_wp2_with (go_at_call 35; refine (count35 A n c _ hn).mono ?_; rw [hm.out]; rintro e w' ⟨rfl, rfl⟩)
  go_ret2
  exact RetA.nil w 1
set_option maxRecDepth 100000 in
set_option maxHeartbeats 1000000 in
theorem rgather39_bad2 (A : Option Addr) (n c : Nat) (kind : UInt8) (first long : Int) (w : World) (hn : n ≤ 140737488355328) (m em : Nat) (hm : Hd (count n = (m, em))) (he : em = 0) (h1 : ¬ first < 0) (h2 : long < 0) :
    Calls Try.prog 39 #[.slice A n c, .int .u8 (kind.toNat : Int), .int .i64 first, .int .i64 long] w (RetA w ([], 1)) := by
  obtain ⟨P, HP⟩ : ∃ P, Hd (pages long = P) := ⟨_, ⟨rfl⟩⟩
  subst he
  go_enter Try.func39, Try.ntmps39
  go_wp2_with (go_at_call 35; refine (count35 A n c _ hn).mono ?_; rw [hm.out]; rintro e w' ⟨rfl, rfl⟩)
  go_ret2
  exact RetA.nil w 1
set_option maxRecDepth 100000 in
set_option maxHeartbeats 2000000 in
theorem rgather39_bad3 (A : Option Addr) (n c : Nat) (kind : UInt8) (first long : Int) (w : World) (hn : n ≤ 140737488355328) (hl2 : long ≤ 9223372036854775807) (hf2 : first ≤ 9223372036854775807) (m : Nat) (hm : Hd (count n = (m, 0))) (hmb : m ≤ 16384) (h1 : ¬ first < 0) (h2 : ¬ long < 0) (P : Int) (HP : Hd (pages long = P)) (hP : 0 < P) (h3 : (m : Int) ≤ first ∨ (m : Int) - first < P) :
    Calls Try.prog 39 #[.slice A n c, .int .u8 (kind.toNat : Int), .int .i64 first, .int .i64 long] w (RetA w ([], 1)) := by
  by_cases h4 : (m : Int) ≤ first
  · clear h3
    go_enter Try.func39, Try.ntmps39
    go_wp2_with (first
      | (go_at_call 35; refine (count35 A n c _ hn).mono ?_; rw [hm.out]; rintro e w' ⟨rfl, rfl⟩)
      | (go_at_call 41; refine (pages41 long _ hl2).mono ?_; rw [HP.out]; rintro e w' ⟨rfl, rfl⟩))
    go_ret2
    exact RetA.nil w 1
  · have h5 : (m : Int) - first < P := by omega
    clear h3
    go_enter Try.func39, Try.ntmps39
    go_wp2_with (first
      | (go_at_call 35; refine (count35 A n c _ hn).mono ?_; rw [hm.out]; rintro e w' ⟨rfl, rfl⟩)
      | (go_at_call 41; refine (pages41 long _ hl2).mono ?_; rw [HP.out]; rintro e w' ⟨rfl, rfl⟩))
    go_ret2
    exact RetA.nil w 1
set_option maxRecDepth 100000 in
set_option maxHeartbeats 4000000 in
theorem rgather39_pos (A : Option Addr) (n c : Nat) (l : List UInt8) (kind : UInt8) (f long : Nat) (w : World) (h : Rd8 w A n l) (hn : n ≤ 4194304) (hnc : n ≤ c) (m : Nat) (hm : Hd (count n = (m, 0))) (hmm : 256 * m = n)
    (P : Nat) (hp : Hd (npages long = P)) (hP : P ≤ m) (hf : f ≤ 9223372036854775807) (hl : long ≤ 246 * P) (hfm : (f : Int) < (m : Int)) (hpm : (P : Int) ≤ (m : Int) - (f : Int)) (hP1 : (0 : Int) < (P : Int)) :
    Calls Try.prog 39 #[.slice A n c, .int .u8 (kind.toNat : Int), .int .i64 f, .int .i64 long] w (RetA w (gat l kind f long (List.range P))) := by
  have HPG : Hd (pages (long : Int) = (P : Int)) := ⟨by rw [pages_nat, hp.out]⟩
  have hl2 : (long : Int) ≤ 9223372036854775807 := by omega
  have hfl : ¬ ((f : Int) < 0) := by omega
  have hll : ¬ ((long : Int) < 0) := by omega
  go_enter Try.func39, Try.ntmps39
  go_wp2_with (first
    | (go_at_call 35; refine (count35 A n c _ (by omega)).mono ?_; rw [hm.out]; rintro e w' ⟨rfl, rfl⟩)
    | (go_at_call 41; refine (pages41 (long : Int) _ hl2).mono ?_; rw [HPG.out]; rintro e w' ⟨rfl, rfl⟩))
  have hdm : decide (m ≤ f) = false := by simp; omega
  simp only [hdm, Bool.false_or]
  clear hdm
  go_loopw [12, 13, 14, 15] (fun v i _ _ wr => ∃ (k n' : Nat) (A' : Option Addr) (c' : Nat) (o : List UInt8), k ≤ P ∧ i = .int .i64 k ∧ v = .slice A' n' c' ∧ Own8 wr w.heap.size A' n' c' o ∧ Hd (gat l kind f long (List.range k) = (o, 0)) ∧ Hd (n' = min long (246 * k)) ∧ Below w.heap.size w wr)
    (fun _ i _ _ _ => P - (intOf i).toNat)
  case atStart => exact ⟨0, 0, none, 0, [], by omega, rfl, rfl, Own8.nil_ _ _ _, ⟨rfl⟩, ⟨by simp⟩, Below.refl _ _⟩
  case round =>
    obtain ⟨k, n', A', c', o, hk, rfl, rfl, ho, hg, hnH, hb⟩ := hrel
    have hn' := hnH.out
    have hn6 : n' ≤ 246 * k := by omega
    by_cases hlt : k < P
    · obtain ⟨d, de, hat⟩ : ∃ d de, Hd (atP l ((f : Int) + (k : Int)) kind = (d, de)) := ⟨_, _, ⟨rfl⟩⟩
      obtain ⟨dn, hdn⟩ : ∃ dn, Hd (d.length = dn) := ⟨_, ⟨rfl⟩⟩
      have hol := ho.len
      have hG : gat l kind f long (List.range (k + 1)) = if de ≠ 0 then ([], de) else if d.length ≠ min (long - o.length) 246 then ([], 193) else (o ++ d, 0) := by
        rw [List.range_succ, gat_snoc, hg.out]
        unfold gstep
        rw [hat.out, if_neg (by simp)]
      have hpre : List.range (k + 1) <+: List.range P := ⟨(List.range (P - (k + 1))).map ((k + 1) + ·), by rw [← List.range_add]; congr 1; omega⟩
      have hki : (k : Int) < (P : Int) := by omega
      have hkl : 246 * k < long := by have := hp.out; unfold npages at this; omega
      by_cases he : de = 0
      · subst he
        obtain ⟨q, hqd⟩ : ∃ q, q = min (long - n') 246 := ⟨_, rfl⟩
        have hz : (if (long : Int) - (k : Int) * 246 < 246 then (long : Int) - (k : Int) * 246 else (246 : Int)) = (q : Int) := by split <;> omega
        have hz2 : (if (246 : Int) ≤ (long : Int) - (k : Int) * 246 then (246 : Int) else (long : Int) - (k : Int) * 246) = (q : Int) := by split <;> omega
        by_cases hq : dn = q
        · have hqi : ((dn : Int) != (q : Int)) = false := by simp; omega
          rw [if_neg (by simp), if_neg (by rw [hdn.out, hol]; omega)] at hG
          have HG := Hd.mk hG
          have hdl : dn ≤ 246 := by omega
          have hn2 : Hd (n' + dn = min long (246 * (k + 1))) := ⟨by omega⟩
          clear hG hol hq hqd hpre hn'
          go_wp2_with (first
            | (go_at_call 41; refine (pages41 (long : Int) _ hl2).mono ?_; rw [HPG.out]; rintro e w' ⟨rfl, rfl⟩)
            | (go_at_call 37; refine (rat37 A n c l ((f : Int) + (k : Int)) kind wr (h.below hb) (by omega) hnc (by omega) (by omega)).mono ?_; rw [hat.out]; rintro e w1 ⟨A1, n1, c1, rfl, hr1, hnc1, hb1, hf1⟩; have hl1 := hr1.len; obtain rfl : n1 = dn := (by rw [← hl1, hdn.out]); have hb2 := hb.trans (hb1.mono hb.size); have ho' := ho.below hb1)
            | (at_builtin; refine wl_app8 rfl (.tmp 74) (.tmp 75) rfl rfl rfl ho' hr1 (by omega) hb2.size ?_; rintro v w2 ⟨A2, c2, rfl, ho2, hg2, _⟩; have hb3 := below_app hb2 hb2.size ho' hg2))
          go_roundw
          case rel => exact ⟨k + 1, _, A2, c2, _, by omega, by go_num, rfl, ho2, HG, hn2, hb3⟩
          case measure => simp [intOf]; omega
        · have hqi : ((dn : Int) != (q : Int)) = true := by simp; omega
          rw [if_neg (by simp), if_pos (by rw [hdn.out, hol]; omega)] at hG
          have HG := Hd.mk ((gat_stuck l kind f long hpre (by rw [hG]; simp)).trans hG)
          clear hG hol hq hqd hpre hn'
          go_wp2_with (first
            | (go_at_call 41; refine (pages41 (long : Int) _ hl2).mono ?_; rw [HPG.out]; rintro e w' ⟨rfl, rfl⟩)
            | (go_at_call 37; refine (rat37 A n c l ((f : Int) + (k : Int)) kind wr (h.below hb) (by omega) hnc (by omega) (by omega)).mono ?_; rw [hat.out]; rintro e w1 ⟨A1, n1, c1, rfl, hr1, hnc1, hb1, hf1⟩; have hl1 := hr1.len; obtain rfl : n1 = dn := (by rw [← hl1, hdn.out]); have hb2 := hb.trans (hb1.mono hb.size); have ho' := ho.below hb1))
          go_ret2
          rw [HG.out]
          exact ⟨_, _, _, rfl, Rd8.nil_, Nat.le_refl _, hb2, fun h => absurd h (by omega)⟩
      · have he0 : ((de : Int) != 0) = true := by simp; omega
        rw [if_pos he] at hG
        have HG := Hd.mk ((gat_stuck l kind f long hpre (by rw [hG]; exact he)).trans hG)
        clear hG hol hpre hn'
        go_wp2_with (first
          | (go_at_call 41; refine (pages41 (long : Int) _ hl2).mono ?_; rw [HPG.out]; rintro e w' ⟨rfl, rfl⟩)
          | (go_at_call 37; refine (rat37 A n c l ((f : Int) + (k : Int)) kind wr (h.below hb) (by omega) hnc (by omega) (by omega)).mono ?_; rw [hat.out]; rintro e w1 ⟨A1, n1, c1, rfl, hr1, hnc1, hb1, hf1⟩; have hl1 := hr1.len; obtain rfl : n1 = dn := (by rw [← hl1, hdn.out]); have hb2 := hb.trans (hb1.mono hb.size); have ho' := ho.below hb1))
        go_ret2
        rw [HG.out]
        exact ⟨_, _, _, rfl, Rd8.nil_, Nat.le_refl _, hb2, fun h => absurd h (by omega)⟩
    · obtain rfl : k = P := by omega
      clear hn'
      go_wp2_with (go_at_call 41; refine (pages41 (long : Int) _ hl2).mono ?_; rw [HPG.out]; rintro e w' ⟨rfl, rfl⟩)
      go_ret2
      rw [hg.out]
      refine ⟨_, _, _, rfl, ho.rd, (Own8.le ho).1, hb, ?_⟩
      intro hn0 ad hA
      obtain ⟨ad', _, hA', _, _, _, hbk⟩ := ho.at_ (k := 0) hn0
      rw [hA] at hA'; cases hA'
      exact (ho.lt hbk).1
set_option maxRecDepth 100000 in
set_option maxHeartbeats 4000000 in
theorem rgather39_zero (A : Option Addr) (n c : Nat) (l : List UInt8) (kind : UInt8) (f long : Nat) (w : World) (hn : n ≤ 4194304) (m : Nat) (hm : Hd (count n = (m, 0))) 
    (P : Nat) (hp : Hd (npages long = P)) (hf : f ≤ 9223372036854775807) (hl : long ≤ 246 * P) (hP0 : (P : Int) ≤ 0) :
    Calls Try.prog 39 #[.slice A n c, .int .u8 (kind.toNat : Int), .int .i64 f, .int .i64 long] w (RetA w (gat l kind f long (List.range P))) := by
  have HPG : Hd (pages (long : Int) = (P : Int)) := ⟨by rw [pages_nat, hp.out]⟩
  have hl2 : (long : Int) ≤ 9223372036854775807 := by omega
  have hfl : ¬ ((f : Int) < 0) := by omega
  have hll : ¬ ((long : Int) < 0) := by omega
  have hPz : ¬ 0 < P := by omega
  obtain rfl : P = 0 := by omega
  go_enter Try.func39, Try.ntmps39
  go_wp2_with (first
    | (go_at_call 35; refine (count35 A n c _ (by omega)).mono ?_; rw [hm.out]; rintro e w' ⟨rfl, rfl⟩)
    | (go_at_call 41; refine (pages41 (long : Int) _ hl2).mono ?_; rw [HPG.out]; rintro e w' ⟨rfl, rfl⟩))
  refine wp_loop_rounds 1 ?_
  rw [rounds_succ]
  go_wp2_with (go_at_call 41; refine (pages41 (long : Int) _ hl2).mono ?_; rw [HPG.out]; rintro e w' ⟨rfl, rfl⟩)
  go_ret2
  exact RetA.nil w 0
theorem rgather39 (A : Option Addr) (n c : Nat) (l : List UInt8) (kind : UInt8) (first long : Int) (w : World) (h : Rd8 w A n l) (hn : n ≤ 140737488355328) (hnc : n ≤ c) (hf2 : first ≤ 9223372036854775807) (hl2 : long ≤ 9223372036854775807) :
    Calls Try.prog 39 #[.slice A n c, .int .u8 (kind.toNat : Int), .int .i64 first, .int .i64 long] w (RetA w (gatherP l kind first long)) := by
  obtain ⟨m, em, hm⟩ : ∃ m e, count n = (m, e) := ⟨_, _, rfl⟩
  unfold gatherP
  rw [h.len, hm]
  by_cases he : em ≠ 0
  · rw [if_pos he]
    exact rgather39_count A n c kind first long w hn m em ⟨hm⟩ he
  · rw [if_neg he]
    have he' : em = 0 := by omega
    obtain ⟨h1, h2⟩ := count_ok (he' ▸ hm)
    by_cases hb : first < 0 ∨ long < 0 ∨ (0 < pages long ∧ ((m : Int) ≤ first ∨ (m : Int) - first < pages long))
    · rw [if_pos hb]
      by_cases b1 : first < 0
      · exact rgather39_bad1 A n c kind first long w hn m em ⟨hm⟩ he' b1
      · by_cases b2 : long < 0
        · exact rgather39_bad2 A n c kind first long w hn m em ⟨hm⟩ he' b1 b2
        · obtain ⟨b3, b4⟩ := (hb.resolve_left b1).resolve_left b2
          exact rgather39_bad3 A n c kind first long w hn hl2 hf2 m ⟨he' ▸ hm⟩ (by omega) b1 b2 _ ⟨rfl⟩ b3 b4
    · rw [if_neg hb]
      obtain ⟨f, rfl⟩ := Int.eq_ofNat_of_zero_le (by omega : 0 ≤ first)
      obtain ⟨lg, rfl⟩ := Int.eq_ofNat_of_zero_le (by omega : 0 ≤ long)
      rw [pages_nat] at hb
      simp only [Int.toNat_natCast]
      have hp : npages lg = (lg + 245) / 246 := rfl
      by_cases hP : npages lg = 0
      · rw [hP]
        exact rgather39_zero A n c l kind f lg w h1 m ⟨he' ▸ hm⟩ 0 ⟨hP⟩ (by omega) (by omega) (by omega)
      · exact rgather39_pos A n c l kind f lg w h h1 hnc m ⟨he' ▸ hm⟩ h2 _ ⟨rfl⟩ (by omega) (by omega) (by omega) (by omega) (by omega) (by omega)
end Go.Proofs.Ytkgdcglnkodgnaa
