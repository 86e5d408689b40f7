/-
  The document's last, Find and Depth (128, 78, 77). No condition but sizes.
-/
import Derived.Test.YtkgdcglnkodgnaaRr
import Derived.Test.YtkgdcglnkodgnaaFi
import Derived.Test.YtkgdcglnkodgnaaTreeC
namespace Go.Proofs.Ytkgdcglnkodgnaa
open Go.RowKit
theorem behindK_at {key : ByteArray} {l : List Kp} (hs : SortK l) {j : Nat} {p : Kp} (hp : l[j]? = some p) : leK p.1 key = decide (j < behindK key l) := by
  have h := behindK_spec key l hs
  by_cases hj : j < behindK key l
  · rw [decide_eq_true hj]
    exact h.1 p (by
      refine List.mem_of_getElem? (i := j) ?_
      rw [List.getElem?_take, if_pos hj]; exact hp)
  · rw [decide_eq_false hj]
    have h1 := h.2 p (by
      refine List.mem_of_getElem? (i := j - behindK key l) ?_
      rw [List.getElem?_drop, show behindK key l + (j - behindK key l) = j by omega]; exact hp)
    rw [leK_not, h1]; rfl
theorem node_new (w : World) (m : Int) (A : Option Addr) (n c : Nat) : NodeAt (w.alloc (.cells #[.int .i64 m, .slice A n c] 188)) w.heap.size m A n c := heap_alloc_new w _
set_option maxRecDepth 100000 in
set_option maxHeartbeats 1000000 in
theorem last128 (m : Int) (A : Option Addr) (n c : Nat) (ps : List Kp) (key : ByteArray) (w : World) (h : RdK w A n ps) (hn : n ≤ 256) (hs : SortK ps) :
    Calls Try.prog 128 #[.agg #[.int .i64 m, .slice A n c], .string key] w fun e w' => e = .returned (.int .i64 ((behindK key ps : Int) - 1)) ∧ w' = w.alloc (.cells #[.int .i64 m, .slice A n c] 188) := by
  have HL := Hd.mk h.len
  obtain ⟨W, hW⟩ : ∃ W, Hd (w.alloc (.cells #[.int .i64 m, .slice A n c] 188) = W) := ⟨_, ⟨rfl⟩⟩
  have HR : Hd (RdK W A n ps) := ⟨by rw [← hW.out]; exact Rd.below h ((Below.refl _ _).alloc (Nat.le_refl _) _)⟩
  obtain ⟨y0, y1, y2, y3⟩ := NodeAt.load (node_new w m A n c)
  rw [hW.out] at y0 y1 y2 y3
  obtain ⟨q, hq⟩ : ∃ q, Hd (behindK key ps = q) := ⟨_, ⟨rfl⟩⟩
  have hqn : q ≤ n := by rw [← hq.out, ← HL.out]; exact behindK_le key ps
  have HA := Hd.mk (fun (j : Nat) (p : Kp) (hp : ps[j]? = some p) => behindK_at (key := key) hs hp)
  rw [hq.out] at HA ⊢
  clear h
  go_enter Try.func128, Try.ntmps128
  go_upto_region 1 with fail
  rw [hW.out]
  go_wp2_with fail
  go_loopw [5, 6] (fun a i wr => ∃ j : Nat, i = .int .i64 (j : Int) ∧ a = .int .i64 (((min j q : Nat) : Int) - 1) ∧ j ≤ n ∧ wr = W)
    (fun _ i _ => n - (intOf i).toNat)
  case atStart => exact ⟨0, rfl, by simp, by omega, rfl⟩
  case round =>
    obtain ⟨j, rfl, rfl, hj, rfl⟩ := hrel
    by_cases hlt : j < n
    · obtain ⟨p, hp⟩ : ∃ p, Hd (ps[j]? = some p) := ⟨ps[j]'(by have := HL.out; omega), ⟨List.getElem?_eq_getElem _⟩⟩
      obtain ⟨ad, rfl, q0, q1⟩ := RdK.get HR.out hp.out
      have hji : (j : Int) < (n : Int) := by omega
      have hj0 : (0 : Int) ≤ (j : Int) := by omega
      have hk := HA.out j p hp.out
      by_cases hjq : j < q
      · have hle' : (Op.bytesLess p.1.toList key.toList || p.1.toList == key.toList) = true := by rw [decide_eq_true hjq] at hk; exact hk
        clear hk hp
        go_wp2_with fail
        go_roundw
        case rel => exact ⟨j + 1, by go_num, by rw [show min (j + 1) q = j + 1 by omega]; go_num, by omega, trivial⟩
        case measure => simp [intOf]; omega
      · have hle' : (Op.bytesLess p.1.toList key.toList || p.1.toList == key.toList) = false := by rw [decide_eq_false hjq] at hk; exact hk
        clear hk hp
        go_wp2_with fail
        go_roundw
        case rel => exact ⟨j + 1, by go_num, by rw [show min (j + 1) q = min j q by omega], by omega, trivial⟩
        case measure => simp [intOf]; omega
    · obtain rfl : j = n := by omega
      have hji : ¬ ((j : Int) < (j : Int)) := by omega
      rw [show min j q = q by omega]
      go_wp2_with fail
      go_ret
      exact ⟨rfl, hW.out.symm⟩
set_option maxRecDepth 100000 in
set_option maxHeartbeats 2000000 in
theorem rfind78 (A : Option Addr) (n c : Nat) (l : List UInt8) (kind : UInt8) (root : Int) (key : ByteArray) (w : World) (h : Rd8 w A n l) (hn : n ≤ 140737488355328) (hnc : n ≤ c) (hlo : -9223372036854775808 ≤ root) (hhi : root ≤ 9223372036854775807) :
    Calls Try.prog 78 #[.slice A n c, .int .u8 (kind.toNat : Int), .int .i64 root, .string key] w (RetF w (findP l kind root key)) := by
  go_enter Try.func78, Try.ntmps78
  go_wp2
  go_loopw [2, 11, 12, 13, 14] (fun a lv _ _ _ wr => ∃ (at' level : Int) (f : Nat), a = .int .i64 at' ∧ lv = .int .i64 level ∧ Hd (findK l kind key f at' level = findP l kind root key) ∧ -9223372036854775808 ≤ at' ∧ at' ≤ 9223372036854775807 ∧ Hd (Below w.heap.size w wr) ∧ (level = -1 ∧ f = 14 ∨ 0 ≤ level ∧ level < f ∧ f ≤ 13))
    (fun _ lv _ _ _ _ => levelM lv)
  case atStart => exact ⟨root, -1, 14, rfl, rfl, ⟨rfl⟩, hlo, hhi, ⟨Below.refl _ _⟩, .inl ⟨rfl, rfl⟩⟩
  case round =>
    obtain ⟨at', level, f, rfl, rfl, hf, hlo', hhi', hb, hlev⟩ := hrel
    obtain ⟨f, rfl⟩ : ∃ f', f = f' + 1 := ⟨f - 1, by omega⟩
    obtain ⟨er, m, ps, hr⟩ : ∃ er m ps, Hd (readK l kind at' level = (er, m, ps)) := ⟨_, _, _, ⟨rfl⟩⟩
    have HR := Hd.mk (rread127 A n c l kind at' level wr (h.below hb.out) hn hnc hlo' hhi' (by omega))
    rw [hr.out] at HR
    by_cases he : er ≠ 0
    · have e1 : ((er : Int) != 0) = true := by simp; omega
      have hf2 : Hd ((0, false, er) = findP l kind root key) := ⟨by rw [← hf.out, findK_err hr.out he]⟩
      clear hf he hlev
      go_wp2_with (go_at_call 127; refine HR.out.mono ?_; rintro e w1 ⟨A1, n1, c1, rfl, o1, _, b1⟩)
      go_ret3
      rw [← hf2.out]
      exact ⟨rfl, (hb.out.trans (b1.mono hb.out.size)).alloc (hb.out.trans (b1.mono hb.out.size)).size _⟩
    have he : er = 0 := by omega
    subst he
    have hok := readK_ok hr.out
    have hm0 := hok.1
    have hm12 := hok.2.1
    have hml : level = -1 ∨ m = level := hok.2.2.1
    have hsort := Hd.mk hok.2.2.2.1
    have hps := Hd.mk hok.2.2.2.2.1
    have hplen : Hd (ps.length ≤ 256) := ⟨hok.2.2.2.2.2.2⟩
    clear hok
    obtain ⟨i, hi⟩ : ∃ i, Hd (behindK key ps = i) := ⟨_, ⟨rfl⟩⟩
    have hile : Hd (i ≤ ps.length) := ⟨by rw [← hi.out]; exact behindK_le key ps⟩
    go_wp2_with fail
    refine HR.out.mono ?_
    rintro e w1 ⟨A1, n1, c1, rfl, o1, k1, b1⟩
    obtain ⟨W2, hW2⟩ : ∃ W2, Hd (w1.alloc (.cells #[.int .i64 m, .slice A1 n1 c1] 188) = W2) := ⟨_, ⟨rfl⟩⟩
    have HN2 : Hd (NodeAt W2 w1.heap.size m A1 n1 c1) := ⟨by rw [← hW2.out]; exact node_new w1 m A1 n1 c1⟩
    have B2 : Below w1.heap.size w1 W2 := by rw [← hW2.out]; exact (Below.refl _ _).alloc (Nat.le_refl _) _
    have HO2 : Hd (RdK W2 A1 n1 ps) := ⟨(Own.rd o1).below B2⟩
    have hB1 := hb.out.trans (b1.mono hb.out.size)
    have HB2 : Hd (Below w.heap.size w W2) := ⟨hB1.trans (B2.mono hB1.size)⟩
    have HLA := Hd.mk (last128 m A1 n1 c1 ps key W2 HO2.out k1 hsort.out)
    rw [hi.out] at HLA
    have hpl : ps.length = n1 := HO2.out.len
    obtain ⟨u0, u1, u2, u3⟩ := HN2.out.load
    clear o1 b1 B2 hB1 HR h
    go_upto_region 3 with fail
    rw [hW2.out]
    go_wp2_with fail
    refine HLA.out.mono ?_
    rintro e W3 ⟨rfl, hW3⟩
    have B3 : Below W2.heap.size W2 W3 := by rw [hW3]; exact (Below.refl _ _).alloc (Nat.le_refl _) _
    have HN3 : Hd (NodeAt W3 w1.heap.size m A1 n1 c1) := ⟨(B3.block _ (Array.getElem?_eq_some_iff.1 HN2.out).1).trans HN2.out⟩
    have HO3 : Hd (RdK W3 A1 n1 ps) := ⟨HO2.out.below B3⟩
    have HB3 : Hd (Below w.heap.size w W3) := ⟨HB2.out.trans (B3.mono HB2.out.size)⟩
    clear u0 u1 u2 u3
    obtain ⟨u0, u1, u2, u3⟩ := HN3.out.load
    clear hW3 B3 HLA hW2 HN2 HO2 HB2 hsort
    by_cases h0 : i = 0
    · subst h0
      have hf3 : Hd ((0, false, 0) = findP l kind root key) := ⟨by rw [← hf.out, findK_none hr.out hi.out]⟩
      have e1 : (((0 : Nat) : Int) - 1) < 0 := by omega
      clear hf hlev
      go_wp2_with fail
      go_ret3
      rw [← hf3.out]
      exact ⟨rfl, HB3.out⟩
    obtain ⟨i, rfl⟩ : ∃ i', i = i' + 1 := ⟨i - 1, by omega⟩
    have hil : i < ps.length := by have := hile.out; omega
    obtain ⟨p, hp⟩ : ∃ p, Hd (ps[i]? = some p) := ⟨ps[i], ⟨List.getElem?_eq_getElem hil⟩⟩
    have hf3 : Hd ((if m = 0 then (if p.1 = key then (p.2, true, 0) else (0, false, 0)) else findK l kind key f p.2 (m - 1)) = findP l kind root key) :=
      ⟨by rw [← hf.out, findK_some hr.out hi.out hp.out]⟩
    have hpo := hps.out p (List.mem_of_getElem? hp.out)
    obtain ⟨-, hp0, hp1⟩ := hpo
    have e2 : (((i + 1 : Nat) : Int) - 1) = (i : Int) := by omega
    rw [e2]
    have e1 : ¬ ((i : Int) < 0) := by omega
    have e3 : (0 : Int) ≤ (i : Int) := by omega
    have e4 : (i : Int) < (n1 : Int) := by omega
    obtain ⟨ad, rfl, q0, q1⟩ := RdK.get HO3.out hp.out
    clear hf h0 hps e2
    by_cases hmz : m = 0
    · have hf4 : Hd ((if p.1 = key then (p.2, true, 0) else (0, false, 0)) = findP l kind root key) := ⟨by rw [← hf3.out, if_pos hmz]⟩
      subst hmz
      clear hf3
      by_cases hk : p.1 = key
      · have hf5 : Hd ((p.2, true, 0) = findP l kind root key) := ⟨by rw [← hf4.out, if_pos hk]⟩
        have k2 : (p.1.toList == key.toList) = true := by simp [hk]
        clear hk hf4 hlev
        go_wp2_with fail
        go_ret3
        rw [← hf5.out]
        exact ⟨rfl, HB3.out⟩
      · have hf5 : Hd ((0, false, 0) = findP l kind root key) := ⟨by rw [← hf4.out, if_neg hk]⟩
        have k2 : (p.1.toList == key.toList) = false := by rw [beq_eq_false_iff_ne]; exact fun e => hk (key_ext e)
        clear hk hf4 hlev
        go_wp2_with fail
        go_ret3
        rw [← hf5.out]
        exact ⟨rfl, HB3.out⟩
    · have hf4 : Hd (findK l kind key f p.2 (m - 1) = findP l kind root key) := ⟨by rw [← hf3.out, if_neg hmz]⟩
      have k2 : (m == 0) = false := by simp; omega
      have k3 : IntKind.i64.wrap (m - 1) = m - 1 := by rw [IntKind.wrap_i64]; omega
      clear hf3
      go_wp2_with fail
      go_roundw
      case rel => exact ⟨p.2, m - 1, f, rfl, rfl, hf4, by omega, by omega, HB3, .inr ⟨by omega, by omega, by omega⟩⟩
      case measure => exact levelM_lt hm0 hm12 hmz hml
set_option maxRecDepth 100000 in
set_option maxHeartbeats 2000000 in
theorem rdepth77 (A : Option Addr) (n c : Nat) (l : List UInt8) (kind : UInt8) (root : Int) (w : World) (h : Rd8 w A n l) (hn : n ≤ 140737488355328) (hnc : n ≤ c) (hlo : -9223372036854775808 ≤ root) (hhi : root ≤ 9223372036854775807) :
    Calls Try.prog 77 #[.slice A n c, .int .u8 (kind.toNat : Int), .int .i64 root] w fun e w' => e = .returned (.tuple #[.int .i64 (depthP l kind root).1, .int .i64 ((depthP l kind root).2 : Int)]) ∧ Below w.heap.size w w' := by
  have HR := Hd.mk (rread127 A n c l kind root (-1) w h hn hnc hlo hhi (by omega))
  obtain ⟨er, m, ps, hr⟩ : ∃ er m ps, Hd (readK l kind root (-1) = (er, m, ps)) := ⟨_, _, _, ⟨rfl⟩⟩
  have hd : Hd (depthP l kind root = if er ≠ 0 then (0, er) else (m + 1, 0)) := ⟨by unfold depthP; rw [hr.out]⟩
  rw [hr.out] at HR
  go_enter Try.func77, Try.ntmps77
  go_wp2_with fail
  refine HR.out.mono ?_
  rintro e w1 ⟨A1, n1, c1, rfl, o1, k1, b1⟩
  obtain ⟨u0, u1, u2, u3⟩ := NodeAt.load (node_new w1 m A1 n1 c1)
  have HB := Hd.mk (b1.alloc b1.size (.cells #[.int .i64 m, .slice A1 n1 c1] 188))
  clear o1 b1 HR
  by_cases he : er = 0
  · subst he
    have hok := readK_ok hr.out
    have hm0 := hok.1
    have hm12 := hok.2.1
    clear hok
    have i1 : IntKind.i64.wrap (m + 1) = m + 1 := by rw [IntKind.wrap_i64]; omega
    have hi2 : Hd (depthP l kind root = (m + 1, 0)) := ⟨by rw [hd.out, if_neg (by simp)]⟩
    go_wp2_with fail
    go_ret2
    rw [hi2.out]
    exact ⟨rfl, HB.out⟩
  · have e1 : ((er : Int) != 0) = true := by simp; omega
    have hi2 : Hd (depthP l kind root = (0, er)) := ⟨by rw [hd.out, if_pos he]⟩
    clear he
    go_wp2_with fail
    go_ret2
    rw [hi2.out]
    exact ⟨rfl, HB.out⟩
end Go.Proofs.Ytkgdcglnkodgnaa

