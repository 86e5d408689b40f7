/-
  tree.Find and tree.Depth. No condition but sizes.
-/
import Derived.Test.YtkgdcglnkodgnaaRk
namespace Go.Proofs.Ytkgdcglnkodgnaa
open Go.RowKit
/-- What a search answers. -/
def RetF (w : World) (r : Int × Bool × Nat) (e : Ending) (w' : World) : Prop :=
  e = .returned (.tuple #[.int .i64 r.1, .bool r.2.1, .int .i64 (r.2.2 : Int)]) ∧ Below w.heap.size w w'
def levelM (v : Value) : Nat := if intOf v < 0 then 20 else (intOf v).toNat
theorem levelM_lt {m level : Int} (h0 : 0 ≤ m) (h1 : m ≤ 12) (h2 : ¬ m = 0) (h3 : level = -1 ∨ m = level) : levelM (.int .i64 (m - 1)) < levelM (.int .i64 level) := by
  show (if m - 1 < 0 then 20 else (m - 1).toNat) < (if level < 0 then 20 else level.toNat)
  rw [if_neg (by omega)]
  by_cases h : level < 0
  · rw [if_pos h]; omega
  · rw [if_neg h]; omega
section
variable {b : List UInt8} {kind : UInt8} {key : ByteArray} {f : Nat} {number level m : Int} {er i : Nat} {ps : List Kp} {p : Kp}
theorem findK_err (h : readK b kind number level = (er, m, ps)) (he : er ≠ 0) : findK b kind key (f + 1) number level = (0, false, er) := by
  unfold findK
  rw [h, if_pos he]
theorem findK_none (h : readK b kind number level = (0, m, ps)) (h0 : behindK key ps = 0) : findK b kind key (f + 1) number level = (0, false, 0) := by
  unfold findK
  rw [h, if_neg (by simp)]
  simp only [h0]
  split <;> simp
theorem findK_some (h : readK b kind number level = (0, m, ps)) (hi : behindK key ps = i + 1) (hp : ps[i]? = some p) :
    findK b kind key (f + 1) number level = if m = 0 then (if p.1 = key then (p.2, true, 0) else (0, false, 0)) else findK b kind key f p.2 (m - 1) := by
  rw [findK]
  rw [h, if_neg (by simp)]
  simp only [hi, Nat.add_sub_cancel, hp]
  rw [if_neg (by omega)]
end
set_option maxRecDepth 100000 in
set_option maxHeartbeats 2000000 in
theorem find68 (A : Option Addr) (n c : Nat) (l : List UInt8) (kind : UInt8) (root : Int) (key : ByteArray) (w : World) (h : Rd8 w A n l) (hn : n ≤ 140737488355328) (hnc : n ≤ c) (hlo : -9223372036854775808 ≤ root) (hhi : root ≤ 9223372036854775807) :
    Calls Try.prog 68 #[.slice A n c, .int .u8 (kind.toNat : Int), .int .i64 root, .string key] w (RetF w (findP l kind root key)) := by
  go_enter Try.func68, Try.ntmps68
  go_wp2
  go_step3
  go_wp2
  go_step3
  go_wp2
  go_loopw [11, 12, 13, 14, 15, 16, 17] (fun a lv _ _ _ _ _ wr => ∃ (at' level : Int) (f : Nat), a = .int .i64 at' ∧ lv = .int .i64 level ∧ Hd (findK l kind key f at' level = findP l kind root key) ∧ -9223372036854775808 ≤ at' ∧ at' ≤ 9223372036854775807 ∧ Hd (Below w.heap.size w wr) ∧ (level = -1 ∧ f = 14 ∨ 0 ≤ level ∧ level < f ∧ f ≤ 13))
    (fun _ lv _ _ _ _ _ _ => levelM lv)
  case atStart => exact ⟨root, -1, 14, rfl, rfl, ⟨rfl⟩, hlo, hhi, ⟨Below.refl _ _⟩, .inl ⟨rfl, rfl⟩⟩
  case round =>
    obtain ⟨at', level, f, rfl, rfl, hf, hlo', hhi', hb, hlev⟩ := hrel
    obtain ⟨f, rfl⟩ : ∃ f', f = f' + 1 := ⟨f - 1, by omega⟩
    obtain ⟨er, m, ps, hr⟩ : ∃ er m ps, Hd (readK l kind at' level = (er, m, ps)) := ⟨_, _, _, ⟨rfl⟩⟩
    have HR := Hd.mk (read112 A n c l kind at' level wr (h.below hb.out) hn hnc hlo' hhi')
    rw [hr.out] at HR
    by_cases he : er ≠ 0
    · have e1 : ((er : Int) != 0) = true := by simp; omega
      have hf2 : Hd ((0, false, er) = findP l kind root key) := ⟨by rw [← hf.out, findK_err hr.out he]⟩
      clear hf he hlev
      go_wp2_with (go_at_call 112; refine HR.out.mono ?_; rintro e w1 ⟨A1, n1, c1, rfl, o1, _, b1⟩)
      go_ret3
      rw [← hf2.out]
      exact ⟨rfl, hb.out.trans (b1.mono hb.out.size)⟩
    have he : er = 0 := by omega
    subst he
    have hok := readK_ok hr.out
    have hm0 := hok.1
    have hm12 := hok.2.1
    have hml : level = -1 ∨ m = level := hok.2.2.1
    have hps := Hd.mk hok.2.2.2.2.1
    have hplen : Hd (ps.length ≤ 256) := ⟨hok.2.2.2.2.2.2⟩
    clear hok
    have HBH : ∀ (A1 : Option Addr) (n1 c1 : Nat) (w1 : World), OwnK w1 wr.heap.size A1 n1 c1 ps → n1 ≤ 256 → Hd _ := fun A1 n1 c1 w1 h1 h2 => Hd.mk (behind113 A1 n1 c1 ps key w1 (Own.rd h1) (by omega))
    obtain ⟨i, hi⟩ : ∃ i, Hd (behindK key ps = i) := ⟨_, ⟨rfl⟩⟩
    rw [hi.out] at HBH
    have hile : Hd (i ≤ ps.length) := ⟨by rw [← hi.out]; exact behindK_le key ps⟩
    by_cases h0 : i = 0
    · subst h0
      have hf3 : Hd ((0, false, 0) = findP l kind root key) := ⟨by rw [← hf.out, findK_none hr.out hi.out]⟩
      have e1 : (((0 : Nat) : Int) == 0) = true := rfl
      clear hf hlev
      go_wp2_with (first
        | (go_at_call 112; refine HR.out.mono ?_; rintro e w1 ⟨A1, n1, c1, rfl, o1, k1, b1⟩)
        | (go_at_call 113; refine (HBH A1 n1 c1 w1 o1 k1).out.mono ?_; rintro e w2 ⟨rfl, rfl⟩))
      go_ret3
      rw [← hf3.out]
      exact ⟨rfl, hb.out.trans (b1.mono hb.out.size)⟩
    obtain ⟨i, rfl⟩ : ∃ i', i = i' + 1 := ⟨i - 1, by omega⟩
    have hil : i < ps.length := by have := hile.out; omega
    obtain ⟨p, hp⟩ : ∃ p, Hd (ps[i]? = some p) := ⟨ps[i], ⟨List.getElem?_eq_getElem hil⟩⟩
    have hf3 : Hd ((if m = 0 then (if p.1 = key then (p.2, true, 0) else (0, false, 0)) else findK l kind key f p.2 (m - 1)) = findP l kind root key) :=
      ⟨by rw [← hf.out, findK_some hr.out hi.out hp.out]⟩
    have hpo := hps.out p (List.mem_of_getElem? hp.out)
    obtain ⟨-, hp0, hp1⟩ := hpo
    have e1 : (((i + 1 : Nat) : Int) == 0) = false := by simp; omega
    have e2 : IntKind.i64.wrap (((i + 1 : Nat) : Int) - 1) = (i : Int) := by rw [IntKind.wrap_i64]; have := hplen.out; omega
    have e3 : (0 : Int) ≤ (i : Int) := by omega
    clear hf h0 hps
    by_cases hmz : m = 0
    · have hf4 : Hd ((if p.1 = key then (p.2, true, 0) else (0, false, 0)) = findP l kind root key) := ⟨by rw [← hf3.out, if_pos hmz]⟩
      subst hmz
      clear hf3
      by_cases hk : p.1 = key
      · have hf5 : Hd ((p.2, true, 0) = findP l kind root key) := ⟨by rw [← hf4.out, if_pos hk]⟩
        have k2 : (p.1.toList == key.toList) = true := by simp [hk]
        clear hk hf4 hlev
        go_wp2_with (first
          | (go_at_call 112; refine HR.out.mono ?_; rintro e w1 ⟨A1, n1, c1, rfl, o1, k1, b1⟩; have e4 : (i : Int) < (n1 : Int) := (by have := o1.len; simp only at this; omega))
          | (go_at_call 113; refine (HBH A1 n1 c1 w1 o1 k1).out.mono ?_; rintro e w2 ⟨rfl, rfl⟩; obtain ⟨ad, rfl, q0, q1⟩ := RdK.get (Own.rd o1) hp.out))
        go_ret3
        rw [← hf5.out]
        exact ⟨rfl, (hb.out.trans (b1.mono hb.out.size)).alloc (hb.out.trans (b1.mono hb.out.size)).size _⟩
      · have hf5 : Hd ((0, false, 0) = findP l kind root key) := ⟨by rw [← hf4.out, if_neg hk]⟩
        have k2 : (p.1.toList == key.toList) = false := by rw [beq_eq_false_iff_ne]; exact fun e => hk (key_ext e)
        clear hk hf4 hlev
        go_wp2_with (first
          | (go_at_call 112; refine HR.out.mono ?_; rintro e w1 ⟨A1, n1, c1, rfl, o1, k1, b1⟩; have e4 : (i : Int) < (n1 : Int) := (by have := o1.len; simp only at this; omega))
          | (go_at_call 113; refine (HBH A1 n1 c1 w1 o1 k1).out.mono ?_; rintro e w2 ⟨rfl, rfl⟩; obtain ⟨ad, rfl, q0, q1⟩ := RdK.get (Own.rd o1) hp.out))
        go_ret3
        rw [← hf5.out]
        exact ⟨rfl, (hb.out.trans (b1.mono hb.out.size)).alloc (hb.out.trans (b1.mono hb.out.size)).size _⟩
    · have hf4 : Hd (findK l kind key f p.2 (m - 1) = findP l kind root key) := ⟨by rw [← hf3.out, if_neg hmz]⟩
      have k2 : (m == 0) = false := by simp; omega
      have k3 : IntKind.i64.wrap (m - 1) = m - 1 := by rw [IntKind.wrap_i64]; omega
      clear hf3
      go_wp2_with (first
        | (go_at_call 112; refine HR.out.mono ?_; rintro e w1 ⟨A1, n1, c1, rfl, o1, k1, b1⟩; have e4 : (i : Int) < (n1 : Int) := (by have := o1.len; simp only at this; omega))
        | (go_at_call 113; refine (HBH A1 n1 c1 w1 o1 k1).out.mono ?_; rintro e w2 ⟨rfl, rfl⟩; obtain ⟨ad, rfl, q0, q1⟩ := RdK.get (Own.rd o1) hp.out))
      go_roundw
      case rel => exact ⟨p.2, m - 1, f, rfl, rfl, hf4, by omega, by omega, ⟨(hb.out.trans (b1.mono hb.out.size)).alloc (hb.out.trans (b1.mono hb.out.size)).size _⟩, .inr ⟨by omega, by omega, by omega⟩⟩
      case measure => exact levelM_lt hm0 hm12 hmz hml
set_option maxRecDepth 100000 in
set_option maxHeartbeats 2000000 in
theorem depth70 (A : Option Addr) (n c : Nat) (l : List UInt8) (kind : UInt8) (root : Int) (w : World) (h : Rd8 w A n l) (hn : n ≤ 140737488355328) (hnc : n ≤ c) (hlo : -9223372036854775808 ≤ root) (hhi : root ≤ 9223372036854775807) :
    Calls Try.prog 70 #[.slice A n c, .int .u8 (kind.toNat : Int), .int .i64 root] w fun e w' => e = .returned (.tuple #[.int .i64 (depthP l kind root).1, .int .i64 ((depthP l kind root).2 : Int)]) ∧ Below w.heap.size w w' := by
  have HR := Hd.mk (read112 A n c l kind root (-1) w h hn hnc hlo hhi)
  obtain ⟨er, m, ps, hr⟩ : ∃ er m ps, Hd (readK l kind root (-1) = (er, m, ps)) := ⟨_, _, _, ⟨rfl⟩⟩
  have hd : Hd (depthP l kind root = if er ≠ 0 then (0, er) else (m + 1, 0)) := ⟨by unfold depthP; rw [hr.out]⟩
  rw [hr.out] at HR
  rw [hd.out]
  go_enter Try.func70, Try.ntmps70
  by_cases he : er = 0
  · subst he
    have hm := readK_ok hr.out
    have h0 := hm.1
    have h1 := hm.2.1
    clear hm
    have hw : IntKind.i64.wrap (m + 1) = m + 1 := by rw [IntKind.wrap_i64]; omega
    rw [if_neg (by simp)]
    go_wp2_with (go_at_call 112; refine HR.out.mono ?_; rintro e w1 ⟨A1, n1, c1, rfl, o1, _, b1⟩)
    go_ret2
    exact ⟨rfl, b1⟩
  · have e1 : ((er : Int) != 0) = true := by simp; omega
    rw [if_pos he]
    clear he
    go_wp2_with (go_at_call 112; refine HR.out.mono ?_; rintro e w1 ⟨A1, n1, c1, rfl, o1, _, b1⟩)
    go_ret2
    exact ⟨rfl, b1⟩
end Go.Proofs.Ytkgdcglnkodgnaa
