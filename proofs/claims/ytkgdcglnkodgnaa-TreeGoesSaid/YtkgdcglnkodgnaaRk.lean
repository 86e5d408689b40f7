/-
  tree.read: a node read. No condition but sizes.
-/
import Derived.Test.YtkgdcglnkodgnaaTreeA
namespace Go.Proofs.Ytkgdcglnkodgnaa
open Go.RowKit
/-- A call that answers a node. -/
def RetN (w : World) (r : Nat × Int × List Kp) (e : Ending) (w' : World) : Prop :=
  ∃ A n c, e = .returned (.tuple #[.int .i64 r.2.1, .slice A n c, .int .i64 (r.1 : Int)]) ∧ OwnK w' w.heap.size A n c r.2.2 ∧ n ≤ 256 ∧ Below w.heap.size w w'
theorem drewN_below {B : Nat} {w w' : World} (h : Below B w w') (k : Nat) : Below B w (w'.drewN k) := ⟨h.os, h.tape, h.output, h.size, h.block⟩
def lenOfV : Value → Nat | .slice _ n _ => n | _ => 0
theorem OwnK.mono {w : World} {base b n c : Nat} {A : Option Addr} {l : List Kp} (h : OwnK w base A n c l) (hb : b ≤ base) : OwnK w b A n c l := Own.mono h hb
theorem lastKey_get {l : List Kp} {n : Nat} {p : Kp} (hn : l.length = n + 1) (hp : l[n]? = some p) : lastKey l = p.1 := by
  have e : l.getLast? = some p := by rw [List.getLast?_eq_getElem?, hn]; exact hp
  unfold lastKey
  rw [e]; rfl
theorem badPair_1 {acc : List Kp} {r : List UInt8 × Nat × CS} (h : r.2.2.err ≠ 0 ∨ 2147483647 < r.2.1) : badPair acc r = true := by
  unfold badPair
  rw [decide_eq_true h, Bool.true_or]
theorem badPair_2 {acc : List Kp} {r : List UInt8 × Nat × CS} (h : ¬ (r.2.2.err ≠ 0 ∨ 2147483647 < r.2.1)) : badPair acc r = (decide (0 < acc.length) && leK ⟨r.1.toArray⟩ (lastKey acc)) := by
  unfold badPair
  rw [decide_eq_false h, Bool.false_or]
set_option maxRecDepth 100000 in
set_option maxHeartbeats 4000000 in
theorem read112 (A : Option Addr) (n c : Nat) (l : List UInt8) (kind : UInt8) (number level : Int) (w : World) (h : Rd8 w A n l) (hn : n ≤ 140737488355328) (hnc : n ≤ c) (hlo : -9223372036854775808 ≤ number) (hhi : number ≤ 9223372036854775807) :
    Calls Try.prog 112 #[.slice A n c, .int .u8 (kind.toNat : Int), .int .i64 number, .int .i64 level] w (RetN w (readK l kind number level)) := by
  have HAT := Hd.mk (at36 A n c l number kind w h hn hnc hlo hhi)
  obtain ⟨d, er, hat⟩ : ∃ d er, Hd (atP l number kind = (d, er)) := ⟨_, _, ⟨rfl⟩⟩
  have hdl : Hd (d.length ≤ 256) := ⟨by have := atP_len l number kind; rw [hat.out] at this; exact this⟩
  have hrk : Hd (readK l kind number level = if er ≠ 0 then (er, 0, []) else readN d level) := ⟨by unfold readK; rw [hat.out]⟩
  rw [hat.out] at HAT
  clear h
  go_enter Try.func112, Try.ntmps112
  go_wp2_with fail
  refine HAT.out.mono ?_
  rintro e w1 ⟨A1, n1, c1, rfl, rd, hnc1, b1, _⟩
  have HB1 := Hd.mk b1
  have HD := Hd.mk rd
  have hn1 : n1 ≤ 256 := by have h1 := rd.len; have := hdl.out; simp only at h1; omega
  clear rd b1 HAT
  simp only
  by_cases he : er = 0
  case neg =>
    have hen : ((er : Int) != 0) = true := by simp; omega
    have hr : Hd (readK l kind number level = (er, 0, [])) := ⟨by rw [hrk.out, if_pos he]⟩
    clear he
    go_wp2_with fail
    go_ret3
    rw [hr.out]
    exact ⟨_, _, _, rfl, OwnK.nil_ _ _ _, by omega, HB1.out⟩
  subst he
  go_wp2_with fail
  refine (new88 A1 n1 c1 d w1 HD.out (by omega)).mono ?_
  rintro e w2 ⟨g, rfl, hg, C0, b2⟩
  have HB2 := Hd.mk (HB1.out.trans (b2.mono HB1.out.size))
  have HC := Hd.mk C0
  have HG : Hd (w.heap.size ≤ g) := ⟨Nat.le_trans HB1.out.size hg⟩
  clear b2 C0 HB1 HD
  go_wp2_with fail
  refine (byte89 g ⟨d, 0, 0⟩ w2 HC.out).mono ?_
  obtain ⟨kb, c1, hk⟩ : ∃ kb c1, Hd (takeC ⟨d, 0, 0⟩ 1 = (kb, c1)) := ⟨_, _, ⟨rfl⟩⟩
  rw [hk.out]
  rintro e w3 ⟨rfl, C1, g3⟩
  have HC1 := Hd.mk C1
  have HB3 := Hd.mk (HB2.out.grown g3 HB2.out.size (fun q e => by injection e with e; have := HG.out; omega))
  have hkl : Hd (kb.length ≤ 1) := ⟨by have := takeC_len ⟨d, 0, 0⟩ 1; rw [show ((1 : Nat) : Int) = 1 from rfl, hk.out] at this; exact this⟩
  clear C1 g3 HC HB2 hg
  simp only
  have hv : (leN kb : Int) < 256 := by
    have h1 := leN_lt kb
    have h2 : (256 : Nat) ^ kb.length ≤ 256 ^ 1 := Nat.pow_le_pow_right (by omega) hkl.out
    omega
  have hr1 : Hd (readK l kind number level = if c1.err ≠ 0 ∨ 12 < leN kb ∨ (level ≠ -1 ∧ (leN kb : Int) ≠ level) then (202, 0, [])
      else if (pairsN d.length c1 []).1 ≠ 0 then (202, 0, [])
      else if (pairsN d.length c1 []).2 = [] ∧ ¬ (level = -1 ∧ leN kb = 0) then (202, 0, [])
      else (0, (leN kb : Int), (pairsN d.length c1 []).2)) := ⟨by rw [hrk.out, if_neg (by simp)]; unfold readN; rw [hk.out]⟩
  obtain ⟨nl, hnl⟩ : ∃ nl : Nat, Hd (leN kb = nl) := ⟨_, ⟨rfl⟩⟩
  have hcd : Hd (c1.l = d ∧ c1.at' ≤ d.length) := ⟨by
    have e := hk.out
    unfold takeC at e
    split at e
    · cases e; exact ⟨rfl, Nat.zero_le _⟩
    · split at e
      · cases e; exact ⟨rfl, Nat.zero_le _⟩
      · split at e
        · cases e; exact ⟨rfl, Nat.zero_le _⟩
        · rename_i h9
          cases e
          simp only at h9 ⊢
          exact ⟨trivial, by omega⟩⟩
  rw [hnl.out] at hv hr1 ⊢
  clear hrk hat hk hkl hnl
  by_cases hbad : c1.err ≠ 0 ∨ 12 < nl ∨ (level ≠ -1 ∧ (nl : Int) ≠ level)
  · have hr : Hd (readK l kind number level = (202, 0, [])) := ⟨by rw [hr1.out, if_pos hbad]⟩
    by_cases b1 : c1.err ≠ 0
    · have k1 : ((c1.err : Int) != 0) = true := by simp; omega
      clear hbad b1
      go_wp2_with (go_at_call 152; refine (err152 g c1 w3 HC1.out).mono ?_; rintro e w' ⟨rfl, rfl⟩)
      go_ret3
      rw [hr.out]
      exact ⟨_, _, _, rfl, OwnK.nil_ _ _ _, by omega, HB3.out⟩
    · have k1 : ((c1.err : Int) != 0) = false := by simp; omega
      by_cases b2 : 12 < nl
      · have k2 : (nl : Int) > 12 := by omega
        clear hbad b1 b2
        go_wp2_with (go_at_call 152; refine (err152 g c1 w3 HC1.out).mono ?_; rintro e w' ⟨rfl, rfl⟩)
        go_ret3
        rw [hr.out]
        exact ⟨_, _, _, rfl, OwnK.nil_ _ _ _, by omega, HB3.out⟩
      · have k2 : ¬ (nl : Int) > 12 := by omega
        have k3 : (level != -1) = true := by simp; omega
        have k4 : ((nl : Int) != level) = true := by simp; omega
        clear hbad b1 b2
        go_wp2_with (go_at_call 152; refine (err152 g c1 w3 HC1.out).mono ?_; rintro e w' ⟨rfl, rfl⟩)
        go_ret3
        rw [hr.out]
        exact ⟨_, _, _, rfl, OwnK.nil_ _ _ _, by omega, HB3.out⟩
  · have hr2 : Hd (readK l kind number level = if (pairsN d.length c1 []).1 ≠ 0 then (202, 0, [])
      else if (pairsN d.length c1 []).2 = [] ∧ ¬ (level = -1 ∧ nl = 0) then (202, 0, [])
      else (0, (nl : Int), (pairsN d.length c1 []).2)) := ⟨by rw [hr1.out, if_neg hbad]⟩
    have k1 : ((c1.err : Int) != 0) = false := by simp; omega
    have k2 : ¬ (nl : Int) > 12 := by omega
    have k34 : ((level != -1) = true ∧ ((nl : Int) != level) = false) ∨ (level != -1) = false := by simp; omega
    have hjoin : Hd (level = -1 ∨ (nl : Int) = level) := ⟨by omega⟩
    clear hbad hr1
    obtain ⟨k3, k4⟩ | k3 := k34
    all_goals
      go_wp2_with (go_at_call 152; refine (err152 g c1 w3 HC1.out).mono ?_; rintro e w' ⟨rfl, rfl⟩)
      go_loopw [15, 16, 17] (fun lv _ _ wr => ∃ A n c acc cs f, lv = .slice A n c ∧ Hd (OwnK wr (g + 1) A n c acc) ∧ Hd (Cur 200 wr g cs) ∧ Hd (Below w.heap.size w wr) ∧ Hd (cs.l = d ∧ cs.at' ≤ d.length ∧ n ≤ cs.at') ∧ Hd (pairsN f cs acc = pairsN d.length c1 []) ∧ Hd (d.length ≤ f + n))
        (fun lv _ _ _ => 300 - lenOfV lv)
      case atStart => exact ⟨none, 0, 0, [], c1, d.length, rfl, ⟨OwnK.nil_ _ _ _⟩, HC1, HB3, ⟨hcd.out.1, hcd.out.2, Nat.zero_le _⟩, ⟨rfl⟩, ⟨by omega⟩⟩
      case round =>
        obtain ⟨A, n, c, acc, cs, f, rfl, ho, hc, hb, ⟨hcs, hca, hcn⟩, hp, hf⟩ := hrel
        obtain ⟨q, hq⟩ : ∃ q, cs.l.length - cs.at' = q := ⟨_, rfl⟩
        have HLF := Hd.mk (left142 g cs wr hc.out)
        rw [hq] at HLF
        by_cases hend : q = 0
        · subst hend
          have hr3 : Hd (readK l kind number level = if acc = [] ∧ ¬ (level = -1 ∧ nl = 0) then (202, 0, []) else (0, (nl : Int), acc)) :=
            ⟨by rw [hr2.out, ← hp.out, pairsN_done f cs acc (by omega)]; simp⟩
          have hal := ho.out.len
          have hz : ¬ ((0 : Nat) : Int) > 0 := by omega
          have hn256 : n ≤ 256 := by have := hdl.out; omega
          clear hr2 hp hf hq hcd
          by_cases hn0 : n = 0
          · subst hn0
            have hac : acc = [] := List.eq_nil_of_length_eq_zero hal
            subst hac
            have c1 : (((0 : Nat) : Int) == 0) = true := by simp
            by_cases hok : level = -1 ∧ nl = 0
            · obtain ⟨rfl, rfl⟩ := hok
              go_wp2_with (go_at_call 142; refine HLF.out.mono ?_; rintro e w' ⟨rfl, k, rfl⟩)
              go_ret3
              rw [hr3.out]
              rw [if_neg (by simp)]
              exact ⟨_, _, _, rfl, OwnK.mono (show OwnK (wr.drewN k) (g + 1) A 0 c [] from ho.out) (by have := HG.out; omega), by omega, drewN_below hb.out k⟩
            · have c3 : (level == -1) = false ∨ (level == -1) = true ∧ ((nl : Int) == 0) = false := by simp; omega
              have hr4 : Hd (readK l kind number level = (202, 0, [])) := ⟨by rw [hr3.out, if_pos ⟨rfl, hok⟩]⟩
              clear hok hr3
              obtain c3 | ⟨c3, c4⟩ := c3
              all_goals
                go_wp2_with (go_at_call 142; refine HLF.out.mono ?_; rintro e w' ⟨rfl, k, rfl⟩)
                go_ret3
                rw [hr4.out]
                exact ⟨_, _, _, rfl, OwnK.nil_ _ _ _, by omega, drewN_below hb.out k⟩
          · have c1 : ((n : Int) == 0) = false := by simp; omega
            have hr4 : Hd (readK l kind number level = (0, (nl : Int), acc)) := ⟨by rw [hr3.out, if_neg (fun e => hn0 (by rw [← hal, e.1]; rfl))]⟩
            clear hn0 hr3
            go_wp2_with (go_at_call 142; refine HLF.out.mono ?_; rintro e w' ⟨rfl, k, rfl⟩)
            go_ret3
            rw [hr4.out]
            exact ⟨_, _, _, rfl, OwnK.mono (show OwnK (wr.drewN k) (g + 1) A n c acc from ho.out) (by have := HG.out; omega), hn256, drewN_below hb.out k⟩
        · have hz : (q : Int) > 0 := by omega
          obtain ⟨f, rfl⟩ : ∃ f', f = f' + 1 := ⟨f - 1, by have := hf.out; rw [hcs] at hq; omega⟩
          obtain ⟨bk, cs1, hbk⟩ : ∃ bk cs1, Hd (bytesC cs 64 = (bk, cs1)) := ⟨_, _, ⟨rfl⟩⟩
          obtain ⟨v, cs2, hu⟩ : ∃ v cs2, Hd (uintC cs1 = (v, cs2)) := ⟨_, _, ⟨rfl⟩⟩
          have hpc : Hd (pairC cs = (bk, v, cs2)) := ⟨by unfold pairC; rw [hbk.out]; simp only; rw [hu.out]⟩
          have hp1 : Hd (pairsN d.length c1 [] = if badPair acc (bk, v, cs2) = true then (202, []) else pairsN f cs2 (acc ++ [(⟨bk.toArray⟩, (v : Int))])) :=
            ⟨by rw [← hp.out, pairsN, if_neg (by omega), hpc.out]⟩
          have hpg := pairC_prog cs
          rw [hpc.out] at hpg
          have hpr : Hd (cs2.l = d ∧ (cs2.err = 0 → cs.at' < cs2.at')) := ⟨hpg.1.trans hcs, fun e => (hpg.2 e).2⟩
          clear hp hpg hpc hend hq
          have hbl : Hd (bk.length ≤ 64) := ⟨by have := bytesC_short cs 64; rw [hbk.out] at this; exact this⟩
          have HB4 : ∀ k, Hd _ := fun k => Hd.mk (bytes153 g cs 64 (wr.drewN k) hc.out (by omega))
          rw [hbk.out] at HB4
          simp only [show ((64 : Nat) : Int) = 64 from rfl] at HB4
          go_wp2_with (go_at_call 142; refine HLF.out.mono ?_; rintro e w' ⟨rfl, k, rfl⟩)
          refine (HB4 k).out.mono ?_
          rintro e w4 ⟨A4, n4, c4, rfl, o4, C4, g4⟩
          simp only at o4 C4
          have hcv := run_str8 (c := c4) (Own8.rd o4)
          have ho4 : Hd (OwnK w4 (g + 1) A n c acc) := ⟨Own.grown (show OwnK (wr.drewN k) (g + 1) A n c acc from ho.out) g4 (fun x hx e => by injection e with e; have := (Own.lt ho.out hx).1; omega)⟩
          have hb4 : Hd (Below w.heap.size w w4) := ⟨(drewN_below hb.out k).grown g4 (drewN_below hb.out k).size (fun x e => by injection e with e; have := HG.out; omega)⟩
          have hU := Hd.mk (uint154 g cs1 w4 C4)
          rw [hu.out] at hU
          simp only at hU
          clear HB4 HLF hc ho hb g4 C4 o4
          go_wp2_with fail
          clear hcv
          refine hU.out.mono ?_
          rintro e w5 ⟨rfl, C5, g5⟩
          have ho5 : Hd (OwnK w5 (g + 1) A n c acc) := ⟨Own.grown ho4.out g5 (fun x hx e => by injection e with e; have := (Own.lt ho4.out hx).1; omega)⟩
          have hb5 : Hd (Below w.heap.size w w5) := ⟨hb4.out.grown g5 hb4.out.size (fun x e => by injection e with e; have := HG.out; omega)⟩
          have hE := Hd.mk (err152 g cs2 w5 C5)
          have hC5 := Hd.mk C5
          have hal := Hd.mk ho5.out.len
          have hn256 : n ≤ 256 := by have := hdl.out; omega
          clear hU ho4 hb4 g5 C5 hu hbk
          generalize hky : (⟨bk.toArray⟩ : ByteArray) = key at hp1 ⊢
          by_cases e1 : cs2.err ≠ 0 ∨ 2147483647 < v
          · have hr4 : Hd (readK l kind number level = (202, 0, [])) := ⟨by rw [hr2.out, hp1.out, if_pos (badPair_1 e1), if_pos (by simp)]⟩
            have e2 : ((cs2.err : Int) != 0) = true ∨ ((cs2.err : Int) != 0) = false ∧ (v : Int) > 2147483647 := by simp; omega
            clear hr2 hp1 e1 hpr
            obtain e2 | ⟨e2, e3⟩ := e2
            all_goals
              go_wp2_with (go_at_call 152; refine hE.out.mono ?_; rintro e w' ⟨rfl, rfl⟩)
              go_ret3
              rw [hr4.out]
              exact ⟨_, _, _, rfl, OwnK.nil_ _ _ _, by omega, hb5.out⟩
          · have e2 : ((cs2.err : Int) != 0) = false := by simp; omega
            have e3 : ¬ (v : Int) > 2147483647 := by omega
            have e4 : Hd (cs.at' < cs2.at') := ⟨hpr.out.2 (by omega)⟩
            have hp2 : Hd (pairsN d.length c1 [] = if (decide (0 < acc.length) && leK key (lastKey acc)) = true then (202, []) else pairsN f cs2 (acc ++ [(key, (v : Int))])) :=
              ⟨by rw [hp1.out, badPair_2 e1, hky]⟩
            have hcl := Hd.mk hC5.out.len
            clear hp1 e1
            by_cases hlast : decide (0 < acc.length) && leK key (lastKey acc)
            · have hr4 : Hd (readK l kind number level = (202, 0, [])) := ⟨by rw [hr2.out, hp2.out, if_pos hlast, if_pos (by simp)]⟩
              rw [Bool.and_eq_true, decide_eq_true_eq] at hlast
              obtain ⟨h0, hle⟩ := hlast
              obtain ⟨m, rfl⟩ : ∃ m, n = m + 1 := ⟨n - 1, by have := hal.out; omega⟩
              obtain ⟨p, hpm⟩ : ∃ p, acc[m]? = some p := ⟨acc[m]'(by have := hal.out; omega), List.getElem?_eq_getElem _⟩
              rw [lastKey_get hal.out hpm] at hle
              have hle' : (Op.bytesLess key.toList p.1.toList || key.toList == p.1.toList) = true := hle
              obtain ⟨ad, rfl, q0, -⟩ := RdK.get (Own.rd ho5.out) hpm
              have i1 : ((m + 1 : Nat) : Int) > 0 := by omega
              have i2 : IntKind.i64.wrap (((m + 1 : Nat) : Int) - 1) = (m : Int) := by rw [IntKind.wrap_i64]; omega
              have i3 : (m : Int) < ((m + 1 : Nat) : Int) := by omega
              have i4 : (0 : Int) ≤ (m : Int) := by omega
              clear hr2 hp2 hle hpm h0 hky
              go_wp2_with (go_at_call 152; refine hE.out.mono ?_; rintro e w' ⟨rfl, rfl⟩)
              go_ret3
              rw [hr4.out]
              exact ⟨_, _, _, rfl, OwnK.nil_ _ _ _, by omega, hb5.out⟩
            · have hp3 : Hd (pairsN d.length c1 [] = pairsN f cs2 (acc ++ [(key, (v : Int))])) := ⟨by rw [hp2.out, if_neg hlast]⟩
              have iw : IntKind.i64.wrap (v : Int) = (v : Int) := by rw [IntKind.wrap_i64]; omega
              clear hp2
              by_cases hn0 : n = 0
              · subst hn0
                have i1 : ¬ (((0 : Nat) : Int) > 0) := by omega
                go_wp2_with (first
                  | (go_at_call 152; refine hE.out.mono ?_; rintro e w' ⟨rfl, rfl⟩)
                  | (at_builtin; refine wl_appK rfl (.tmp 80) (.tmp 85) rfl rfl rfl (Own.alloc ho5.out _) (RdK.newAt _ [(key, (v : Int))] rfl rfl (by simp)) (by omega) (by have := hC5.out.lt; simp; omega) ?_; rintro v6 w6 ⟨A6, c6, rfl, o6, g6, _⟩))
                go_roundw
                case rel =>
                  refine ⟨A6, _, c6, _, cs2, f, rfl, ⟨o6⟩, ⟨Cur.far (hC5.out.alloc _) g6 (fun k hk => (Own.lt ho5.out hk).1)⟩, ⟨(hb5.out.alloc hb5.out.size _).grown g6 (by have := hb5.out.size; simp; omega) (fun k hk => by have := (Own.lt ho5.out hk).1; have := HG.out; omega)⟩,
                    ⟨hpr.out.1, ?_, ?_⟩, ⟨hp3.out.symm⟩, ⟨?_⟩⟩
                  · have := hcl.out.1; rw [hpr.out.1] at this; exact this
                  · have := e4.out; omega
                  · have := hf.out; omega
                case measure => simp [lenOfV]
              · obtain ⟨m, rfl⟩ : ∃ m, n = m + 1 := ⟨n - 1, by omega⟩
                obtain ⟨p, hpm⟩ : ∃ p, acc[m]? = some p := ⟨acc[m]'(by have := hal.out; omega), List.getElem?_eq_getElem _⟩
                have hle : leK key p.1 = false := by
                  rw [← lastKey_get hal.out hpm]
                  have h0 : decide (0 < acc.length) = true := by have := hal.out; simp; omega
                  rw [h0, Bool.true_and] at hlast
                  simpa using hlast
                have hle' : (Op.bytesLess key.toList p.1.toList || key.toList == p.1.toList) = false := hle
                obtain ⟨ad, rfl, q0, -⟩ := RdK.get (Own.rd ho5.out) hpm
                have i1 : ((m + 1 : Nat) : Int) > 0 := by omega
                have i2 : IntKind.i64.wrap (((m + 1 : Nat) : Int) - 1) = (m : Int) := by rw [IntKind.wrap_i64]; omega
                have i3 : (m : Int) < ((m + 1 : Nat) : Int) := by omega
                have i4 : (0 : Int) ≤ (m : Int) := by omega
                clear hle hpm hlast hky hn0
                go_wp2_with (first
                  | (go_at_call 152; refine hE.out.mono ?_; rintro e w' ⟨rfl, rfl⟩)
                  | (at_builtin; refine wl_appK rfl (.tmp 80) (.tmp 85) rfl rfl rfl (Own.alloc ho5.out _) (RdK.newAt _ [(key, (v : Int))] rfl rfl (by simp)) (by omega) (by have := hC5.out.lt; simp; omega) ?_; rintro v6 w6 ⟨A6, c6, rfl, o6, g6, _⟩))
                go_roundw
                case rel =>
                  refine ⟨A6, _, c6, _, cs2, f, rfl, ⟨o6⟩, ⟨Cur.far (hC5.out.alloc _) g6 (fun k hk => (Own.lt ho5.out hk).1)⟩, ⟨(hb5.out.alloc hb5.out.size _).grown g6 (by have := hb5.out.size; simp; omega) (fun k hk => by have := (Own.lt ho5.out hk).1; have := HG.out; omega)⟩,
                    ⟨hpr.out.1, ?_, ?_⟩, ⟨hp3.out.symm⟩, ⟨?_⟩⟩
                  · have := hcl.out.1; rw [hpr.out.1] at this; exact this
                  · have := e4.out; omega
                  · have := hf.out; omega
                case measure => simp [lenOfV]; omega
end Go.Proofs.Ytkgdcglnkodgnaa
