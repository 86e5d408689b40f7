/- Law PageSpoilt, walked (function 4). No condition but sizes. -/
import Derived.Test.YtkgdcglnkodgnaaProg
import Derived.Test.YtkgdcglnkodgnaaAwake
import Derived.Test.YtkgdcglnkodgnaaPatch
import Derived.ChangeKeysEq
namespace Go.Proofs.Ytkgdcglnkodgnaa
open Go.RowKit
theorem try_cells5' : Try.prog.cellsOf 5 = 1 := by kernel_rfl
theorem byte_beq (a b : UInt8) : ((a.toNat : Int) == (b.toNat : Int)) = (a == b) := by
  rw [Bool.eq_iff_iff]
  simp only [beq_iff_eq]
  rw [← UInt8.toNat_inj]
  omega
theorem eqItems_bytes (d : Nat) (xs ys : List UInt8) (h : xs.length = ys.length) (w : World) : ∀ (is : List Nat), (∀ i ∈ is, i < xs.length) →
    (Op.eqItems (d + 1) 5 1 (bc xs).toArray (bc ys).toArray is).run Try.prog w = .ok (is.all fun i => xs.getD i 0 == ys.getD i 0) w
  | [], _ => by simp [Op.eqItems]
  | i :: is, hi => by
    have hx : i < xs.length := hi i (by simp)
    have hp : ∀ l : List UInt8, i < l.length → (part 5 (bc l).toArray (i * 1)).run Try.prog w = .ok (.int .u8 ((l.getD i 0).toNat : Int)) w := by
      intro l hl
      have hg : (bc l)[i]? = some (.int .u8 ((l.getD i 0).toNat : Int)) := by
        simp [bc, List.getD_eq_getElem?_getD, List.getElem?_eq_getElem hl]
      have hg' : (bc l).toArray[i * 1]? = some (.int .u8 ((l.getD i 0).toNat : Int)) := by rw [Nat.mul_one]; simpa using hg
      simp only [part, isAgg, Sem.run_bind, run_underlying Try.underlying5, Result.andThen_ok, Sem.run_pure, hg', Bool.false_eq_true, if_false]
    have ih := eqItems_bytes d xs ys h w is (fun j hj => hi j (by simp [hj]))
    simp only [Op.eqItems, Sem.run_bind, hp xs hx, hp ys (by omega), Result.andThen_ok, run_equalIn_int w d 5 .u8 .u8 _ _ Try.underlying5, byte_beq, List.all_cons]
    cases xs.getD i 0 == ys.getD i 0
    · simp
    · simpa using ih
set_option maxRecDepth 100000 in
/-- '==' on two arrays of four bytes. -/
theorem run_eql37 (xs ys : List UInt8) (hx : xs.length = 4) (hy : ys.length = 4) (w : World) : (Op.equalIn 10000 37 (.agg (bc xs).toArray) (.agg (bc ys).toArray)).run Try.prog w = .ok (xs == ys) w := by
  obtain ⟨i0, hi0, hz0, hz1, hz2⟩ := info_parts info5
  rw [run_equalIn_array w 9999 (bc xs).toArray (bc ys).toArray Try.underlying37 hi0, try_cells5', eqItems_bytes 9998 xs ys (by omega) w (List.range 4) (by intro i hi; rw [List.mem_range] at hi; omega)]
  congr 1
  match xs, ys, hx, hy with
  | [a, b, c, d], [a', b', c', d'], _, _ =>
    rw [Bool.eq_iff_iff]
    simp [List.range_succ]

theorem info37 : (Try.prog.info? 37).map (·.size) = some 4 := by kernel_rfl
theorem tmod_bd (n k : Int) (hk : 0 < k) : -k < n.tmod k ∧ n.tmod k < k := by
  constructor
  · have := Int.lt_tmod_of_pos n hk; omega
  · exact Int.tmod_lt_of_pos n hk
theorem norm_ex (n k : Int) (hk : 0 < k) : ∃ x : Nat, (n.tmod k + k).tmod k = (x : Int) ∧ (x : Int) < k := by
  have h := tmod_bd n k hk
  have h0 : 0 ≤ (n.tmod k + k).tmod k := Int.tmod_nonneg _ (by omega)
  exact ⟨((n.tmod k + k).tmod k).toNat, by omega, by have := (tmod_bd (n.tmod k + k) k hk).2; omega⟩
theorem grown_drew' {w w' : World} {row : Option Nat} (h : w.grownBy w' row) : w.grownBy w'.drew row := ⟨h.os, h.tape, h.output, h.size, h.block⟩
theorem burst_page (kind : UInt8) (x : Nat) (ll by' : List UInt8) (a : Nat) (hl : ll.length ≤ 246) (hby : by'.length = 4) (hz : ¬ by' = [0, 0, 0, 0]) (ha : a ≤ 252) (number : Int) : readP (patch (mkPage kind x ll) a by') number = (0, [], 190) := by
  have hb := body_length kind x ll hl
  have hs := burst_seen (body kind x ll) (low4 (crc (body kind x ll))) by' a hb rfl hby hz ha (leN_low4 _ (crc_lt _))
  unfold readP
  have hs' : leN ((patch (mkPage kind x ll) a by').drop 252) ≠ crc ((patch (mkPage kind x ll) a by').take 252) := hs
  rw [if_neg (by rw [patch_length, mkPage_length _ _ _ hl]; simp), if_pos hs']
set_option maxRecDepth 100000 in
set_option maxHeartbeats 4000000 in
theorem pageSpoilt4 (kind : UInt8) (number : Int) (A : Option Addr) (n c : Nat) (l : List UInt8) (at' : Int) (by' : List UInt8) (other : Int) (w : World) (h : Rd8 w A n l) (hn : n ≤ 140737488355328) (hnc : n ≤ c) (hby : by'.length = 4) :
    Calls Try.prog 4 #[.int .u8 (kind.toNat : Int), .int .i64 number, .slice A n c, .int .i64 at', .agg (bc by').toArray, .int .i64 other] w fun e w' => e = .returned (.bool true) ∧ Below w.heap.size w w' := by
  have HL := Hd.mk h.len
  obtain ⟨x, hx, hx1⟩ := norm_ex number 16384 (by omega)
  obtain ⟨y, hy, hy1⟩ := norm_ex other 16384 (by omega)
  obtain ⟨a, ha, ha1⟩ := norm_ex at' 253 (by omega)
  have h1 := tmod_bd number 16384 (by omega)
  have h2 := tmod_bd other 16384 (by omega)
  have h3 := tmod_bd at' 253 (by omega)
  have hfacts : ∀ ll : List UInt8, ll.length ≤ 246 → Hd (make kind (x : Int) ll = (mkPage kind x ll, 0)) ∧ Hd ((mkPage kind x ll).length = 256) ∧ ∃ rk rd re, Hd (readP (mkPage kind x ll) (y : Int) = (rk, rd, re)) ∧ ((re : Int) == 0) = ((y : Int) == (x : Int)) := fun ll hl =>
    ⟨⟨make_ok kind x ll (by omega) hl⟩, ⟨mkPage_length kind x ll hl⟩, by
      have hrm := read_make kind x ll (by omega) hl (y : Int)
      by_cases hxy : (y : Int) = x
      · rw [if_pos hxy] at hrm
        exact ⟨_, _, _, ⟨hrm⟩, by rw [hxy]; simp⟩
      · rw [if_neg hxy] at hrm
        exact ⟨_, _, _, ⟨hrm⟩, by
          have : ((y : Int) == (x : Int)) = false := by rw [beq_eq_false_iff_ne]; exact hxy
          rw [this]; rfl⟩⟩
  have hbs : (bc by').toArray.size = 4 := by simp [bc_length, hby]
  have heq : ∀ W : World, (Op.equalIn 10000 37 (.agg (bc by').toArray) (.agg #[.int .u8 0, .int .u8 0, .int .u8 0, .int .u8 0])).run Try.prog W = .ok (by' == [0, 0, 0, 0]) W := fun W => run_eql37 by' [0, 0, 0, 0] hby rfl W
  by_cases hd : 246 < n
  · have hd' : (246 : Int) < (n : Int) := by omega
    obtain ⟨ll, hll⟩ : ∃ ll, ll = l.take 246 := ⟨_, rfl⟩
    have hr : Rd8 w A 246 ll := by rw [hll]; exact h.take (by omega)
    have HLL : Hd (ll.length ≤ 246) := ⟨by rw [hr.len]; omega⟩
    obtain ⟨HMK, HLN, rk, rd, re, HRD, hre⟩ := hfacts ll HLL.out
    clear hll hfacts
    go_enter Try.func4, Try.ntmps4
    go_wp2_with (go_at_call 23; refine (awake23 _).mono ?_; rintro e w1 ⟨rfl, hb1'⟩)
    have hb1 : Below w.heap.size w w1 := ((Below.refl _ _).alloc (Nat.le_refl _) _).trans (hb1'.mono (by simp))
    have hby1 : w1.heap[w.heap.size]? = some (.cells (bc by').toArray 37 (0, 0)) := (hb1'.block _ (by simp)).trans (heap_alloc_new w _)
    have hsz1 : w.heap.size < w1.heap.size := by have := hb1'.size; simp at this; omega
    refine (twin24 A 246 c ll w1 (hr.below hb1) (by omega)).mono ?_
    rintro e w2 ⟨B, m, d, rfl, ho2, hb2⟩
    obtain rfl : m = 246 := by rw [← ho2.len, hr.len]
    have hb12 : Below w.heap.size w w2 := hb1.trans (hb2.mono hb1.size)
    go_wp2_with fail
    refine (make25 kind (x : Int) B _ d ll w2 ho2.rd).mono ?_
    rw [HMK.out]
    rintro e w3 ⟨P, m3, c3, rfl, ho3, hb3⟩
    obtain rfl : m3 = 256 := by rw [← ho3.len]; exact HLN.out
    have hb13 : Below w.heap.size w w3 := hb12.trans (hb3.mono hb12.size)
    go_wp2_with fail
    refine (read29 (y : Int) P 256 c3 (mkPage kind x ll) w3 ho3.rd (by omega) (Own8.le ho3).1 (by omega) (by omega)).mono ?_
    rw [HRD.out]
    rintro e w4 ⟨A4, n4, c4, rfl, hr4, hnc4, hb4, _⟩
    have hb14 : Below w.heap.size w w4 := hb13.trans (hb4.mono hb13.size)
    have ho34 := ho3.below hb4
    have hsz2 : w.heap.size < w2.heap.size := by have := hb2.size; omega
    have hsz3 : w.heap.size < w3.heap.size := by have := hb3.size; omega
    have hby4 : w4.heap[w.heap.size]? = some (.cells (bc by').toArray 37 (0, 0)) := (hb4.block _ hsz3).trans ((hb3.block _ hsz2).trans ((hb2.block _ hsz1).trans hby1))
    clear hb1' hb1 hby1 ho2 hb2 hb12 ho3 hb3 hb13 hr4 hnc4 hb4
    by_cases hz : by' = [0, 0, 0, 0]
    · have hzb : (by' == [0, 0, 0, 0]) = true := by simp [hz]
      clear hz
      go_wp2_with (refine wpList_load_row rfl 37 (.tmp 10) rfl w.heap.size rfl 37 (bc by').toArray (0, 0) _ hby4 Try.underlying37 rfl (by rw [info37, hbs]) ?_)
      go_ret
      exact ⟨rfl, hb14⟩
    · have hzb : (by' == [0, 0, 0, 0]) = false := by simpa using hz
      go_wp2_with (refine wpList_load_row rfl 37 (.tmp 10) rfl w.heap.size rfl 37 (bc by').toArray (0, 0) _ hby4 Try.underlying37 rfl (by rw [info37, hbs]) ?_)
      clear hre heq hx hy h1 h2 h3 ha
      go_loopw [69, 18] (fun i _ wr => ∃ k : Nat, k ≤ 4 ∧ i = .int .i64 k ∧ Own8 wr w2.heap.size P 256 c3 (patch (mkPage kind x ll) a (by'.take k)) ∧ w4.grownBy wr (ownBlk P c3)) (fun i _ _ => 4 - (intOf i).toNat)
      case atStart => exact ⟨0, by omega, rfl, by rw [List.take_zero, patch_nil]; exact ho34, World.grownBy.refl _ _⟩
      case round =>
        obtain ⟨k, hk, rfl, ho, hg⟩ := hrel
        by_cases hlt : k < 4
        · obtain ⟨y0, hy0⟩ : ∃ y0, by'[k]? = some y0 := ⟨_, List.getElem?_eq_getElem (by omega)⟩
          obtain ⟨x0, hx0⟩ : ∃ x0, (mkPage kind x ll)[a + k]? = some x0 := ⟨_, List.getElem?_eq_getElem (by rw [HLN.out]; omega)⟩
          obtain ⟨hp1, hp2⟩ := patch_step (mkPage kind x ll) a by' k x0 y0 hx0 hy0
          have HP2 := Hd.mk hp2
          obtain ⟨ad, x1, hA, hx1', hc, hf, hbk⟩ := ho.at_ (k := a + k) (by omega)
          rw [hp1] at hx1'
          injection hx1' with hx1'
          subst hx1'
          subst hA
          have hblk : w.heap.size ≠ ad.block := by have := (ho.lt hbk).1; omega
          have hcb : wr.cell? ⟨w.heap.size, k, none⟩ = some (.int .u8 (y0.toNat : Int)) := by
            have hh : wr.heap[w.heap.size]? = some (.cells (bc by').toArray 37 (0, 0)) := (hg.block _ (by have := hb14.size; have := (Array.getElem?_eq_some_iff.1 hby4).1; omega) (by rw [hbk]; intro e; injection e with e; exact hblk e)).trans hby4
            rw [cell_of_row wr _ k _ _ _ hh]
            simp [bc, hy0]
          have HS := Hd.mk (ho.set_ (k := a + k) (by omega) rfl (x0 ^^^ y0))
          have HG := Hd.mk (grown_trans hg (grown_set (w := wr) (a + k) (.int .u8 ((x0 ^^^ y0).toNat : Int)) hbk))
          have hxor := u8_xor_byte x0 y0
          have t1 : IntKind.i64.wrap ((a : Int) + (k : Int)) = (a : Int) + (k : Int) := IntWalk.i64_in _ (by omega)
          have t2 : (0 : Int) ≤ (a : Int) + (k : Int) := by omega
          have t3 : (a : Int) + (k : Int) < 256 := by omega
          have t4 : ((a : Int) + (k : Int)).toNat = a + k := by omega
          have t5 : (k : Int) < 4 := by omega
          have t6 : (0 : Int) ≤ (k : Int) := by omega
          clear ho hg hx0 hy0 hp1 hp2
          go_wp2_with fail
          go_region_law (fail)
          go_wp2
          all_goals
            go_roundw
            case rel => exact ⟨k + 1, by omega, by go_num, by rw [HP2.out]; exact HS.out.drew, grown_drew' HG.out⟩
            case measure => simp [intOf]; omega
        · obtain rfl : k = 4 := by omega
          rw [List.take_of_length_le (by omega)] at ho
          have hbr : Below w.heap.size w wr := hb14.grown hg hb14.size (fun r hr => by have := (ho34.lt hr).1; omega)
          have HSEEN := Hd.mk (burst_page kind x ll by' a HLL.out hby hz (by omega) (x : Int))
          go_wp2_with (go_at_call 29; refine (read29 (x : Int) P 256 c3 _ wr ho.rd (by omega) (Own8.le ho).1 (by omega) (by omega)).mono ?_; rw [HSEEN.out]; rintro e w5 ⟨A5, n5, c5, rfl, hr5, hnc5, hb5, _⟩)
          go_ret
          exact ⟨rfl, hbr.trans (hb5.mono hbr.size)⟩
  · have hd' : (n : Int) ≤ 246 := by omega
    obtain ⟨ll, hll⟩ : ∃ ll, ll = l := ⟨_, rfl⟩
    have hr : Rd8 w A n ll := by rw [hll]; exact h
    have HLL : Hd (ll.length ≤ 246) := ⟨by rw [hr.len]; omega⟩
    obtain ⟨HMK, HLN, rk, rd, re, HRD, hre⟩ := hfacts ll HLL.out
    clear hll hfacts
    go_enter Try.func4, Try.ntmps4
    go_wp2_with (go_at_call 23; refine (awake23 _).mono ?_; rintro e w1 ⟨rfl, hb1'⟩)
    have hb1 : Below w.heap.size w w1 := ((Below.refl _ _).alloc (Nat.le_refl _) _).trans (hb1'.mono (by simp))
    have hby1 : w1.heap[w.heap.size]? = some (.cells (bc by').toArray 37 (0, 0)) := (hb1'.block _ (by simp)).trans (heap_alloc_new w _)
    have hsz1 : w.heap.size < w1.heap.size := by have := hb1'.size; simp at this; omega
    refine (twin24 A n c ll w1 (hr.below hb1) (by omega)).mono ?_
    rintro e w2 ⟨B, m, d, rfl, ho2, hb2⟩
    obtain rfl : m = n := by rw [← ho2.len, hr.len]
    have hb12 : Below w.heap.size w w2 := hb1.trans (hb2.mono hb1.size)
    go_wp2_with fail
    refine (make25 kind (x : Int) B _ d ll w2 ho2.rd).mono ?_
    rw [HMK.out]
    rintro e w3 ⟨P, m3, c3, rfl, ho3, hb3⟩
    obtain rfl : m3 = 256 := by rw [← ho3.len]; exact HLN.out
    have hb13 : Below w.heap.size w w3 := hb12.trans (hb3.mono hb12.size)
    go_wp2_with fail
    refine (read29 (y : Int) P 256 c3 (mkPage kind x ll) w3 ho3.rd (by omega) (Own8.le ho3).1 (by omega) (by omega)).mono ?_
    rw [HRD.out]
    rintro e w4 ⟨A4, n4, c4, rfl, hr4, hnc4, hb4, _⟩
    have hb14 : Below w.heap.size w w4 := hb13.trans (hb4.mono hb13.size)
    have ho34 := ho3.below hb4
    have hsz2 : w.heap.size < w2.heap.size := by have := hb2.size; omega
    have hsz3 : w.heap.size < w3.heap.size := by have := hb3.size; omega
    have hby4 : w4.heap[w.heap.size]? = some (.cells (bc by').toArray 37 (0, 0)) := (hb4.block _ hsz3).trans ((hb3.block _ hsz2).trans ((hb2.block _ hsz1).trans hby1))
    clear hb1' hb1 hby1 ho2 hb2 hb12 ho3 hb3 hb13 hr4 hnc4 hb4
    by_cases hz : by' = [0, 0, 0, 0]
    · have hzb : (by' == [0, 0, 0, 0]) = true := by simp [hz]
      clear hz
      go_wp2_with (refine wpList_load_row rfl 37 (.tmp 10) rfl w.heap.size rfl 37 (bc by').toArray (0, 0) _ hby4 Try.underlying37 rfl (by rw [info37, hbs]) ?_)
      go_ret
      exact ⟨rfl, hb14⟩
    · have hzb : (by' == [0, 0, 0, 0]) = false := by simpa using hz
      go_wp2_with (refine wpList_load_row rfl 37 (.tmp 10) rfl w.heap.size rfl 37 (bc by').toArray (0, 0) _ hby4 Try.underlying37 rfl (by rw [info37, hbs]) ?_)
      clear hre heq hx hy h1 h2 h3 ha
      go_loopw [69, 18] (fun i _ wr => ∃ k : Nat, k ≤ 4 ∧ i = .int .i64 k ∧ Own8 wr w2.heap.size P 256 c3 (patch (mkPage kind x ll) a (by'.take k)) ∧ w4.grownBy wr (ownBlk P c3)) (fun i _ _ => 4 - (intOf i).toNat)
      case atStart => exact ⟨0, by omega, rfl, by rw [List.take_zero, patch_nil]; exact ho34, World.grownBy.refl _ _⟩
      case round =>
        obtain ⟨k, hk, rfl, ho, hg⟩ := hrel
        by_cases hlt : k < 4
        · obtain ⟨y0, hy0⟩ : ∃ y0, by'[k]? = some y0 := ⟨_, List.getElem?_eq_getElem (by omega)⟩
          obtain ⟨x0, hx0⟩ : ∃ x0, (mkPage kind x ll)[a + k]? = some x0 := ⟨_, List.getElem?_eq_getElem (by rw [HLN.out]; omega)⟩
          obtain ⟨hp1, hp2⟩ := patch_step (mkPage kind x ll) a by' k x0 y0 hx0 hy0
          have HP2 := Hd.mk hp2
          obtain ⟨ad, x1, hA, hx1', hc, hf, hbk⟩ := ho.at_ (k := a + k) (by omega)
          rw [hp1] at hx1'
          injection hx1' with hx1'
          subst hx1'
          subst hA
          have hblk : w.heap.size ≠ ad.block := by have := (ho.lt hbk).1; omega
          have hcb : wr.cell? ⟨w.heap.size, k, none⟩ = some (.int .u8 (y0.toNat : Int)) := by
            have hh : wr.heap[w.heap.size]? = some (.cells (bc by').toArray 37 (0, 0)) := (hg.block _ (by have := hb14.size; have := (Array.getElem?_eq_some_iff.1 hby4).1; omega) (by rw [hbk]; intro e; injection e with e; exact hblk e)).trans hby4
            rw [cell_of_row wr _ k _ _ _ hh]
            simp [bc, hy0]
          have HS := Hd.mk (ho.set_ (k := a + k) (by omega) rfl (x0 ^^^ y0))
          have HG := Hd.mk (grown_trans hg (grown_set (w := wr) (a + k) (.int .u8 ((x0 ^^^ y0).toNat : Int)) hbk))
          have hxor := u8_xor_byte x0 y0
          have t1 : IntKind.i64.wrap ((a : Int) + (k : Int)) = (a : Int) + (k : Int) := IntWalk.i64_in _ (by omega)
          have t2 : (0 : Int) ≤ (a : Int) + (k : Int) := by omega
          have t3 : (a : Int) + (k : Int) < 256 := by omega
          have t4 : ((a : Int) + (k : Int)).toNat = a + k := by omega
          have t5 : (k : Int) < 4 := by omega
          have t6 : (0 : Int) ≤ (k : Int) := by omega
          clear ho hg hx0 hy0 hp1 hp2
          go_wp2_with fail
          go_region_law (fail)
          go_wp2
          all_goals
            go_roundw
            case rel => exact ⟨k + 1, by omega, by go_num, by rw [HP2.out]; exact HS.out.drew, grown_drew' HG.out⟩
            case measure => simp [intOf]; omega
        · obtain rfl : k = 4 := by omega
          rw [List.take_of_length_le (by omega)] at ho
          have hbr : Below w.heap.size w wr := hb14.grown hg hb14.size (fun r hr => by have := (ho34.lt hr).1; omega)
          have HSEEN := Hd.mk (burst_page kind x ll by' a HLL.out hby hz (by omega) (x : Int))
          go_wp2_with (go_at_call 29; refine (read29 (x : Int) P 256 c3 _ wr ho.rd (by omega) (Own8.le ho).1 (by omega) (by omega)).mono ?_; rw [HSEEN.out]; rintro e w5 ⟨A5, n5, c5, rfl, hr5, hnc5, hb5, _⟩)
          go_ret
          exact ⟨rfl, hbr.trans (hb5.mono hbr.size)⟩
end Go.Proofs.Ytkgdcglnkodgnaa
