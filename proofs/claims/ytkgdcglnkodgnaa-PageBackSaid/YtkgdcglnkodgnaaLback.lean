/-
  The walk of the law PageBack (function 8). No condition but sizes.
-/
import Derived.Test.YtkgdcglnkodgnaaBook
import Derived.Test.YtkgdcglnkodgnaaLspoilt
namespace Go.Proofs.Ytkgdcglnkodgnaa
open Go.RowKit
set_option maxRecDepth 100000 in
set_option maxHeartbeats 1000000 in
theorem pageBack8 (kind : UInt8) (ahead : Int) (A : Option Addr) (n c : Nat) (l : List UInt8) (behind : Int) (w : World) (h : Rd8 w A n l) (hn : n ≤ 140737488355328) :
    Calls Try.prog 8 #[.int .u8 (kind.toNat : Int), .int .i64 ahead, .slice A n c, .int .i64 behind] w fun e w' => e = .returned (.bool true) ∧ Below w.heap.size w w' := by
  have HL := Hd.mk h.len
  obtain ⟨x, hx, hx1⟩ := norm_ex ahead 20 (by omega)
  obtain ⟨y, hy, hy1⟩ := norm_ex behind 20 (by omega)
  have h1 := tmod_bd ahead 20 (by omega)
  have h2 := tmod_bd behind 20 (by omega)
  have hw1 : IntKind.i64.wrap (ahead.tmod 20 + 20) = ahead.tmod 20 + 20 := IntWalk.i64_in _ (by omega)
  have hw2 : IntKind.i64.wrap (behind.tmod 20 + 20) = behind.tmod 20 + 20 := IntWalk.i64_in _ (by omega)
  by_cases hbig : 100000 < n
  · have hbig' : (100000 : Int) < (n : Int) := by omega
    go_enter Try.func8, Try.ntmps8
    go_wp2_with (go_at_call 23; refine (awake23 _).mono ?_; rintro e w1 ⟨rfl, hb1⟩)
    go_ret
    exact ⟨rfl, hb1⟩
  · have hbig' : ¬ (100000 : Int) < (n : Int) := by omega
    obtain ⟨P, hPH⟩ : ∃ P, Hd (P = npages n) := ⟨_, ⟨rfl⟩⟩
    have hP := hPH.out
    have hPd : P = (n + 245) / 246 := hP
    have hPb : P ≤ 407 := by omega
    have HSP : Hd (spread kind (x : Int) l = (spr kind x l P, 0)) := ⟨by unfold spread; rw [HL.out, ← hP, if_neg (by omega), Int.toNat_natCast]⟩
    have hPl : npages l.length = P := by rw [HL.out, hP]
    have HBK : Hd (zeros (256 * x) ++ spr kind x l P ++ zeros (256 * y) = book kind x l y) := ⟨by unfold book; rw [hPl]⟩
    have HBL : Hd ((book kind x l y).length = 256 * (x + P + y)) := ⟨by rw [book_length, hPl]⟩
    have HSL : Hd ((spr kind x l P).length = 256 * P) := ⟨spr_length _ _ _ _⟩
    have HG : Hd (gatherP (book kind x l y) kind (x : Int) (n : Int) = (l, 0)) := ⟨by
      have := book_gather kind x l y (by rw [hPl]; omega)
      rwa [HL.out] at this⟩
    have HP : Hd (pages (n : Int) = (P : Int)) := ⟨by rw [pages_nat, hP]⟩
    have HAT : ∀ k, k < P → ∀ kk : UInt8, atP (book kind x l y) ((x : Int) + (k : Int)) kk = if kind = kk then ((l.drop (246 * k)).take 246, 0) else ([], 191) := fun k hk kk => book_at kind x l y k (by rw [hPl]; omega) (by rw [hPl]; omega) kk
    clear hP hPd hPl
    go_enter Try.func8, Try.ntmps8
    go_wp2_with (first
      | (go_at_call 23; refine (awake23 _).mono ?_; rintro e w1 ⟨rfl, hb1⟩)
      | (go_at_call 24; refine (twin24 A n c l w1 (h.below hb1) hn).mono ?_; rintro e w2 ⟨M, mm, mc, rfl, ho2, hb2⟩; have hb12 := hb1.trans (hb2.mono hb1.size))
      | (go_at_call 31; refine (spread31 kind (x : Int) M mm mc l w2 ho2.rd (by have := ho2.len; have := HL.out; omega) (Own8.le ho2).1 (by omega) (by omega)).mono ?_; rw [HSP.out]; rintro e w3 ⟨B, b, bcap, rfl, ho3, hb3⟩; have hb13 := hb12.trans (hb3.mono hb12.size); obtain rfl : b = 256 * P := (by rw [← ho3.len]; exact HSL.out))
      | (at_make; refine wl_make8 rfl _ _ rfl rfl rfl (n := 256 * x) (c := 256 * x) (by omega) (by omega) (Nat.le_refl _) (by omega) (base := w.heap.size) hb13.size ?_; intro w4 ho4 hb4; have hb14 := hb13.trans (hb4.mono hb13.size); have ho34 := ho3.below hb4)
      | (at_builtin; refine wl_app8 rfl (.tmp 44) (.tmp 45) rfl rfl rfl ho4 ho34.rd (by omega) hb14.size ?_; rintro v w5 ⟨A5, c5, rfl, ho5, hg5, _⟩; have hb15 := below_app hb14 hb14.size ho4 hg5)
      | (at_builtin; refine wl_appz8 (m := 256 * y) rfl (.tmp 47) (.tmp 49) rfl rfl rfl (by omega) ho5 (by omega) hb15.size ?_; rintro v w6 ⟨A6, c6, rfl, ho6, hg6, _⟩; have hb16 := below_app hb15 hb15.size ho5 hg6; rw [HBK.out] at ho6)
      | (go_at_call 38; refine (gather38 A6 _ c6 (book kind x l y) kind (x : Int) (n : Int) w6 ho6.rd (by omega) (Own8.le ho6).1 (by omega) (by omega)).mono ?_; rw [HG.out]; rintro e w7 ⟨A7, n7, c7, rfl, hr7, hnc7, hb7, _⟩; have hb17 := hb16.trans (hb7.mono hb16.size); have ho67 := ho6.below hb7)
      | (go_at_call 28; refine (same28 A7 A n7 c7 n c _ l w7 hr7 (h.below hb17)).mono ?_; rw [show (l == l) = true by simp]; rintro e w8 ⟨rfl, rfl⟩)
      | (go_at_call 40; refine (pages40 (n : Int) _ (by omega)).mono ?_; rw [HP.out]; rintro e w8 ⟨rfl, rfl⟩))
    have hk1 : kind ≠ kind + 1 := by
      intro e
      have := congrArg UInt8.toNat e
      rw [UInt8.toNat_add] at this
      have hb := byte_lt kind
      simp at this
      omega
    have hkd : IntKind.u8.wrap ((kind.toNat : Int) + 1) = ((kind + 1).toNat : Int) := by
      have hb := byte_lt kind
      rw [UInt8.toNat_add]
      simp [IntKind.wrap, IntKind.signed, IntKind.bits]
    go_loopw [71, 13, 14, 15, 16, 17] (fun i _ _ _ _ _ wr => ∃ k : Nat, k ≤ P ∧ i = .int .i64 k ∧ Below w7.heap.size w7 wr) (fun i _ _ _ _ _ _ => P - (intOf i).toNat)
    case atStart => exact ⟨0, by omega, rfl, Below.refl _ _⟩
    case round =>
      obtain ⟨k, hk, rfl, hbr⟩ := hrel
      by_cases hlt : k < P
      · have hAT := HAT k hlt kind
        have hAT2 := HAT k hlt (kind + 1)
        rw [if_pos rfl] at hAT
        rw [if_neg hk1] at hAT2
        have E1 := Hd.mk hAT
        have E2 := Hd.mk hAT2
        have hki : (k : Int) < (P : Int) := by omega
        have hor := ho67.below hbr
        clear hAT hAT2 hk1
        go_wp2_with fail
        refine (at36 A6 _ c6 (book kind x l y) ((x : Int) + (k : Int)) kind wr hor.rd (by omega) (Own8.le hor).1 (by omega) (by omega)).mono ?_
        rw [E1.out]
        rintro e v1 ⟨B1, b1, d1, rfl, _, _, hc1, _⟩
        go_wp2_with fail
        refine (at36 A6 _ c6 (book kind x l y) ((x : Int) + (k : Int)) (kind + 1) v1 (hor.below hc1).rd (by omega) (Own8.le hor).1 (by omega) (by omega)).mono ?_
        rw [E2.out]
        rintro e v2 ⟨B2, b2, d2, rfl, _, _, hc2, _⟩
        go_wp2
        go_roundw
        case rel => exact ⟨k + 1, by omega, by go_num, hbr.trans ((hc1.trans (hc2.mono hc1.size)).mono hbr.size)⟩
        case measure => simp [intOf]; omega
      · obtain rfl : k = P := by omega
        go_wp2
        go_ret
        exact ⟨rfl, hb17.trans (hbr.mono hb17.size)⟩
end Go.Proofs.Ytkgdcglnkodgnaa

