/-
  Layer 26: run (a script) walked. No condition but sizes.
-/
import Derived.Test.YtkgdcglnkodgnaaNav13
namespace Go.Proofs.Ytkgdcglnkodgnaa
open Go.RowKit
theorem take_snocA {l : List ActN} {k : Nat} {x : ActN} (h : l[k]? = some x) : l.take (k + 1) = l.take k ++ [x] := by
  obtain ⟨hk, e⟩ := List.getElem?_eq_some_iff.1 h
  rw [List.take_succ_eq_append_getElem hk, e]
theorem RdA.get' {w : World} {A : Option Addr} {n : Nat} {l : List ActN} (h : RdA w A n l) {k : Nat} {a : ActN} (hk : l[k]? = some a) :
    ∃ ad, A = some ad ∧ w.cell? (ad.add (k * 4)) = some (.int .i64 a.kind) ∧ w.cell? ⟨(ad.add (k * 4)).block, (ad.add (k * 4)).off + 1, none⟩ = some (.int .i64 a.p.1) ∧ w.cell? ⟨(ad.add (k * 4)).block, (ad.add (k * 4)).off + 2, none⟩ = some (.int .i64 a.p.2) ∧ w.cell? ⟨(ad.add (k * 4)).block, (ad.add (k * 4)).off + 3, none⟩ = some (.int .i64 a.n) := by
  obtain ⟨ad, hA, h0, h1, h2, h3⟩ := RdA.get h hk
  refine ⟨ad, hA, h0, ?_, ?_, ?_⟩
  · rw [← add_add'] at h1; exact h1
  · rw [← add_add'] at h2; exact h2
  · rw [← add_add'] at h3; exact h3
set_option maxRecDepth 100000 in
set_option maxHeartbeats 1000000 in
theorem run43 (A : Option Addr) (n c : Nat) (l : List ActN) (w : World) (h : RdA w A n l) (hn : n ≤ 4398046511104) :
    Calls Try.prog 43 #[.slice A n c] w (RetNav w (runN NS.new (l.take 400))) := by
  have HL := Hd.mk h.len
  go_enter Try.func43, Try.ntmps43
  go_wp2_with fail
  refine (newN _).mono ?_
  rintro e w0 ⟨g, F, rfl, N0, hF, hb0⟩
  have D0 := Hd.mk N0
  have HF := Hd.mk hF
  have HB0 := Hd.mk hb0
  clear N0 hF hb0
  go_wp2
  go_loopw [4] (fun i wr => ∃ k : Nat, i = .int .i64 (k : Int) ∧ k ≤ n ∧ k ≤ 400 ∧ Hd (∃ F, NavAt wr g F (runN NS.new (l.take k)) ∧ ∀ k, F k → w.heap.size ≤ k) ∧ Hd (Below w.heap.size w wr) ∧ Hd (w.heap.size ≤ wr.heap.size))
    (fun i _ => 400 - (intOf i).toNat)
  case atStart => exact ⟨0, rfl, by omega, by omega, ⟨F, D0.out, HF.out⟩, HB0, ⟨HB0.out.size⟩⟩
  case round =>
    obtain ⟨k, rfl, hk, hk4, hN, hb, hsz⟩ := hrel
    by_cases hlt : k < n
    · by_cases hlt4 : k < 400
      · obtain ⟨a, ha⟩ : ∃ a, l[k]? = some a := ⟨l[k]'(by have := HL.out; omega), List.getElem?_eq_getElem _⟩
        have hts := Hd.mk (take_snocA ha)
        obtain ⟨ad, rfl, q0, q1, q2, q3⟩ := RdA.get' (Rd.below h hb.out) ha
        obtain ⟨FX, hX, hFX⟩ := hN.out
        have HX := Hd.mk hX
        have HFX := Hd.mk hFX
        have hI := Hd.mk (NInv.new.run (l.take k))
        have hki : (k : Int) < (n : Int) := by omega
        have hki4 : (k : Int) < 400 := by omega
        have hki0 : (0 : Int) ≤ (k : Int) := by omega
        clear hX hFX
        go_wp2_with fail
        refine (step54 g FX _ a wr HX.out hI.out).mono ?_
        rintro e w1 ⟨rfl, hT⟩
        have hB1 := Hd.mk (hb.out.trans (hT.below HFX.out hsz.out))
        have hN1 : Hd (∃ F, NavAt w1 g F (runN NS.new (l.take (k + 1))) ∧ ∀ k, F k → w.heap.size ≤ k) := ⟨_, by rw [hts.out, runN_snoc]; exact hT.1, up_ge HFX.out hsz.out⟩
        have hs1 := Hd.mk (Nat.le_trans hsz.out hT.2.size)
        clear hT q0 q1 q2 q3
        go_wp2
        go_roundw
        case rel => exact ⟨k + 1, by go_num, by omega, by omega, hN1, hB1, hs1⟩
        case measure => simp [intOf]; omega
      · obtain rfl : k = 400 := by omega
        have hki : ((400 : Nat) : Int) < (n : Int) := by omega
        go_wp2
        go_ret
        obtain ⟨FX, hX, hFX⟩ := hN.out
        exact ⟨g, FX, rfl, hX, hFX, hb.out⟩
    · obtain rfl : k = n := by omega
      have hki : ¬ ((k : Int) < (k : Int)) := by omega
      go_wp2
      go_ret
      obtain ⟨FX, hX, hFX⟩ := hN.out
      refine ⟨g, FX, rfl, ?_, hFX, hb.out⟩
      rw [List.take_of_length_le (by have := HL.out; omega)] at hX ⊢
      exact hX
end Go.Proofs.Ytkgdcglnkodgnaa

