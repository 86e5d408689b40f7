/-
  The document's Read (127): a node read. No condition but sizes.
-/
import Derived.Test.YtkgdcglnkodgnaaRk
import Derived.Test.YtkgdcglnkodgnaaRuint
import Derived.Test.YtkgdcglnkodgnaaNoNav
namespace Go.Proofs.Ytkgdcglnkodgnaa
open Go.RowKit
/-- A call that answers a node of the document. -/
def RetRN (w : World) (r : Nat × Int × List Kp) (e : Ending) (w' : World) : Prop :=
  ∃ A n c, e = .returned (.tuple #[.agg #[.int .i64 r.2.1, .slice A n c], .int .i64 (r.1 : Int)]) ∧ OwnK w' w.heap.size A n c r.2.2 ∧ n ≤ 256 ∧ Below w.heap.size w w'
/-- A node in memory. -/
def NodeAt (w : World) (g : Nat) (m : Int) (A : Option Addr) (n c : Nat) : Prop := w.heap[g]? = some (.cells #[.int .i64 m, .slice A n c] 188 (0, 0))
theorem NodeAt.load {w : World} {g : Nat} {m : Int} {A : Option Addr} {n c : Nat} (h : NodeAt w g m A n c) :
    w.cell? ⟨g, 0, none⟩ = some (.int .i64 m) ∧ w.cell? ⟨g, 1, none⟩ = some (.slice A n c) ∧ w.frozen? ⟨g, 0, none⟩ = false ∧ w.frozen? ⟨g, 1, none⟩ = false :=
  ⟨(cell_of_row _ _ 0 _ _ _ h).trans rfl, (cell_of_row _ _ 1 _ _ _ h).trans rfl, frozen_of_row _ _ 0 _ _ h, frozen_of_row _ _ 1 _ _ h⟩
theorem NodeAt.set {w : World} {g : Nat} {m m' : Int} {A A' : Option Addr} {n c n' c' : Nat} (h : NodeAt w g m A n c) : NodeAt ((w.setCell ⟨g, 0, none⟩ (.int .i64 m')).setCell ⟨g, 1, none⟩ (.slice A' n' c')) g m' A' n' c' :=
  (heap_setCell_same _ g 1 _ _ _ ((heap_setCell_same w g 0 _ _ _ h).trans rfl)).trans rfl
/-- How long is the slice of the node at p? -/
def lenIn (w : World) (p : Nat) : Nat := match w.cell? ⟨p, 1, none⟩ with | some v => lenOfV v | none => 0
theorem NodeAt.lenIn {w : World} {g : Nat} {m : Int} {A : Option Addr} {n c : Nat} (h : NodeAt w g m A n c) : lenIn w g = n := by
  unfold Ytkgdcglnkodgnaa.lenIn
  rw [h.load.2.1]; rfl
theorem below_node {w w' : World} {m' : Int} {A' : Option Addr} {n' c' : Nat} (h : Below w.heap.size w w') : Below w.heap.size w ((w'.setCell ⟨w.heap.size, 0, none⟩ (.int .i64 m')).setCell ⟨w.heap.size, 1, none⟩ (.slice A' n' c')) :=
  (h.grown (grown_cell (g := w.heap.size) (i := 0) _) h.size (fun k e => by injection e with e; omega)).grown (grown_cell (g := w.heap.size) (i := 1) _) (by have := h.size; simpa [World.setCell] using this) (fun k e => by injection e with e; omega)
set_option maxRecDepth 100000 in
set_option maxHeartbeats 4000000 in
theorem rread127 (A : Option Addr) (n c : Nat) (l : List UInt8) (kind : UInt8) (number level : Int) (w : World) (h : Rd8 w A n l) (hn : n ≤ 140737488355328) (hnc : n ≤ c) (hlo : -9223372036854775808 ≤ number) (hhi : number ≤ 9223372036854775807) (hlv : -1 ≤ level) :
    Calls Try.prog 127 #[.slice A n c, .int .u8 (kind.toNat : Int), .int .i64 number, .int .i64 level] w (RetRN w (readK l kind number level)) := by
  obtain ⟨W0, hW0⟩ : ∃ W0, Hd (w.alloc (.cells #[.int .i64 0, .slice none 0 0] 188) = W0) := ⟨_, ⟨rfl⟩⟩
  have HB0 : Hd (Below w.heap.size w W0) := ⟨by rw [← hW0.out]; exact (Below.refl _ _).alloc (Nat.le_refl _) _⟩
  have HS0 : W0.heap.size = w.heap.size + 1 := by rw [← hW0.out]; simp
  have HN0 : Hd (NodeAt W0 w.heap.size 0 none 0 0) := ⟨by rw [← hW0.out]; exact heap_alloc_new w _⟩
  have HAT := Hd.mk (rat37 A n c l number kind W0 (h.below HB0.out) hn hnc hlo hhi)
  obtain ⟨d, er, hat⟩ : ∃ d er, Hd (atP l number kind = (d, er)) := ⟨_, _, ⟨rfl⟩⟩
  have hdl : Hd (d.length ≤ 256) := ⟨by have := atP_len l number kind; rw [hat.out] at this; exact this⟩
  have hrk : Hd (readK l kind number level = if er ≠ 0 then (er, 0, []) else readN d level) := ⟨by unfold readK; rw [hat.out]⟩
  rw [hat.out] at HAT
  clear h
  go_enter Try.func127, Try.ntmps127
  go_wp2_with fail
  rw [hW0.out]
  refine HAT.out.mono ?_
  rintro e w1 ⟨A1, n1, c1, rfl, rd, hnc1, b1, _⟩
  have HB1 := Hd.mk (HB0.out.trans (b1.mono HB0.out.size))
  have HN1 : Hd (NodeAt w1 w.heap.size 0 none 0 0) := ⟨(b1.block _ (by omega)).trans HN0.out⟩
  have HD := Hd.mk rd
  have hR1 : w.heap.size < w1.heap.size := (Array.getElem?_eq_some_iff.1 HN1.out).1
  have hn1 : n1 ≤ 256 := by have h1 := rd.len; have := hdl.out; simp only at h1; omega
  clear rd b1 HAT HB0 HN0
  simp only
  by_cases he : er = 0
  case neg =>
    have hen : ((er : Int) != 0) = true := by simp; omega
    have hr : Hd (readK l kind number level = (er, 0, [])) := ⟨by rw [hrk.out, if_pos he]⟩
    clear he
    obtain ⟨z0, z1, z2, z3⟩ := HN1.out.load
    go_wp2_with fail
    (try simp only [Exit.inBlock, Exit.then])
    have HE := HN1.out.set (m' := 0) (A' := none) (n' := 0) (c' := 0)
    refine bodyPost_ret (v := .tuple #[.agg #[.int .i64 0, .slice none 0 0], .int .i64 (er : Int)]) ?_ rfl ?_
    · rw [results_cell_tmp rfl]
      simp [asAddr, Result.andThen]
      rw [run_loadVar_row _ _ 188 188 _ (0, 0) _ HE Try.underlying188 rfl (by kernel_rfl)]
    · rw [hr.out]
      exact ⟨_, _, _, rfl, OwnK.nil_ _ _ _, by omega, below_node HB1.out⟩
  subst he
  obtain ⟨W2, hW2⟩ : ∃ W2, Hd (w1.alloc (.cells #[.slice A1 n1 c1, .int .i64 0, .int .i64 0] 170) = W2) := ⟨_, ⟨rfl⟩⟩
  obtain ⟨g, hg⟩ : ∃ g, w1.heap.size = g := ⟨_, rfl⟩
  have B2 : Below w1.heap.size w1 W2 := by rw [← hW2.out]; exact (Below.refl _ _).alloc (Nat.le_refl _) _
  have HC : Hd (Cur 170 W2 g ⟨d, 0, 0⟩) := ⟨by
    refine ⟨A1, n1, c1, ?_, HD.out.below B2, hnc1, Nat.zero_le _, by omega, fun hn0 ad e => by rw [← hg]; exact Rd8.lt HD.out hn0 ad e⟩
    rw [← hW2.out, ← hg]; exact heap_alloc_new w1 _⟩
  have HN2 : Hd (NodeAt W2 w.heap.size 0 none 0 0) := ⟨(B2.block _ hR1).trans HN1.out⟩
  have HB2 : Hd (Below w.heap.size w W2) := ⟨HB1.out.trans (B2.mono (by omega))⟩
  have HF := Hd.mk (rfixed143 g ⟨d, 0, 0⟩ 1 W2 HC.out (by omega))
  obtain ⟨kb, c1', hk⟩ : ∃ kb c1, Hd (takeC ⟨d, 0, 0⟩ 1 = (kb, c1)) := ⟨_, _, ⟨rfl⟩⟩
  have hHF : Hd (Calls Try.prog 143 #[.pointer (some ⟨g, 0, none⟩), .int .i64 1] W2 fun e w' => e = .returned (.int .u64 (leN kb : Nat)) ∧ Cur 170 w' g c1' ∧ W2.grownBy w' (some g)) := ⟨by
    have h1 := HF.out
    rw [show ((1 : Nat) : Int) = 1 from rfl] at h1
    rw [hk.out] at h1
    exact h1⟩
  have hkl : Hd (kb.length ≤ 1) := ⟨by have := takeC_len ⟨d, 0, 0⟩ 1; rw [show ((1 : Nat) : Int) = 1 from rfl, hk.out] at this; exact this⟩
  clear B2 HF HN1 HB1 HD
  go_wp2_with fail
  rw [hW2.out]
  refine hHF.out.mono ?_
  rintro e w3 ⟨rfl, C1, g3⟩
  have hgW : w.heap.size < g := by omega
  have HC1 := Hd.mk C1
  have HB3 := Hd.mk (HB2.out.grown g3 HB2.out.size (fun q e => by injection e with e; omega))
  have HN3 : Hd (NodeAt w3 w.heap.size 0 none 0 0) := ⟨(g3.block _ (Array.getElem?_eq_some_iff.1 HN2.out).1 (fun e => by injection e with e; omega)).trans HN2.out⟩
  have hv : (leN kb : Int) < 256 := by
    have h1 := leN_lt kb
    have h2 : (256 : Nat) ^ kb.length ≤ 256 ^ 1 := Nat.pow_le_pow_right (by omega) hkl.out
    omega
  have hr1 : Hd (readK l kind number level = if c1'.err ≠ 0 ∨ 12 < leN kb ∨ (level ≠ -1 ∧ (leN kb : Int) ≠ level) then (202, 0, [])
      else if (pairsN d.length c1' []).1 ≠ 0 then (202, 0, [])
      else if (pairsN d.length c1' []).2 = [] ∧ ¬ (level = -1 ∧ leN kb = 0) then (202, 0, [])
      else (0, (leN kb : Int), (pairsN d.length c1' []).2)) := ⟨by rw [hrk.out, if_neg (by simp)]; unfold readN; rw [hk.out]⟩
  obtain ⟨nl, hnl⟩ : ∃ nl : Nat, Hd (leN kb = nl) := ⟨_, ⟨rfl⟩⟩
  have hcd : Hd (c1'.l = d ∧ c1'.at' ≤ d.length) := ⟨by
    have e := hk.out
    unfold takeC at e
    split at e
    · cases e; exact ⟨rfl, Nat.zero_le _⟩
    · split at e
      · cases e; exact ⟨rfl, Nat.zero_le _⟩
      · split at e
        · cases e; exact ⟨rfl, Nat.zero_le _⟩
        · rename_i h9
          cases e
          simp only at h9 ⊢
          exact ⟨trivial, by omega⟩⟩
  rw [hnl.out] at hv hr1 ⊢
  have iw : IntKind.i64.wrap (nl : Int) = (nl : Int) := by rw [IntKind.wrap_i64]; omega
  obtain ⟨p, hp⟩ : ∃ p, w3.heap.size = p := ⟨_, rfl⟩
  have hgp : g < p := by rw [← hp]; exact C1.lt
  clear hrk hat hk hkl hnl HC HB2 HN2 g3 C1 hHF
  have hRp : w.heap.size < p := by omega
  obtain ⟨W4, hW4⟩ : ∃ W4, Hd (w3.alloc (.cells #[.int .i64 (nl : Int), .slice none 0 0] 188) = W4) := ⟨_, ⟨rfl⟩⟩
  have B4 : Below w3.heap.size w3 W4 := by rw [← hW4.out]; exact (Below.refl _ _).alloc (Nat.le_refl _) _
  have HC4 : Hd (Cur 170 W4 g c1') := ⟨HC1.out.below B4⟩
  have HB4 : Hd (Below w.heap.size w W4) := ⟨HB3.out.trans (B4.mono (by omega))⟩
  have HN4 : Hd (NodeAt W4 w.heap.size 0 none 0 0) := ⟨(B4.block _ (by omega)).trans HN3.out⟩
  have HP4 : Hd (NodeAt W4 p (nl : Int) none 0 0) := ⟨by rw [← hW4.out, ← hp]; exact heap_alloc_new w3 _⟩
  have hs4 : p < W4.heap.size := by rw [← hW4.out]; simp; omega
  clear B4 HC1 HB3 HN3
  go_upto_region 6 with fail
  rw [hW4.out]
  obtain ⟨B0, nB, cB, x0, x1, x2, -⟩ := HC4.out.cells
  obtain ⟨z0, z1, z2, z3⟩ := HN4.out.load
  obtain ⟨y0, y1, y2, y3⟩ := HP4.out.load
  by_cases hbad : c1'.err ≠ 0 ∨ 12 < nl ∨ (level ≠ -1 ∧ (nl : Int) ≠ level)
  · have hr : Hd (readK l kind number level = (202, 0, [])) := ⟨by rw [hr1.out, if_pos hbad]⟩
    by_cases b1 : c1'.err ≠ 0
    · have k1 : ((c1'.err : Int) != 0) = true := by simp; omega
      clear hbad b1
      go_wp2_with fail
      (try simp only [Exit.inBlock, Exit.then])
      have HE := HN4.out.set (m' := 0) (A' := none) (n' := 0) (c' := 0)
      refine bodyPost_ret (v := .tuple #[.agg #[.int .i64 0, .slice none 0 0], .int .i64 202]) ?_ rfl ?_
      · rw [results_cell_tmp rfl]
        simp [asAddr, Result.andThen]
        rw [run_loadVar_row _ _ 188 188 _ (0, 0) _ HE Try.underlying188 rfl (by kernel_rfl)]
      · rw [hr.out]
        exact ⟨_, _, _, rfl, OwnK.nil_ _ _ _, by omega, below_node HB4.out⟩
    · have k1 : ((c1'.err : Int) != 0) = false := by simp; omega
      by_cases b2 : 12 < nl
      · have k2 : (nl : Int) > 12 := by omega
        clear hbad b1 b2
        go_wp2_with fail
        (try simp only [Exit.inBlock, Exit.then])
        have HE := HN4.out.set (m' := 0) (A' := none) (n' := 0) (c' := 0)
        refine bodyPost_ret (v := .tuple #[.agg #[.int .i64 0, .slice none 0 0], .int .i64 202]) ?_ rfl ?_
        · rw [results_cell_tmp rfl]
          simp [asAddr, Result.andThen]
          rw [run_loadVar_row _ _ 188 188 _ (0, 0) _ HE Try.underlying188 rfl (by kernel_rfl)]
        · rw [hr.out]
          exact ⟨_, _, _, rfl, OwnK.nil_ _ _ _, by omega, below_node HB4.out⟩
      · have k2 : ¬ (nl : Int) > 12 := by omega
        have k3 : level ≥ 0 := by omega
        have k4 : ((nl : Int) != level) = true := by simp; omega
        clear hbad b1 b2
        go_wp2_with fail
        (try simp only [Exit.inBlock, Exit.then])
        have HE := HN4.out.set (m' := 0) (A' := none) (n' := 0) (c' := 0)
        refine bodyPost_ret (v := .tuple #[.agg #[.int .i64 0, .slice none 0 0], .int .i64 202]) ?_ rfl ?_
        · rw [results_cell_tmp rfl]
          simp [asAddr, Result.andThen]
          rw [run_loadVar_row _ _ 188 188 _ (0, 0) _ HE Try.underlying188 rfl (by kernel_rfl)]
        · rw [hr.out]
          exact ⟨_, _, _, rfl, OwnK.nil_ _ _ _, by omega, below_node HB4.out⟩
  · have hr2 : Hd (readK l kind number level = if (pairsN d.length c1' []).1 ≠ 0 then (202, 0, [])
      else if (pairsN d.length c1' []).2 = [] ∧ ¬ (level = -1 ∧ nl = 0) then (202, 0, [])
      else (0, (nl : Int), (pairsN d.length c1' []).2)) := ⟨by rw [hr1.out, if_neg hbad]⟩
    have k1 : ((c1'.err : Int) != 0) = false := by simp; omega
    have k2 : ¬ (nl : Int) > 12 := by omega
    have k34 : (level ≥ 0 ∧ ((nl : Int) != level) = false) ∨ ¬ (level ≥ 0) := by simp; omega
    have hjoin : Hd (level = -1 ∨ (nl : Int) = level) := ⟨by omega⟩
    clear hbad hr1
    obtain ⟨k3, k4⟩ | k3 := k34
    all_goals
      go_wp2_with fail
      clear x0 x1 x2 z0 z1 z2 z3 y0 y1 y2 y3
      go_loopw [14, 15] (fun _ _ wr => ∃ A n c acc cs f, Hd (NodeAt wr p (nl : Int) A n c) ∧ Hd (OwnK wr (p + 1) A n c acc) ∧ Hd (Cur 170 wr g cs) ∧ Hd (Below w.heap.size w wr) ∧ Hd (NodeAt wr w.heap.size 0 none 0 0) ∧ Hd (cs.l = d ∧ cs.at' ≤ d.length ∧ n ≤ cs.at') ∧ Hd (pairsN f cs acc = pairsN d.length c1' []) ∧ Hd (d.length ≤ f + n))
        (fun _ _ wr => 300 - lenIn wr p)
      case atStart => exact ⟨none, 0, 0, [], c1', d.length, HP4, ⟨OwnK.nil_ _ _ _⟩, HC4, HB4, HN4, ⟨hcd.out.1, hcd.out.2, Nat.zero_le _⟩, ⟨rfl⟩, ⟨by omega⟩⟩
      case round =>
        obtain ⟨A, n, c, acc, cs, f, hnd, ho, hc, hb, hnr, ⟨hcs, hca, hcn⟩, hq0, hf⟩ := hrel
        obtain ⟨q, hq⟩ : ∃ q, cs.l.length - cs.at' = q := ⟨_, rfl⟩
        have HLF := Hd.mk (rleft157 g cs wr hc.out)
        rw [hq] at HLF
        have hlen : Hd (lenIn wr p = n) := ⟨hnd.out.lenIn⟩
        by_cases hend : q = 0
        · subst hend
          have hr3 : Hd (readK l kind number level = if acc = [] ∧ ¬ (level = -1 ∧ nl = 0) then (202, 0, []) else (0, (nl : Int), acc)) :=
            ⟨by rw [hr2.out, ← hq0.out, pairsN_done f cs acc (by omega)]; simp⟩
          have hal := ho.out.len
          have hz : ¬ ((0 : Nat) : Int) > 0 := by omega
          have hn256 : n ≤ 256 := by have := hdl.out; omega
          clear hr2 hq0 hf hq hcd
          go_wp2_with fail
          refine HLF.out.mono ?_
          rintro e w' ⟨rfl, k, rfl⟩
          obtain ⟨w4, hw4⟩ : ∃ w4, wr.drewN k = w4 := ⟨_, rfl⟩
          have HN5 : Hd (NodeAt w4 w.heap.size 0 none 0 0) := ⟨by rw [← hw4]; exact hnr.out⟩
          have HP5 : Hd (NodeAt w4 p (nl : Int) A n c) := ⟨by rw [← hw4]; exact hnd.out⟩
          have HB5 : Hd (Below w.heap.size w w4) := ⟨by rw [← hw4]; exact drewN_below hb.out k⟩
          have HO5 : Hd (OwnK w4 (p + 1) A n c acc) := ⟨by rw [← hw4]; exact ho.out⟩
          obtain ⟨z0, z1, z2, z3⟩ := HN5.out.load
          obtain ⟨y0, y1, y2, y3⟩ := HP5.out.load
          rw [hw4]
          clear HLF hw4 hnd ho hc hb hnr
          have hgood : Hd (OwnK ((w4.setCell ⟨w.heap.size, 0, none⟩ (.int .i64 (nl : Int))).setCell ⟨w.heap.size, 1, none⟩ (.slice A n c)) w.heap.size A n c acc) :=
            ⟨Own.mono (Own.grown (Own.grown HO5.out (grown_cell (g := w.heap.size) (i := 0) _) (fun x hx e => by injection e with e; have := (Own.lt HO5.out hx).1; omega)) (grown_cell (g := w.heap.size) (i := 1) _) (fun x hx e => by injection e with e; have := (Own.lt HO5.out hx).1; omega)) (by omega)⟩
          by_cases hn0 : n = 0
          · subst hn0
            have hac : acc = [] := List.eq_nil_of_length_eq_zero hal
            subst hac
            have c1 : (((0 : Nat) : Int) == 0) = true := by simp
            have c1' : ((0 : Int) == 0) = true := by simp
            by_cases hok : level = -1 ∧ nl = 0
            · have hr : Hd (readK l kind number level = (0, (nl : Int), [])) := ⟨by rw [hr3.out, if_neg (fun e => e.2 hok)]⟩
              have c2 : ¬ (level ≥ 0) := by omega
              have c3 : ¬ ((nl : Int) > 0) := by omega
              clear hok hr3
              all_goals try (exfalso; omega)
              all_goals
                go_wp2_with fail
                (try simp only [Exit.inBlock, Exit.then])
                have HE := HN5.out.set (m' := (nl : Int)) (A' := A) (n' := 0) (c' := c)
                refine bodyPost_ret (v := .tuple #[.agg #[.int .i64 (nl : Int), .slice A 0 c], .int .i64 0]) ?_ rfl ?_
                · rw [results_cell_tmp rfl]
                  simp [asAddr, Result.andThen]
                  rw [run_loadVar_row _ _ 188 188 _ (0, 0) _ HE Try.underlying188 rfl (by kernel_rfl)]
                · rw [hr.out]
                  exact ⟨_, _, _, rfl, hgood.out, by omega, below_node HB5.out⟩
            · have c3 : level ≥ 0 ∨ ¬ level ≥ 0 ∧ (nl : Int) > 0 := by omega
              have hr : Hd (readK l kind number level = (202, 0, [])) := ⟨by rw [hr3.out, if_pos ⟨rfl, hok⟩]⟩
              clear hok hr3
              obtain c3 | ⟨c3, c4⟩ := c3
              all_goals try (exfalso; omega)
              all_goals
                go_wp2_with fail
                (try simp only [Exit.inBlock, Exit.then])
                have HE := HN5.out.set (m' := 0) (A' := none) (n' := 0) (c' := 0)
                refine bodyPost_ret (v := .tuple #[.agg #[.int .i64 0, .slice none 0 0], .int .i64 202]) ?_ rfl ?_
                · rw [results_cell_tmp rfl]
                  simp [asAddr, Result.andThen]
                  rw [run_loadVar_row _ _ 188 188 _ (0, 0) _ HE Try.underlying188 rfl (by kernel_rfl)]
                · rw [hr.out]
                  exact ⟨_, _, _, rfl, OwnK.nil_ _ _ _, by omega, below_node HB5.out⟩
          · have c1 : ((n : Int) == 0) = false := by simp; omega
            have hr : Hd (readK l kind number level = (0, (nl : Int), acc)) := ⟨by rw [hr3.out, if_neg (fun e => hn0 (by rw [← hal, e.1]; rfl))]⟩
            clear hn0 hr3
            go_wp2_with fail
            (try simp only [Exit.inBlock, Exit.then])
            have HE := HN5.out.set (m' := (nl : Int)) (A' := A) (n' := n) (c' := c)
            refine bodyPost_ret (v := .tuple #[.agg #[.int .i64 (nl : Int), .slice A n c], .int .i64 0]) ?_ rfl ?_
            · rw [results_cell_tmp rfl]
              simp [asAddr, Result.andThen]
              rw [run_loadVar_row _ _ 188 188 _ (0, 0) _ HE Try.underlying188 rfl (by kernel_rfl)]
            · rw [hr.out]
              exact ⟨_, _, _, rfl, hgood.out, hn256, below_node HB5.out⟩
        · have hz : (q : Int) > 0 := by omega
          obtain ⟨f, rfl⟩ : ∃ f', f = f' + 1 := ⟨f - 1, by have := hf.out; rw [hcs] at hq; omega⟩
          obtain ⟨bk, cs1, hbk⟩ : ∃ bk cs1, Hd (bytesC cs 64 = (bk, cs1)) := ⟨_, _, ⟨rfl⟩⟩
          obtain ⟨v, cs2, hu⟩ : ∃ v cs2, Hd (uintC cs1 = (v, cs2)) := ⟨_, _, ⟨rfl⟩⟩
          have hpc : Hd (pairC cs = (bk, v, cs2)) := ⟨by unfold pairC; rw [hbk.out]; simp only; rw [hu.out]⟩
          have hp1 : Hd (pairsN d.length c1' [] = if badPair acc (bk, v, cs2) = true then (202, []) else pairsN f cs2 (acc ++ [(⟨bk.toArray⟩, (v : Int))])) :=
            ⟨by rw [← hq0.out, pairsN, if_neg (by omega), hpc.out]⟩
          have hpg := pairC_prog cs
          rw [hpc.out] at hpg
          have hpr : Hd (cs2.l = d ∧ (cs2.err = 0 → cs.at' < cs2.at')) := ⟨hpg.1.trans hcs, fun e => (hpg.2 e).2⟩
          clear hq0 hpg hpc hend hq
          have hbl : Hd (bk.length ≤ 64) := ⟨by have := bytesC_short cs 64; rw [hbk.out] at this; exact this⟩
          have HB4 : ∀ k, Hd _ := fun k => Hd.mk (rbytes163 g cs 64 (wr.drewN k) hc.out (by omega))
          rw [hbk.out] at HB4
          simp only [show ((64 : Nat) : Int) = 64 from rfl] at HB4
          go_wp2_with (go_at_call 157; refine HLF.out.mono ?_; rintro e w' ⟨rfl, k, rfl⟩)
          refine (HB4 k).out.mono ?_
          rintro e w4 ⟨A4, n4, c4, rfl, o4, C4, g4⟩
          simp only at o4 C4
          have hpw : p < wr.heap.size := (Array.getElem?_eq_some_iff.1 hnd.out).1
          have hcv := run_str8 (c := c4) (Own8.rd o4)
          have ho4 : Hd (OwnK w4 (p + 1) A n c acc) := ⟨Own.grown (show OwnK (wr.drewN k) (p + 1) A n c acc from ho.out) g4 (fun x hx e => by injection e with e; have := (Own.lt ho.out hx).1; omega)⟩
          have hb4 : Hd (Below w.heap.size w w4) := ⟨(drewN_below hb.out k).grown g4 (drewN_below hb.out k).size (fun x e => by injection e with e; omega)⟩
          have hd4 : Hd (NodeAt w4 p (nl : Int) A n c) := ⟨(g4.block p hpw (fun e => by injection e with e; omega)).trans (show NodeAt (wr.drewN k) p (nl : Int) A n c from hnd.out)⟩
          have hr4 : Hd (NodeAt w4 w.heap.size 0 none 0 0) := ⟨(g4.block w.heap.size (by show w.heap.size < wr.heap.size; omega) (fun e => by injection e with e; omega)).trans (show NodeAt (wr.drewN k) w.heap.size 0 none 0 0 from hnr.out)⟩
          have hU := Hd.mk (ruint164 g cs1 w4 C4)
          rw [hu.out] at hU
          simp only at hU
          clear HB4 HLF hc ho hb g4 C4 o4 hnd hnr hpw
          go_wp2_with fail
          clear hcv
          refine hU.out.mono ?_
          rintro e w5 ⟨rfl, C5, g5⟩
          have hpw : p < w4.heap.size := (Array.getElem?_eq_some_iff.1 hd4.out).1
          have ho5 : Hd (OwnK w5 (p + 1) A n c acc) := ⟨Own.grown ho4.out g5 (fun x hx e => by injection e with e; have := (Own.lt ho4.out hx).1; omega)⟩
          have hb5 : Hd (Below w.heap.size w w5) := ⟨hb4.out.grown g5 hb4.out.size (fun x e => by injection e with e; omega)⟩
          have hd5 : Hd (NodeAt w5 p (nl : Int) A n c) := ⟨(g5.block p hpw (fun e => by injection e with e; omega)).trans hd4.out⟩
          have hr5 : Hd (NodeAt w5 w.heap.size 0 none 0 0) := ⟨(g5.block w.heap.size (by omega) (fun e => by injection e with e; omega)).trans hr4.out⟩
          obtain ⟨B0, nB, cB, x0, x1, x2, -⟩ := C5.cells
          obtain ⟨z0, z1, z2, z3⟩ := hr5.out.load
          obtain ⟨y0, y1, y2, y3⟩ := hd5.out.load
          have hC5 := Hd.mk C5
          have hal := Hd.mk ho5.out.len
          have hn256 : n ≤ 256 := by have := hdl.out; omega
          clear hU ho4 hb4 g5 C5 hu hbk hd4 hr4 hpw
          generalize hky : (⟨bk.toArray⟩ : ByteArray) = key at hp1 ⊢
          by_cases e1 : cs2.err ≠ 0 ∨ 2147483647 < v
          · have hr : Hd (readK l kind number level = (202, 0, [])) := ⟨by rw [hr2.out, hp1.out, if_pos (badPair_1 e1), if_pos (by simp)]⟩
            have e2 : ((cs2.err : Int) != 0) = true ∨ ((cs2.err : Int) != 0) = false ∧ (v : Int) > 2147483647 := by simp; omega
            clear hr2 hp1 e1 hpr
            obtain e2 | ⟨e2, e3⟩ := e2
            all_goals
              go_wp2_with fail
              (try simp only [Exit.inBlock, Exit.then])
              have HE := hr5.out.set (m' := 0) (A' := none) (n' := 0) (c' := 0)
              refine bodyPost_ret (v := .tuple #[.agg #[.int .i64 0, .slice none 0 0], .int .i64 202]) ?_ rfl ?_
              · rw [results_cell_tmp rfl]
                simp [asAddr, Result.andThen]
                rw [run_loadVar_row _ _ 188 188 _ (0, 0) _ HE Try.underlying188 rfl (by kernel_rfl)]
              · rw [hr.out]
                exact ⟨_, _, _, rfl, OwnK.nil_ _ _ _, by omega, below_node hb5.out⟩
          · have e2 : ((cs2.err : Int) != 0) = false := by simp; omega
            have e3 : ¬ (v : Int) > 2147483647 := by omega
            have e4 : Hd (cs.at' < cs2.at') := ⟨hpr.out.2 (by omega)⟩
            have hp2 : Hd (pairsN d.length c1' [] = if (decide (0 < acc.length) && leK key (lastKey acc)) = true then (202, []) else pairsN f cs2 (acc ++ [(key, (v : Int))])) :=
              ⟨by rw [hp1.out, badPair_2 e1, hky]⟩
            have hcl := Hd.mk hC5.out.len
            clear hp1 e1
            by_cases hlast : decide (0 < acc.length) && leK key (lastKey acc)
            · have hr : Hd (readK l kind number level = (202, 0, [])) := ⟨by rw [hr2.out, hp2.out, if_pos hlast, if_pos (by simp)]⟩
              rw [Bool.and_eq_true, decide_eq_true_eq] at hlast
              obtain ⟨h0, hle⟩ := hlast
              obtain ⟨m, rfl⟩ : ∃ m, n = m + 1 := ⟨n - 1, by have := hal.out; omega⟩
              obtain ⟨pp, hpm⟩ : ∃ p, acc[m]? = some p := ⟨acc[m]'(by have := hal.out; omega), List.getElem?_eq_getElem _⟩
              rw [lastKey_get hal.out hpm] at hle
              have hle' : (Op.bytesLess key.toList pp.1.toList || key.toList == pp.1.toList) = true := hle
              obtain ⟨ad, rfl, q0, -⟩ := RdK.get (Own.rd ho5.out) hpm
              have i1 : ((m + 1 : Nat) : Int) > 0 := by omega
              have i2 : IntKind.i64.wrap (((m + 1 : Nat) : Int) - 1) = (m : Int) := by rw [IntKind.wrap_i64]; omega
              have i3 : (m : Int) < ((m + 1 : Nat) : Int) := by omega
              have i4 : (0 : Int) ≤ (m : Int) := by omega
              clear hr2 hp2 hle hpm h0 hky
              go_wp2_with fail
              (try simp only [Exit.inBlock, Exit.then])
              have HE := hr5.out.set (m' := 0) (A' := none) (n' := 0) (c' := 0)
              refine bodyPost_ret (v := .tuple #[.agg #[.int .i64 0, .slice none 0 0], .int .i64 202]) ?_ rfl ?_
              · rw [results_cell_tmp rfl]
                simp [asAddr, Result.andThen]
                rw [run_loadVar_row _ _ 188 188 _ (0, 0) _ HE Try.underlying188 rfl (by kernel_rfl)]
              · rw [hr.out]
                exact ⟨_, _, _, rfl, OwnK.nil_ _ _ _, by omega, below_node hb5.out⟩
            · have hp3 : Hd (pairsN d.length c1' [] = pairsN f cs2 (acc ++ [(key, (v : Int))])) := ⟨by rw [hp2.out, if_neg hlast]⟩
              have iw2 : IntKind.i64.wrap (v : Int) = (v : Int) := by rw [IntKind.wrap_i64]; omega
              clear hp2
              by_cases hn0 : n = 0
              · subst hn0
                have i1 : ¬ (((0 : Nat) : Int) > 0) := by omega
                have ha5 := Hd.mk ((Below.refl w5.heap.size w5).alloc (Nat.le_refl _) (.cells #[.string key, .int .i64 (v : Int)] 113))
                have hp5 : p < w5.heap.size := (Array.getElem?_eq_some_iff.1 hd5.out).1
                have HAL : ∀ (v6 : Value) (w6 : World), AppK (w5.alloc (.cells #[.string key, .int .i64 (v : Int)] 113)) (p + 1) A c (0 + 1) (acc ++ [(key, (v : Int))]) v6 w6 →
                    ∃ A6 c6, v6 = .slice A6 (0 + 1) c6 ∧ Hd (OwnK w6 (p + 1) A6 (0 + 1) c6 (acc ++ [(key, (v : Int))])) ∧ NodeAt w6 p (nl : Int) A 0 c ∧ Hd (Cur 170 w6 g cs2) ∧ Hd (Below w.heap.size w w6) ∧ Hd (NodeAt w6 w.heap.size 0 none 0 0) := by
                  rintro v6 w6 ⟨A6, c6, rfl, o6, g6, _⟩
                  have hne : ∀ k, k ≤ p → ownBlk A c ≠ some k := fun k hk e => by have := (Own.lt ho5.out e).1; omega
                  have hs6 := ha5.out.size
                  exact ⟨A6, c6, rfl, ⟨o6⟩, (g6.block p (by omega) (fun e => hne p (Nat.le_refl _) e.symm)).trans ((ha5.out.block p hp5).trans hd5.out), ⟨Cur.far (hC5.out.alloc _) g6 (fun k hk => by have := (Own.lt ho5.out hk).1; omega)⟩,
                    ⟨(hb5.out.alloc hb5.out.size _).grown g6 (by have := hb5.out.size; simp; omega) (fun k hk => by have := (Own.lt ho5.out hk).1; omega)⟩,
                    ⟨(g6.block w.heap.size (by omega) (fun e => hne _ (by omega) e.symm)).trans ((ha5.out.block _ (by omega)).trans hr5.out)⟩⟩
                go_wp2_with (first
                  | (at_builtin; refine wl_appK rfl (.tmp 93) (.tmp 98) rfl rfl rfl (Own.alloc ho5.out _) (RdK.newAt _ [(key, (v : Int))] rfl rfl (by simp)) (by omega) (by simp; omega) ?_; intro v6 w6 h6; obtain ⟨A6, c6, rfl, o6, d6, C6, b6, r6⟩ := HAL v6 w6 h6; obtain ⟨u0, u1, u2, u3⟩ := NodeAt.load d6; have D6 := Hd.mk d6))
                go_roundw
                case rel =>
                  have hpp : p < w6.heap.size := (Array.getElem?_eq_some_iff.1 D6.out).1
                  refine ⟨A6, _, c6, _, cs2, f, ⟨(heap_setCell_same _ p 1 _ _ _ D6.out).trans rfl⟩, ⟨Own.grown o6.out (grown_cell (g := p) (i := 1) _) (fun x hx e => by injection e with e; have := (Own.lt o6.out hx).1; omega)⟩, ⟨Cur.far C6.out (grown_cell (g := p) (i := 1) _) (fun k e => by injection e with e; omega)⟩,
                    ⟨b6.out.grown (grown_cell (g := p) (i := 1) _) b6.out.size (fun k e => by injection e with e; omega)⟩, ⟨(heap_setCell_other w6 ⟨p, 1, none⟩ w.heap.size _ (by show w.heap.size ≠ p; omega)).trans r6.out⟩, ⟨hpr.out.1, ?_, ?_⟩, ⟨hp3.out.symm⟩, ⟨?_⟩⟩
                  · have := hcl.out.1; rw [hpr.out.1] at this; exact this
                  · have := e4.out; omega
                  · have := hf.out; omega
                case measure =>
                  rw [NodeAt.lenIn ((heap_setCell_same _ p 1 _ _ _ D6.out).trans rfl : NodeAt _ p (nl : Int) A6 _ c6), hlen.out]
                  omega
              · obtain ⟨m, rfl⟩ : ∃ m, n = m + 1 := ⟨n - 1, by omega⟩
                obtain ⟨pp, hpm⟩ : ∃ p, acc[m]? = some p := ⟨acc[m]'(by have := hal.out; omega), List.getElem?_eq_getElem _⟩
                have hle : leK key pp.1 = false := by
                  rw [← lastKey_get hal.out hpm]
                  have h0 : decide (0 < acc.length) = true := by have := hal.out; simp; omega
                  rw [h0, Bool.true_and] at hlast
                  simpa using hlast
                have hle' : (Op.bytesLess key.toList pp.1.toList || key.toList == pp.1.toList) = false := hle
                obtain ⟨ad, rfl, q0, -⟩ := RdK.get (Own.rd ho5.out) hpm
                have i1 : ((m + 1 : Nat) : Int) > 0 := by omega
                have i2 : IntKind.i64.wrap (((m + 1 : Nat) : Int) - 1) = (m : Int) := by rw [IntKind.wrap_i64]; omega
                have i3 : (m : Int) < ((m + 1 : Nat) : Int) := by omega
                have i4 : (0 : Int) ≤ (m : Int) := by omega
                clear hle hpm hlast hky hn0
                have ha5 := Hd.mk ((Below.refl w5.heap.size w5).alloc (Nat.le_refl _) (.cells #[.string key, .int .i64 (v : Int)] 113))
                have hp5 : p < w5.heap.size := (Array.getElem?_eq_some_iff.1 hd5.out).1
                have HAL : ∀ (v6 : Value) (w6 : World), AppK (w5.alloc (.cells #[.string key, .int .i64 (v : Int)] 113)) (p + 1) (some ad) c ((m + 1) + 1) (acc ++ [(key, (v : Int))]) v6 w6 →
                    ∃ A6 c6, v6 = .slice A6 ((m + 1) + 1) c6 ∧ Hd (OwnK w6 (p + 1) A6 ((m + 1) + 1) c6 (acc ++ [(key, (v : Int))])) ∧ NodeAt w6 p (nl : Int) (some ad) (m + 1) c ∧ Hd (Cur 170 w6 g cs2) ∧ Hd (Below w.heap.size w w6) ∧ Hd (NodeAt w6 w.heap.size 0 none 0 0) := by
                  rintro v6 w6 ⟨A6, c6, rfl, o6, g6, _⟩
                  have hne : ∀ k, k ≤ p → ownBlk (some ad) c ≠ some k := fun k hk e => by have := (Own.lt ho5.out e).1; omega
                  have hs6 := ha5.out.size
                  exact ⟨A6, c6, rfl, ⟨o6⟩, (g6.block p (by omega) (fun e => hne p (Nat.le_refl _) e.symm)).trans ((ha5.out.block p hp5).trans hd5.out), ⟨Cur.far (hC5.out.alloc _) g6 (fun k hk => by have := (Own.lt ho5.out hk).1; omega)⟩,
                    ⟨(hb5.out.alloc hb5.out.size _).grown g6 (by have := hb5.out.size; simp; omega) (fun k hk => by have := (Own.lt ho5.out hk).1; omega)⟩,
                    ⟨(g6.block w.heap.size (by omega) (fun e => hne _ (by omega) e.symm)).trans ((ha5.out.block _ (by omega)).trans hr5.out)⟩⟩
                go_wp2_with (first
                  | (at_builtin; refine wl_appK rfl (.tmp 93) (.tmp 98) rfl rfl rfl (Own.alloc ho5.out _) (RdK.newAt _ [(key, (v : Int))] rfl rfl (by simp)) (by omega) (by simp; omega) ?_; intro v6 w6 h6; obtain ⟨A6, c6, rfl, o6, d6, C6, b6, r6⟩ := HAL v6 w6 h6; obtain ⟨u0, u1, u2, u3⟩ := NodeAt.load d6; have D6 := Hd.mk d6))
                go_roundw
                case rel =>
                  have hpp : p < w6.heap.size := (Array.getElem?_eq_some_iff.1 D6.out).1
                  refine ⟨A6, _, c6, _, cs2, f, ⟨(heap_setCell_same _ p 1 _ _ _ D6.out).trans rfl⟩, ⟨Own.grown o6.out (grown_cell (g := p) (i := 1) _) (fun x hx e => by injection e with e; have := (Own.lt o6.out hx).1; omega)⟩, ⟨Cur.far C6.out (grown_cell (g := p) (i := 1) _) (fun k e => by injection e with e; omega)⟩,
                    ⟨b6.out.grown (grown_cell (g := p) (i := 1) _) b6.out.size (fun k e => by injection e with e; omega)⟩, ⟨(heap_setCell_other w6 ⟨p, 1, none⟩ w.heap.size _ (by show w.heap.size ≠ p; omega)).trans r6.out⟩, ⟨hpr.out.1, ?_, ?_⟩, ⟨hp3.out.symm⟩, ⟨?_⟩⟩
                  · have := hcl.out.1; rw [hpr.out.1] at this; exact this
                  · have := e4.out; omega
                  · have := hf.out; omega
                case measure =>
                  rw [NodeAt.lenIn ((heap_setCell_same _ p 1 _ _ _ D6.out).trans rfl : NodeAt _ p (nl : Int) A6 _ c6), hlen.out]
                  omega
end Go.Proofs.Ytkgdcglnkodgnaa

