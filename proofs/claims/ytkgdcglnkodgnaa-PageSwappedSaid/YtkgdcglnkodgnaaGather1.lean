/- page.Gather: pages to gather. No condition but sizes. -/
import Derived.Test.YtkgdcglnkodgnaaGather0
namespace Go.Proofs.Ytkgdcglnkodgnaa
open Go.RowKit Go.Shelf
attribute [local go_sem] Oper.semAt_some
theorem cell_of_block {w w' : World} {b k : Nat} (h : w'.heap[b]? = w.heap[b]?) : w'.cell? ⟨b, k, none⟩ = w.cell? ⟨b, k, none⟩ := by
  simp [World.cell?, h]
theorem keeps_below {w w' : World} (hb : Below w.heap.size w w') : KeepsOthers w w' := ⟨hb.size, fun l _ h _ => (hb.block l (Array.getElem?_eq_some_iff.1 h).1).trans h⟩
set_option maxRecDepth 100000 in
set_option maxHeartbeats 4000000 in
theorem gather38_pos (A : Option Addr) (n c : Nat) (l : List UInt8) (kind : UInt8) (f long : Nat) (w : World) (h : Rd8 w A n l) (hn : n ≤ 4194304) (hnc : n ≤ c) (m : Nat) (hm : Hd (count n = (m, 0))) (hmm : 256 * m = n)
    (P : Nat) (hp : Hd (npages long = P)) (hP : P ≤ m) (hf : f ≤ 9223372036854775807) (hl : long ≤ 246 * P) (hfm : (f : Int) < (m : Int)) (hpm : (P : Int) ≤ (m : Int) - (f : Int)) (hP1 : (0 : Int) < (P : Int)) :
    CallsIn Fence.wide 9 Try.prog 38 #[.slice A n c, .int .u8 (kind.toNat : Int), .int .i64 f, .int .i64 long] w (RetA w (gat l kind f long (List.range P))) := by
  have HPG : Hd (pages (long : Int) = (P : Int)) := ⟨by rw [pages_nat, hp.out]⟩
  refine callsIn_of_wp_marks Try.func38 rfl trivial ?_ rfl
  simp only [Try.ntmps38, List.size_toArray, List.length_cons, List.length_nil, Nat.reduceAdd, Nat.reduceSub, Array.replicate_succ, Array.replicate_zero, List.push_toArray, List.append_toArray, List.nil_append, List.cons_append]
  have hfl : ¬ ((f : Int) < 0) := by omega
  have hll : ¬ ((long : Int) < 0) := by omega
  gi_wp2_with (first
    | (refine ⟨trivial, ?_⟩; gi_at_call 34; refine (callsIn_wide.2 (count34 A n c _ (by omega))).mono ?_; rw [hm.out]; rintro e w' ⟨rfl, rfl⟩)
    | (refine ⟨trivial, ?_⟩; gi_at_call 40; refine (callsIn_wide.2 (pages40 (long : Int) _ (by omega))).mono ?_; rw [HPG.out]; rintro e w' ⟨rfl, rfl⟩)
    | (gi_at_make; refine wlIn_make8 rfl _ _ rfl rfl rfl rfl rfl (Nat.zero_le _) (by omega) (base := w.heap.size + 6) (by simp <;> omega) ?_; intro ob hown)
    | (refine ⟨trivial, ?_⟩; gi_at_call 95; refine (numbers_in _ _ trivial rfl (P : Int) _).mono ?_; rintro e w' ⟨rfl, rfl⟩))
  obtain ⟨W0, hW0⟩ : ∃ W0, ((((((w.alloc (.cells #[.slice A n c] 22)).alloc (.cells #[.int .u8 (kind.toNat : Int)] 5)).alloc (.cells #[.int .i64 (f : Int)] 3)).alloc (.cells #[.int .i64 (long : Int)] 3)).alloc (.cells #[.slice none 0 0] 22)).alloc (.cells #[.int .i64 0] 25)) = W0 := ⟨_, rfl⟩
  have hs0 : W0.heap.size = w.heap.size + 1 + 1 + 1 + 1 + 1 + 1 := by rw [← hW0]; simp
  have hst := gstart w W0 A n c (kind.toNat : Int) f long hW0
  rw [hW0, hs0] at hown
  rw [hW0]
  have HC : (((W0.alloc ob).alloc (Obj.cells #[Value.slice (some ⟨w.heap.size + 1 + 1 + 1 + 1 + 1 + 1, 0, none⟩) 0 long] 22)).alloc (Obj.cells #[Value.int IntKind.i64 (P : Int)] 3)).cell? ⟨w.heap.size + 1 + 1 + 1 + 1 + 1 + 1 + 1 + 1, 0, none⟩ = some (.int .i64 (P : Int)) := by
    have := (Boxed.new ((W0.alloc ob).alloc (Obj.cells #[Value.slice (some ⟨w.heap.size + 1 + 1 + 1 + 1 + 1 + 1, 0, none⟩) 0 long] 22)) 3 (.int .i64 (P : Int))).cell
    simpa [hs0] using this
  refine rangeF1 (p := 54) rfl (by omega) (gf := 144) (lb := #[.pointer (some ⟨w.heap.size + 1 + 1 + 1 + 1 + 1 + 1 + 1 + 1, 0, none⟩)]) rfl trivial (enters_of Try.func144 (by kernel_rfl) rfl)
    (numbers_stops Fence.wide (9 - 1) trivial rfl (by omega) (w.heap.size + 1 + 1 + 1 + 1 + 1 + 1 + 1 + 1) P (by omega) _ (by simp [hs0]) HC) KCell.tr kcell_b (Below.refl _ _)
    (fun pre W => GInv w.heap.size A n c l kind f long pre W ∧ Below w.heap.size w W) (fun cc pre W => GEnd w.heap.size l kind f long cc pre W ∧ Below w.heap.size w W)
    (OwnFrom.and (Go.Own.from (ginv_own _ _ _ _ _ _ _ _) _) (ownFrom_below (Nat.le_refl _) (by simp [hs0]; omega)))
    (fun cc => OwnFrom.and (Go.Own.from (gend_own _ _ _ _ _ cc) _) (ownFrom_below (Nat.le_refl _) (by simp [hs0]; omega)))
    ?start 14 ?assign ?body ?done ?stop
  case start =>
    obtain ⟨e1, e2, e3, e4, e5, e6, eb⟩ := hst
    have e7 := Boxed.new (W0.alloc ob) 22 (.slice (some ⟨w.heap.size + 1 + 1 + 1 + 1 + 1 + 1, 0, none⟩) 0 long)
    rw [World.size_alloc, hs0] at e7
    refine ⟨⟨_, _, _, _, ((e1.alloc _).alloc _).alloc _, ((e2.alloc _).alloc _).alloc _, ((e3.alloc _).alloc _).alloc _, ((e4.alloc _).alloc _).alloc _, ((e5.alloc _).alloc _).alloc _, ((e6.alloc _).alloc _).alloc _, e7.alloc _, (hown.alloc _).alloc _, ?_, ⟨rfl⟩, by omega, by simp [hs0]⟩, ?_⟩
    · intro g hg
      unfold ownBlk at hg
      split at hg
      · cases hg
      · simp at hg; omega
    · exact ((eb.alloc (by omega) _).alloc (by simp; omega) _).alloc (by simp; omega) _
  case assign =>
    intro l x W K hK
    gi_wp2
    exact hK
  case body =>
    rintro r pre ⟨y, hy1⟩ W ⟨⟨A', n', c', o, h1, h2, h3, h4, h5, h6, h7, h8, h9, h10, h11, h12⟩, hB⟩ hlt
    have g1 := h1.cell; have g2 := h2.cell; have g3 := h3.cell
    obtain ⟨d, de, hat⟩ : ∃ d de, Hd (atP l ((f : Int) + (y : Int)) kind = (d, de)) := ⟨_, _, ⟨rfl⟩⟩
    have hfy : IntKind.i64.wrap ((f : Int) + (y : Int)) = (f : Int) + (y : Int) := IntWalk.i64_in _ (by omega)
    have hG : Hd (gat l kind f long ((pre ++ [(⟨y, hy1⟩ : Num)]).map (·.1)) = gstep l kind f long (o, 0) y) := ⟨by rw [List.map_append, List.map_singleton, gat_snoc, h10.out]⟩
    have hS : Hd (gstep l kind f long (o, 0) y = if de ≠ 0 then ([], de) else if d.length ≠ min (long - o.length) 246 then ([], 193) else (o ++ d, 0)) := ⟨by
      unfold gstep
      rw [hat.out, if_neg (by simp)]⟩
    obtain ⟨dn, hdn⟩ : ∃ dn, Hd (d.length = dn) := ⟨_, ⟨rfl⟩⟩
    have hol := h8.len
    by_cases he : de = 0
    · subst he
      obtain ⟨q, hqd⟩ : ∃ q, q = min (long - n') 246 := ⟨_, rfl⟩
      have hz : (if (246 : Int) < (long : Int) - (n' : Int) then (246 : Int) else (long : Int) - (n' : Int)) = (q : Int) := by split <;> omega
      by_cases hq : dn = q
      · have hqi : ((dn : Int) != (q : Int)) = false := by simp; omega
        have hG' := hG.out
        rw [hS.out, if_neg (by simp), if_neg (by rw [hdn.out, hol]; omega)] at hG'
        have HG := Hd.mk hG'
        have hdl : dn ≤ long - n' := by omega
        clear hG' hG hS hol hq hqd
        gi_wp2_with (first
          | (refine ⟨trivial, ?_⟩; gi_at_call 36; refine (CallsIn.inRound r (callsIn_wide.2 (at36 A n c l ((f : Int) + (y : Int)) kind W (h.below hB) (by omega) hnc (by omega) (by omega)))).mono ?_; rw [hat.out]; rintro e W1 ⟨A1, n1, c1, rfl, hr1, hnc1, hb1, hf1⟩; have hl1 := hr1.len; obtain rfl : n1 = dn := by rw [← hl1, hdn.out]
             have k4 := boxed_below h4 hb1; have k7 := boxed_below h7 hb1; have k5 := boxed_below h5 hb1; have k6 := boxed_below h6 hb1; have p4 := k4.cell; have p7 := k7.cell; have o7 := k7.frozen; have p5 := k5.cell; have p6 := k6.cell; have o5 := k5.frozen; have o6 := k6.frozen)
          | (gi_at_builtin; refine wlIn_app8 rfl _ _ rfl rfl rfl (h8.below hb1) hr1 (by omega) (by have := hb1.size; omega) ?_; rintro v W2 ⟨A2, c2, rfl, ho2, hg2, hc2⟩; have k7' := k7.kept hg2 (fun e => by have := h9 _ e.symm; omega); have p7' := k7'.cell; have o7' := k7'.frozen))
        have hs1 := hb1.size
        have h9' : ∀ g, ownBlk A2 c2 = some g → g = w.heap.size + 6 ∨ w.heap.size + 9 ≤ g := by
          intro g hg
          rcases hc2 with ⟨rfl, rfl, _⟩ | rfl
          · exact h9 g hg
          · unfold ownBlk at hg
            split at hg
            · cases hg
            · simp at hg; omega
        have hx : ∀ {B t v}, Boxed W B t v → B ≠ w.heap.size + 6 → B < w.heap.size + 7 → Boxed (W2.setCell ⟨w.heap.size + 1 + 1 + 1 + 1 + 1 + 1 + 1, 0, none⟩ (.slice A2 (n' + n1) c2)) B t v := by
          intro B t v hb h1 h2
          exact ((boxed_below hb hb1).kept hg2 (fun e => by have := h9 _ e.symm; omega)).kept (grownBy_setCell' _ _ _) (by intro e; injection e with e; omega)
        refine ⟨((keeps_below hb1).trans (KeepsOthers.of_grownBy hg2 fun j o ej hj => ?_)).trans (KeepsOthers.setCell _ _ _), ?_, ⟨A2, n' + n1, c2, _, hx h1 (by omega) (by omega), hx h2 (by omega) (by omega), hx h3 (by omega) (by omega), hx h4 (by omega) (by omega), hx h5 (by omega) (by omega), hx h6 (by omega) (by omega), k7'.set _, ?_, h9', HG, by omega, ?_⟩, ?_⟩
        · obtain ⟨o', ho', hco⟩ := (h8.below hb1).cells ej
          rw [hj] at ho'; cases ho'; exact hco
        · intro v hv
          have v1 : W1.cell? ⟨w.heap.size + 1 + 1 + 1 + 1 + 1 + 1 + 1 + 1, 0, none⟩ = some v := (hb1.cell (p := ⟨w.heap.size + 1 + 1 + 1 + 1 + 1 + 1 + 1 + 1, 0, none⟩) (by simp; omega)).trans hv
          have v2 : W2.cell? ⟨w.heap.size + 1 + 1 + 1 + 1 + 1 + 1 + 1 + 1, 0, none⟩ = some v := by
            rw [← v1]
            exact cell_of_block (hg2.block _ (by omega) (fun e => by have := h9 _ e.symm; omega))
          rw [← v2]
          exact cell_of_block ((grownBy_setCell' W2 _ _).block _ (by have := hg2.size; omega) (by intro e; injection e with e; omega))
        · exact ho2.grown (grownBy_setCell' _ _ _) (fun g hg e => by have := h9' g hg; injection e with e; omega)
        · have := hg2.size
          simp; omega
        · exact (below_app (hB.trans (hb1.mono hB.size)) (by omega) ((h8.below hb1).mono (by omega)) hg2).setCell (p := ⟨w.heap.size + 1 + 1 + 1 + 1 + 1 + 1 + 1, 0, none⟩) (by simp <;> omega) _
      · have hqi : ((dn : Int) != (q : Int)) = true := by simp; omega
        have hG' := hG.out
        rw [hS.out, if_neg (by simp), if_pos (by rw [hdn.out, hol]; omega)] at hG'
        have HG := Hd.mk hG'
        clear hG' hG hS hol hq hqd
        gi_wp2_with (first
          | (refine ⟨trivial, ?_⟩; gi_at_call 36; refine (CallsIn.inRound r (callsIn_wide.2 (at36 A n c l ((f : Int) + (y : Int)) kind W (h.below hB) (by omega) hnc (by omega) (by omega)))).mono ?_; rw [hat.out]; rintro e W1 ⟨A1, n1, c1, rfl, hr1, hnc1, hb1, hf1⟩; have hl1 := hr1.len; obtain rfl : n1 = dn := by rw [← hl1, hdn.out]
             have k4 := boxed_below h4 hb1; have k7 := boxed_below h7 hb1; have k5 := boxed_below h5 hb1; have k6 := boxed_below h6 hb1; have p4 := k4.cell; have p7 := k7.cell; have o7 := k7.frozen; have p5 := k5.cell; have p6 := k6.cell; have o5 := k5.frozen; have o6 := k6.frozen))
        exact ⟨(keeps_below hb1).trans ((KeepsOthers.setCell _ _ _).trans (KeepsOthers.setCell _ _ _)), ⟨rfl, 193, by omega, (k5.set (.slice none 0 0)).kept (grownBy_setCell' _ (w.heap.size + 1 + 1 + 1 + 1 + 1) _) (by intro e; injection e with e; omega), (k6.kept (grownBy_setCell' W1 (w.heap.size + 1 + 1 + 1 + 1) (.slice none 0 0)) (by intro e; injection e with e; omega)).set _, HG⟩, ((hB.trans (hb1.mono hB.size)).setCell (p := ⟨w.heap.size + 1 + 1 + 1 + 1, 0, none⟩) (by simp <;> omega) _).setCell (p := ⟨w.heap.size + 1 + 1 + 1 + 1 + 1, 0, none⟩) (by simp <;> omega) _⟩
    · have he0 : ((de : Int) != 0) = true := by simp; omega
      have hG' := hG.out
      rw [hS.out, if_pos he] at hG'
      have HG := Hd.mk hG'
      clear hG' hG hS hol
      gi_wp2_with (first
        | (refine ⟨trivial, ?_⟩; gi_at_call 36; refine (CallsIn.inRound r (callsIn_wide.2 (at36 A n c l ((f : Int) + (y : Int)) kind W (h.below hB) (by omega) hnc (by omega) (by omega)))).mono ?_; rw [hat.out]; rintro e W1 ⟨A1, n1, c1, rfl, hr1, hnc1, hb1, hf1⟩; have hl1 := hr1.len; obtain rfl : n1 = dn := by rw [← hl1, hdn.out]
           have k4 := boxed_below h4 hb1; have k7 := boxed_below h7 hb1; have k5 := boxed_below h5 hb1; have k6 := boxed_below h6 hb1; have p4 := k4.cell; have p7 := k7.cell; have o7 := k7.frozen; have p5 := k5.cell; have p6 := k6.cell; have o5 := k5.frozen; have o6 := k6.frozen))
      exact ⟨(keeps_below hb1).trans ((KeepsOthers.setCell _ _ _).trans (KeepsOthers.setCell _ _ _)), ⟨rfl, de, he, (k5.set (.slice none 0 0)).kept (grownBy_setCell' _ (w.heap.size + 1 + 1 + 1 + 1 + 1) _) (by intro e; injection e with e; omega), (k6.kept (grownBy_setCell' W1 (w.heap.size + 1 + 1 + 1 + 1) (.slice none 0 0)) (by intro e; injection e with e; omega)).set _, HG⟩, ((hB.trans (hb1.mono hB.size)).setCell (p := ⟨w.heap.size + 1 + 1 + 1 + 1, 0, none⟩) (by simp <;> omega) _).setCell (p := ⟨w.heap.size + 1 + 1 + 1 + 1 + 1, 0, none⟩) (by simp <;> omega) _⟩
  case done =>
    rintro D ys W hD hys ⟨⟨A', n', c', o, h1, h2, h3, h4, h5, h6, h7, h8, h9, h10, h11, h12⟩, hB⟩ hK
    have g7 := h7.cell; have g5 := h5.cell; have f5 := h5.frozen; have g6 := h6.cell; have f6 := h6.frozen
    gi_wp2
    rw [hys] at h10
    rw [h10.out]
    have hK2 := ((KeepsOthers.setCell W ⟨w.heap.size + 1 + 1 + 1 + 1, 0, none⟩ (.slice A' n' c')).trans (KeepsOthers.setCell _ ⟨w.heap.size + 1 + 1 + 1 + 1 + 1, 0, none⟩ (.int .i64 0))).same D _ hK rfl
    refine ⟨by simp, .inl ⟨_, _, rfl, run_takeDeferred hK2, ?_⟩⟩
    have q8 := (h8.grown (grownBy_setCell' W (w.heap.size + 1 + 1 + 1 + 1) (.slice A' n' c')) (fun g hg e => by have := h9 g hg; injection e with e; omega)).grown (grownBy_setCell' _ (w.heap.size + 1 + 1 + 1 + 1 + 1) (.int .i64 0)) (fun g hg e => by have := h9 g hg; injection e with e; omega)
    have q5 := (h5.set (.slice A' n' c')).kept (grownBy_setCell' _ (w.heap.size + 1 + 1 + 1 + 1 + 1) (.int .i64 0)) (by intro e; injection e with e; omega)
    have q6 := (h6.kept (grownBy_setCell' W (w.heap.size + 1 + 1 + 1 + 1) (.slice A' n' c')) (by intro e; injection e with e; omega)).set (.int .i64 0)
    have qD := q8.from_ (grownBy_putObj' _ D (.deferred none)) (fun r e => by cases e; exact ⟨_, hK2, rfl⟩)
    have hc5 := cell_kept q5.cell (grownBy_putObj' _ D (.deferred none)) (fun r e => by cases e; exact ⟨_, hK2, rfl⟩)
    have hc6 := cell_kept q6.cell (grownBy_putObj' _ D (.deferred none)) (fun r e => by cases e; exact ⟨_, hK2, rfl⟩)
    refine ⟨.tuple #[.slice A' n' c', .int .i64 0], ?_, _, _, _, rfl, qD.rd, (Own8.le qD).1, ((hB.setCell (p := ⟨w.heap.size + 1 + 1 + 1 + 1, 0, none⟩) (by simp <;> omega) _).setCell (p := ⟨w.heap.size + 1 + 1 + 1 + 1 + 1, 0, none⟩) (by simp <;> omega) _).trans (belowK_b (w := w) (Nat.le_refl _) _ D _ _ (by simp [hs0] at hD; omega) hK2 rfl rfl), ?_⟩
    · simp [results, Try.f38, go_sem, hc5, hc6]
    · intro hn0 ad hA
      obtain ⟨ad', _, hA', _, _, _, hbk⟩ := qD.at_ (k := 0) hn0
      rw [hA] at hA'; cases hA'
      have := (qD.lt hbk).1
      omega
  case stop =>
    rintro D cc pre W hD hpre ⟨⟨rfl, e, he, h5, h6, h10⟩, hB⟩ hK
    rw [gat_stuck _ _ _ _ hpre (by rw [h10.out]; exact he), h10.out]
    have g5 := h5.cell; have g6 := h6.cell
    gi_wp2
    refine ⟨by simp, .inl ⟨_, _, rfl, run_takeDeferred hK, ?_⟩⟩
    have hc5 := cell_kept g5 (grownBy_putObj' _ D (.deferred none)) (fun r e => by cases e; exact ⟨_, hK, rfl⟩)
    have hc6 := cell_kept g6 (grownBy_putObj' _ D (.deferred none)) (fun r e => by cases e; exact ⟨_, hK, rfl⟩)
    refine ⟨.tuple #[.slice none 0 0, .int .i64 (e : Int)], ?_, _, _, _, rfl, Rd8.nil_, Nat.le_refl _, hB.trans (belowK_b (w := w) (Nat.le_refl _) W D _ _ (by simp [hs0] at hD; omega) hK rfl rfl), fun h => absurd h (by omega)⟩
    simp [results, Try.f38, go_sem, hc5, hc6]
end Go.Proofs.Ytkgdcglnkodgnaa
