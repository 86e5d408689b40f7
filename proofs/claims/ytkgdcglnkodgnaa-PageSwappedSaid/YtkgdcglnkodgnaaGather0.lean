/- page.Gather: no page to gather. No condition but sizes. -/
import Derived.Test.YtkgdcglnkodgnaaIter
namespace Go.Proofs.Ytkgdcglnkodgnaa
open Go.RowKit Go.Shelf
attribute [local go_sem] Oper.semAt_some
/-- One page more of a stream. -/
def gstep (b : List UInt8) (kind : UInt8) (f long : Nat) (s : List UInt8 × Nat) (x : Nat) : List UInt8 × Nat :=
  if s.2 ≠ 0 then s
  else if (atP b ((f : Int) + (x : Int)) kind).2 ≠ 0 then ([], (atP b ((f : Int) + (x : Int)) kind).2)
  else if (atP b ((f : Int) + (x : Int)) kind).1.length ≠ min (long - s.1.length) 246 then ([], 193)
  else (s.1 ++ (atP b ((f : Int) + (x : Int)) kind).1, 0)
def gat (b : List UInt8) (kind : UInt8) (f long : Nat) (xs : List Nat) : List UInt8 × Nat := xs.foldl (gstep b kind f long) ([], 0)
theorem gat_snoc (b : List UInt8) (kind : UInt8) (f long : Nat) (xs : List Nat) (x : Nat) : gat b kind f long (xs ++ [x]) = gstep b kind f long (gat b kind f long xs) x := by
  simp [gat]
theorem gstep_stuck (b : List UInt8) (kind : UInt8) (f long : Nat) (s : List UInt8 × Nat) (h : s.2 ≠ 0) : ∀ ys : List Nat, ys.foldl (gstep b kind f long) s = s
  | [] => rfl
  | y :: ys => by
    have e : gstep b kind f long s y = s := by unfold gstep; rw [if_pos h]
    rw [List.foldl_cons, e]
    exact gstep_stuck b kind f long s h ys
theorem gat_stuck (b : List UInt8) (kind : UInt8) (f long : Nat) {xs ys : List Nat} (hp : xs <+: ys) (h : (gat b kind f long xs).2 ≠ 0) : gat b kind f long ys = gat b kind f long xs := by
  obtain ⟨zs, rfl⟩ := hp
  unfold gat at h ⊢
  rw [List.foldl_append, gstep_stuck _ _ _ _ _ h]

theorem Own8.cells {w : World} {base : Nat} {A : Option Addr} {n c : Nat} {l : List UInt8} (h : Own8 w base A n c l) {g : Nat} (hg : ownBlk A c = some g) : ∃ o : Obj, w.heap[g]? = some o ∧ o.isCells = true := by
  rcases h.2.2.2 with h0 | ⟨g', off, cur, rfl, _, hc, _⟩
  · simp [ownBlk, h0] at hg
  · unfold ownBlk at hg
    split at hg
    · cases hg
    · simp at hg
      subst hg
      exact ⟨_, hc, rfl⟩
theorem Own8.from_ {w w' : World} {base : Nat} {A : Option Addr} {n c : Nat} {l : List UInt8} (h : Own8 w base A n c l) {row : Option Nat} (hg : w.grownBy w' row) (hr : ∀ r, row = some r → ∃ o : Obj, w.heap[r]? = some o ∧ o.isCells = false) : Own8 w' base A n c l :=
  h.grown hg fun g hb e => by
    obtain ⟨o, ho, hc⟩ := h.cells hb
    obtain ⟨o', ho', hc'⟩ := hr g e
    rw [ho] at ho'; cases ho'; rw [hc] at hc'; cases hc'
theorem boxed_from {w w' : World} {B : Nat} {t : TypeId} {v : Value} (h : Boxed w B t v) {row : Option Nat} (hg : w.grownBy w' row) (hr : ∀ r, row = some r → ∃ o : Obj, w.heap[r]? = some o ∧ o.isCells = false) : Boxed w' B t v :=
  h.kept hg fun e => by
    obtain ⟨o, ho, hc⟩ := hr B e.symm
    rw [show w.heap[B]? = _ from h] at ho; cases ho; cases hc
theorem boxed_below {w w' : World} {B : Nat} {t : TypeId} {v : Value} (h : Boxed w B t v) (hb : Below w.heap.size w w') : Boxed w' B t v := (hb.block B h.lt).trans h
/-- What holds between two rounds of Gather. -/
def GInv (B : Nat) (A : Option Addr) (n c : Nat) (l : List UInt8) (kind : UInt8) (f long : Nat) (pre : List Num) (W : World) : Prop :=
  (∃ A' n' c' o, Boxed W B 22 (.slice A n c) ∧ Boxed W (B + 1) 5 (.int .u8 (kind.toNat : Int)) ∧ Boxed W (B + 1 + 1) 3 (.int .i64 (f : Int)) ∧ Boxed W (B + 1 + 1 + 1) 3 (.int .i64 (long : Int)) ∧
    Boxed W (B + 1 + 1 + 1 + 1) 22 (.slice none 0 0) ∧ Boxed W (B + 1 + 1 + 1 + 1 + 1) 25 (.int .i64 0) ∧ Boxed W (B + 1 + 1 + 1 + 1 + 1 + 1 + 1) 22 (.slice A' n' c') ∧ Own8 W (B + 6) A' n' c' o ∧
    (∀ g, ownBlk A' c' = some g → g = B + 6 ∨ B + 9 ≤ g) ∧ Hd (gat l kind f long (pre.map (·.1)) = (o, 0)) ∧ n' ≤ long ∧ B + 9 ≤ W.heap.size)
def GEnd (B : Nat) (l : List UInt8) (kind : UInt8) (f long : Nat) (c : Code) (pre : List Num) (W : World) : Prop :=
  c = .ret ∧ ∃ e : Nat, e ≠ 0 ∧ Boxed W (B + 1 + 1 + 1 + 1) 22 (.slice none 0 0) ∧ Boxed W (B + 1 + 1 + 1 + 1 + 1) 25 (.int .i64 (e : Int)) ∧ Hd (gat l kind f long (pre.map (·.1)) = ([], e))
theorem ginv_own (B : Nat) (A : Option Addr) (n c : Nat) (l : List UInt8) (kind : UInt8) (f long : Nat) : Go.Own (GInv B A n c l kind f long) := by
  rintro s X Y row ⟨A', n', c', o, h1, h2, h3, h4, h5, h6, h7, h8, h9, h10, h11, h12⟩ hg hr
  exact ⟨A', n', c', o, boxed_from h1 hg hr, boxed_from h2 hg hr, boxed_from h3 hg hr, boxed_from h4 hg hr, boxed_from h5 hg hr, boxed_from h6 hg hr, boxed_from h7 hg hr, h8.from_ hg hr, h9, h10, h11, Nat.le_trans h12 hg.size⟩
theorem gend_own (B : Nat) (l : List UInt8) (kind : UInt8) (f long : Nat) (c : Code) : Go.Own (GEnd B l kind f long c) := by
  rintro s X Y row ⟨h0, e, he, h1, h2, h3⟩ hg hr
  exact ⟨h0, e, he, boxed_from h1 hg hr, boxed_from h2 hg hr, h3⟩
/-- The fourth law of a range over a function, one loop variable that is no box: the rounds' record is read off the one ahead. -/
theorem rangeF1 {F : Fence} {n : Nat} {P : Program} {α : Type} {g : Operand} {p : Nat} {assign body : Code} {Q : Exit → Act → World → Prop} {a : Act} {w : World}
    (hro : F.round = none) (h1 : 1 ≤ n) {gf : Nat} {lb : Array Value} (hg : a.eval g = .func (.func gf) #[] lb) (hFg : F.fn gf) (eg : ∀ args w, (callFunc gf args).run P w = .ok (.enter gf args) w)
    {enc : α → Value} {Kp : World → World → Prop} {S Sp : List α → Prop} {N : Nat} {w0 : World} (hseq : SeqStopsK F (n - 1) P gf lb (fun x => #[enc x]) Kp S Sp N w0)
    (hKt : ∀ {A B C : World}, Kp A B → Kp B C → Kp A C) (hKb : ∀ (W : World) (l : Nat) (o o' : Obj), w.heap.size ≤ l → W.heap[l]? = some o → o.isCells = false → o.isWalk = false → Kp W (W.putObj l o')) (hb0 : Below w0.heap.size w0 w)
    (I : List α → World → Prop) (Ix : Code → List α → World → Prop) (hI : OwnFrom w.heap.size I) (hIx : ∀ c, OwnFrom w.heap.size (Ix c)) (h0 : I [] w) (q : Nat)
    (hassign : ∀ (l : Nat) (x : α) (W : World) (K : Act → World → Prop), K { tmps := (a.tmps.setIfInBounds p (enc x)).setIfInBounds q (enc x), defers := [] } W →
      assign.wpIn (F.inRound l) (n - 1 - 1) P (Exit.then K (fun _ _ _ => False)) { tmps := a.tmps.setIfInBounds p (enc x), defers := [] } W)
    (hbody : ∀ (l : Nat) (pre : List α) (x : α) (W : World), I pre W → pre.length < N → body.wpIn (F.inRound l) (n - 1 - 1) P (ownPostK Kp I Ix (pre ++ [x]) W) { tmps := (a.tmps.setIfInBounds p (enc x)).setIfInBounds q (enc x), defers := [] } W)
    (hdone : ∀ (D : Nat) (xs : List α) (W : World), w.heap.size ≤ D → S xs → I xs W → W.heap[D]? = some (.deferred (some [])) → Q .normal { a with defers := { target := .collected D, args := #[] } :: a.defers } W)
    (hstop : ∀ (D : Nat) (c : Code) (pre : List α) (W : World), w.heap.size ≤ D → Sp pre → Ix c pre W → W.heap[D]? = some (.deferred (some [])) → c.wpIn F n P Q { a with defers := { target := .collected D, args := #[] } :: a.defers } W) :
    (Code.rangeFunc g #[p] assign body).wpIn F n P Q a w :=
  wpIn_rangeFunc_ownF hro h1 hg hFg eg hseq hKt hKb hb0 (fun _ => rfl) I Ix hI hIx h0 (fun x => { tmps := (a.tmps.setIfInBounds p (enc x)).setIfInBounds q (enc x), defers := [] }) (fun l x W K hK => by simpa using hassign l x W K hK) hbody hdone hstop
theorem gstart (w W0 : World) (A : Option Addr) (n c : Nat) (kd : Int) (f long : Nat) (hW0 : ((((((w.alloc (.cells #[.slice A n c] 22)).alloc (.cells #[.int .u8 kd] 5)).alloc (.cells #[.int .i64 (f : Int)] 3)).alloc (.cells #[.int .i64 (long : Int)] 3)).alloc (.cells #[.slice none 0 0] 22)).alloc (.cells #[.int .i64 0] 25)) = W0) :
    Boxed W0 w.heap.size 22 (.slice A n c) ∧ Boxed W0 (w.heap.size + 1) 5 (.int .u8 kd) ∧ Boxed W0 (w.heap.size + 1 + 1) 3 (.int .i64 (f : Int)) ∧ Boxed W0 (w.heap.size + 1 + 1 + 1) 3 (.int .i64 (long : Int)) ∧ Boxed W0 (w.heap.size + 1 + 1 + 1 + 1) 22 (.slice none 0 0) ∧ Boxed W0 (w.heap.size + 1 + 1 + 1 + 1 + 1) 25 (.int .i64 0) ∧ Below w.heap.size w W0 := by
  subst hW0
  have e0 := Boxed.new w 22 (.slice A n c)
  have e1 := Boxed.new (w.alloc (.cells #[.slice A n c] 22)) 5 (.int .u8 kd)
  have e2 := Boxed.new ((w.alloc (.cells #[.slice A n c] 22)).alloc (.cells #[.int .u8 kd] 5)) 3 (.int .i64 (f : Int))
  have e3 := Boxed.new (((w.alloc (.cells #[.slice A n c] 22)).alloc (.cells #[.int .u8 kd] 5)).alloc (.cells #[.int .i64 (f : Int)] 3)) 3 (.int .i64 (long : Int))
  have e4 := Boxed.new ((((w.alloc (.cells #[.slice A n c] 22)).alloc (.cells #[.int .u8 kd] 5)).alloc (.cells #[.int .i64 (f : Int)] 3)).alloc (.cells #[.int .i64 (long : Int)] 3)) 22 (.slice none 0 0)
  have e5 := Boxed.new (((((w.alloc (.cells #[.slice A n c] 22)).alloc (.cells #[.int .u8 kd] 5)).alloc (.cells #[.int .i64 (f : Int)] 3)).alloc (.cells #[.int .i64 (long : Int)] 3)).alloc (.cells #[.slice none 0 0] 22)) 25 (.int .i64 0)
  simp only [World.size_alloc] at e1 e2 e3 e4 e5
  refine ⟨((((e0.alloc _).alloc _).alloc _).alloc _).alloc _, (((e1.alloc _).alloc _).alloc _).alloc _, ((e2.alloc _).alloc _).alloc _, (e3.alloc _).alloc _, e4.alloc _, e5, ?_⟩
  refine (((((((Below.refl w.heap.size w).alloc (Nat.le_refl _) _).alloc ?_ _).alloc ?_ _).alloc ?_ _).alloc ?_ _).alloc ?_ _) <;> simp <;> omega
set_option maxRecDepth 100000 in
set_option maxHeartbeats 1000000 in
theorem gather38_zero (A : Option Addr) (n c : Nat) (l : List UInt8) (kind : UInt8) (f long : Nat) (w : World) (hn : n ≤ 4194304) (m : Nat) (hm : Hd (count n = (m, 0))) (hmm : 256 * m = n)
    (P : Nat) (hp : Hd (npages long = P)) (hf : f ≤ 9223372036854775807) (hl : long ≤ 246 * P) (hP0 : (P : Int) ≤ 0) :
    CallsIn Fence.wide 9 Try.prog 38 #[.slice A n c, .int .u8 (kind.toNat : Int), .int .i64 f, .int .i64 long] w (RetA w (gat l kind f long (List.range P))) := by
  have HPG : Hd (pages (long : Int) = (P : Int)) := ⟨by rw [pages_nat, hp.out]⟩
  refine callsIn_of_wp_marks Try.func38 rfl trivial ?_ rfl
  simp only [Try.ntmps38, List.size_toArray, List.length_cons, List.length_nil, Nat.reduceAdd, Nat.reduceSub, Array.replicate_succ, Array.replicate_zero, List.push_toArray, List.append_toArray, List.nil_append, List.cons_append]
  have hfl : ¬ ((f : Int) < 0) := by omega
  have hll : ¬ ((long : Int) < 0) := by omega
  gi_wp2_with (first
    | (refine ⟨trivial, ?_⟩; gi_at_call 34; refine (callsIn_wide.2 (count34 A n c _ (by omega))).mono ?_; rw [hm.out]; rintro e w' ⟨rfl, rfl⟩)
    | (refine ⟨trivial, ?_⟩; gi_at_call 40; refine (callsIn_wide.2 (pages40 (long : Int) _ (by omega))).mono ?_; rw [HPG.out]; rintro e w' ⟨rfl, rfl⟩)
    | (gi_at_make; refine wlIn_make8 rfl _ _ rfl rfl rfl rfl rfl (Nat.zero_le _) (by omega) (base := w.heap.size + 6) (by simp <;> omega) ?_; intro ob hown)
    | (refine ⟨trivial, ?_⟩; gi_at_call 95; refine (numbers_in _ _ trivial rfl (P : Int) _).mono ?_; rintro e w' ⟨rfl, rfl⟩))
  obtain ⟨W0, hW0⟩ : ∃ W0, ((((((w.alloc (.cells #[.slice A n c] 22)).alloc (.cells #[.int .u8 (kind.toNat : Int)] 5)).alloc (.cells #[.int .i64 (f : Int)] 3)).alloc (.cells #[.int .i64 (long : Int)] 3)).alloc (.cells #[.slice none 0 0] 22)).alloc (.cells #[.int .i64 0] 25)) = W0 := ⟨_, rfl⟩
  have hs0 : W0.heap.size = w.heap.size + 1 + 1 + 1 + 1 + 1 + 1 := by rw [← hW0]; simp
  have hst := gstart w W0 A n c (kind.toNat : Int) f long hW0
  rw [hW0, hs0] at hown
  rw [hW0]
  have HC : (((W0.alloc ob).alloc (Obj.cells #[Value.slice (some ⟨w.heap.size + 1 + 1 + 1 + 1 + 1 + 1, 0, none⟩) 0 long] 22)).alloc (Obj.cells #[Value.int IntKind.i64 (P : Int)] 3)).cell? ⟨w.heap.size + 1 + 1 + 1 + 1 + 1 + 1 + 1 + 1, 0, none⟩ = some (.int .i64 (P : Int)) := by
    have := (Boxed.new ((W0.alloc ob).alloc (Obj.cells #[Value.slice (some ⟨w.heap.size + 1 + 1 + 1 + 1 + 1 + 1, 0, none⟩) 0 long] 22)) 3 (.int .i64 (P : Int))).cell
    simpa [hs0] using this
  refine rangeF1 (p := 54) rfl (by omega) (gf := 144) (lb := #[.pointer (some ⟨w.heap.size + 1 + 1 + 1 + 1 + 1 + 1 + 1 + 1, 0, none⟩)]) rfl trivial (enters_of Try.func144 (by kernel_rfl) rfl)
    (numbers_stops Fence.wide (9 - 1) trivial rfl (by omega) (w.heap.size + 1 + 1 + 1 + 1 + 1 + 1 + 1 + 1) P (by omega) _ (by simp [hs0]) HC) KCell.tr kcell_b (Below.refl _ _)
    (fun pre W => GInv w.heap.size A n c l kind f long pre W ∧ Below w.heap.size w W) (fun cc pre W => GEnd w.heap.size l kind f long cc pre W ∧ Below w.heap.size w W)
    (OwnFrom.and (Go.Own.from (ginv_own _ _ _ _ _ _ _ _) _) (ownFrom_below (Nat.le_refl _) (by simp [hs0]; omega)))
    (fun cc => OwnFrom.and (Go.Own.from (gend_own _ _ _ _ _ cc) _) (ownFrom_below (Nat.le_refl _) (by simp [hs0]; omega)))
    ?start 14 ?assign ?body ?done ?stop
  case start =>
    obtain ⟨e1, e2, e3, e4, e5, e6, eb⟩ := hst
    have e7 := Boxed.new (W0.alloc ob) 22 (.slice (some ⟨w.heap.size + 1 + 1 + 1 + 1 + 1 + 1, 0, none⟩) 0 long)
    rw [World.size_alloc, hs0] at e7
    refine ⟨⟨_, _, _, _, ((e1.alloc _).alloc _).alloc _, ((e2.alloc _).alloc _).alloc _, ((e3.alloc _).alloc _).alloc _, ((e4.alloc _).alloc _).alloc _, ((e5.alloc _).alloc _).alloc _, ((e6.alloc _).alloc _).alloc _, e7.alloc _, (hown.alloc _).alloc _, ?_, ⟨rfl⟩, by omega, by simp [hs0]⟩, ?_⟩
    · intro g hg
      unfold ownBlk at hg
      split at hg
      · cases hg
      · simp at hg; omega
    · exact ((eb.alloc (by omega) _).alloc (by simp; omega) _).alloc (by simp; omega) _
  case assign =>
    intro l x W K hK
    gi_wp2
    exact hK
  case body =>
    rintro r pre x W _ hlt
    omega
  case done =>
    rintro D ys W hD hys ⟨⟨A', n', c', o, h1, h2, h3, h4, h5, h6, h7, h8, h9, h10, h11, h12⟩, hB⟩ hK
    have g7 := h7.cell; have g5 := h5.cell; have f5 := h5.frozen; have g6 := h6.cell; have f6 := h6.frozen
    gi_wp2
    rw [hys] at h10
    rw [h10.out]
    have hK2 := ((KeepsOthers.setCell W ⟨w.heap.size + 1 + 1 + 1 + 1, 0, none⟩ (.slice A' n' c')).trans (KeepsOthers.setCell _ ⟨w.heap.size + 1 + 1 + 1 + 1 + 1, 0, none⟩ (.int .i64 0))).same D _ hK rfl
    refine ⟨by simp, .inl ⟨_, _, rfl, run_takeDeferred hK2, ?_⟩⟩
    have q8 := (h8.grown (grownBy_setCell' W (w.heap.size + 1 + 1 + 1 + 1) (.slice A' n' c')) (fun g hg e => by have := h9 g hg; injection e with e; omega)).grown (grownBy_setCell' _ (w.heap.size + 1 + 1 + 1 + 1 + 1) (.int .i64 0)) (fun g hg e => by have := h9 g hg; injection e with e; omega)
    have q5 := (h5.set (.slice A' n' c')).kept (grownBy_setCell' _ (w.heap.size + 1 + 1 + 1 + 1 + 1) (.int .i64 0)) (by intro e; injection e with e; omega)
    have q6 := (h6.kept (grownBy_setCell' W (w.heap.size + 1 + 1 + 1 + 1) (.slice A' n' c')) (by intro e; injection e with e; omega)).set (.int .i64 0)
    have qD := q8.from_ (grownBy_putObj' _ D (.deferred none)) (fun r e => by cases e; exact ⟨_, hK2, rfl⟩)
    have hc5 := cell_kept q5.cell (grownBy_putObj' _ D (.deferred none)) (fun r e => by cases e; exact ⟨_, hK2, rfl⟩)
    have hc6 := cell_kept q6.cell (grownBy_putObj' _ D (.deferred none)) (fun r e => by cases e; exact ⟨_, hK2, rfl⟩)
    refine ⟨.tuple #[.slice A' n' c', .int .i64 0], ?_, _, _, _, rfl, qD.rd, (Own8.le qD).1, ((hB.setCell (p := ⟨w.heap.size + 1 + 1 + 1 + 1, 0, none⟩) (by simp <;> omega) _).setCell (p := ⟨w.heap.size + 1 + 1 + 1 + 1 + 1, 0, none⟩) (by simp <;> omega) _).trans (belowK_b (w := w) (Nat.le_refl _) _ D _ _ (by simp [hs0] at hD; omega) hK2 rfl rfl), ?_⟩
    · simp [results, Try.f38, go_sem, hc5, hc6]
    · intro hn0 ad hA
      obtain ⟨ad', _, hA', _, _, _, hbk⟩ := qD.at_ (k := 0) hn0
      rw [hA] at hA'; cases hA'
      have := (qD.lt hbk).1
      omega
  case stop =>
    rintro D cc pre W hD hpre ⟨⟨rfl, e, he, h5, h6, h10⟩, hB⟩ hK
    rw [gat_stuck _ _ _ _ hpre (by rw [h10.out]; exact he), h10.out]
    have g5 := h5.cell; have g6 := h6.cell
    gi_wp2
    refine ⟨by simp, .inl ⟨_, _, rfl, run_takeDeferred hK, ?_⟩⟩
    have hc5 := cell_kept g5 (grownBy_putObj' _ D (.deferred none)) (fun r e => by cases e; exact ⟨_, hK, rfl⟩)
    have hc6 := cell_kept g6 (grownBy_putObj' _ D (.deferred none)) (fun r e => by cases e; exact ⟨_, hK, rfl⟩)
    refine ⟨.tuple #[.slice none 0 0, .int .i64 (e : Int)], ?_, _, _, _, rfl, Rd8.nil_, Nat.le_refl _, hB.trans (belowK_b (w := w) (Nat.le_refl _) W D _ _ (by simp [hs0] at hD; omega) hK rfl rfl), fun h => absurd h (by omega)⟩
    simp [results, Try.f38, go_sem, hc5, hc6]
end Go.Proofs.Ytkgdcglnkodgnaa
