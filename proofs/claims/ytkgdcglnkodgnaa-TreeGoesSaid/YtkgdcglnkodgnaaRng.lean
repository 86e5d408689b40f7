/-
  A range over a function whose iterator hands on what it has made, and whose caller's rounds write into blocks of their own: the contract 'SeqC' and the law over it. No condition.
-/
import Derived.RangeFuncNested
import Derived.RangeFuncBound
import Derived.RangeFuncCalls
import Derived.RangeFuncLeaves
import Derived.RangeFuncBox
import Derived.Test.YtkgdcglnkodgnaaNavM
namespace Go.Proofs.Ytkgdcglnkodgnaa
open Go.RowKit
/-- An invariant with the caller's blocks C that abides what an iterator writes: blocks not in C that are new since it began, or its own G. -/
def AbidesC {β : Type} (B : Nat) (G : Nat → Prop) (J : β → (Nat → Prop) → World → Prop) : Prop :=
  ∀ s C W W' row, J s C W → W.grownBy W' row → (∀ r, row = some r → ¬ C r ∧ (B ≤ r ∨ G r)) → J s C W'
/-- The contract of an iterator: L comes, each as values that Enc says; Prot are blocks that the caller must not write. -/
def SeqC {α : Type} (F : Fence) (n : Nat) (P : Program) (g : Nat) (lb : Array Value) (Enc : α → Array Value → (Nat → Prop) → World → Prop) (G Prot : Nat → Prop) (L : List α) (T : World → Prop) (Tx : List α → World → Prop) (w : World) : Prop :=
  ∀ (l : Nat) (J Jx : List α → (Nat → Prop) → World → Prop) (W : World) (C0 : Nat → Prop), Below w.heap.size w W → AbidesC W.heap.size G J → AbidesC W.heap.size G Jx → (∀ k, C0 k → k < W.heap.size ∧ ¬ Prot k) →
    (∀ pre x vals C W1, J pre C W1 → pre ++ [x] <+: L → Enc x vals C W1 → (∀ k, C k → k < W1.heap.size) → YieldAt F (n - 1) P l vals W1 fun e W' =>
      ((e = .returned (.bool true) ∧ J (pre ++ [x]) (up C W1 W') W') ∨ (e = .returned (.bool false) ∧ Jx (pre ++ [x]) (up C W1 W') W')) ∧ Tch C W1 W') →
    J [] C0 W →
    CallsIn F n P g (#[.func (.yield l) #[] #[]] ++ lb) W fun e W' => (∃ v, e = .returned v) ∧ ((∃ C, J L C W' ∧ T W') ∨ (∃ pre C, pre <+: L ∧ Jx pre C W' ∧ Tx pre W'))
/-- How the body of a round may be left. -/
def postC {α : Type} (I : List α → (Nat → Prop) → World → Prop) (Ix : Code → List α → (Nat → Prop) → World → Prop) (C : Nat → Prop) (xs : List α) (W : World) : Exit → Act → World → Prop
  | .normal, _, W' => Tch C W W' ∧ I xs (up C W W') W'
  | .ret, _, W' => Tch C W W' ∧ Ix .ret xs (up C W W') W'
  | .exit id, _, W' => Tch C W W' ∧ Ix (.exit id) xs (up C W W') W'
  | .goto t, _, W' => Tch C W W' ∧ Ix (.goto t) xs (up C W W') W'
  | .panic _, _, _ => False
  | .outgrown, _, _ => False
theorem AbidesC.alloc {β : Type} {B : Nat} {G : Nat → Prop} {I : β → (Nat → Prop) → World → Prop} (h : AbidesC B G I) {s : β} {C : Nat → Prop} {W : World} (o : Obj) (hs : I s C W) : I s C (W.alloc o) :=
  h s C W _ none hs (World.grownBy_alloc W o none) (fun r e => by cases e)
theorem AbidesC.putObj {β : Type} {B : Nat} {G : Nat → Prop} {I : β → (Nat → Prop) → World → Prop} (h : AbidesC B G I) {s : β} {C : Nat → Prop} {W : World} {l : Nat} (o' : Obj) (hs : I s C W) (hC : ¬ C l) (hl : B ≤ l) : I s C (W.putObj l o') :=
  h s C W _ (some l) hs (grownBy_putObj' W l o') (fun r e => by cases e; exact ⟨hC, .inl hl⟩)
theorem size_putObj (W : World) (l : Nat) (o : Obj) : (W.putObj l o).heap.size = W.heap.size := by simp
theorem Tch.putObj (F : Nat → Prop) (W : World) (l : Nat) (o' : Obj) (h : F l) : Tch F W (W.putObj l o') := Tch.of_grown (grownBy_putObj' W l o') (fun k e => by cases e; exact .inl h)
variable {F : Fence} {n : Nat} {P : Program}
/-- The law. -/
theorem wpIn_rangeC {α : Type} {g : Operand} {ps : Array Tmp} {assign body : Code} {Q : Exit → Act → World → Prop} {a : Act} {w : World}
    (hro : F.round = none) (h1 : 1 ≤ n) {gf : Nat} {lb : Array Value} (hg : a.eval g = .func (.func gf) #[] lb) (hFg : F.fn gf) (eg : ∀ args w, (callFunc gf args).run P w = .ok (.enter gf args) w)
    {Enc : α → Array Value → (Nat → Prop) → World → Prop} {G Prot : Nat → Prop} {L : List α} {T : World → Prop} {Tx : List α → World → Prop} {w0 : World} (hseq : SeqC F (n - 1) P gf lb Enc G Prot L T Tx w0)
    (hb0 : Below w0.heap.size w0 w) (hps : ∀ x vals C W, Enc x vals C W → vals.size = ps.size) (hProt : ∀ k, Prot k → k < w.heap.size)
    (hEnc : ∀ x vals (C C' : Nat → Prop) W l o o', W.heap[l]? = some o → o.isCells = false → (∀ k, C k → C' k) → Enc x vals C' W → Enc x vals C (W.putObj l o'))
    (hT : ∀ W l o o', w.heap.size ≤ l → W.heap[l]? = some o → o.isCells = false → T W → T (W.putObj l o')) (hTx : ∀ pre W l o o', w.heap.size ≤ l → W.heap[l]? = some o → o.isCells = false → Tx pre W → Tx pre (W.putObj l o'))
    (C0 : Nat → Prop) (hC0 : ∀ k, C0 k → k < w.heap.size ∧ ¬ Prot k)
    (I : List α → (Nat → Prop) → World → Prop) (Ix : Code → List α → (Nat → Prop) → World → Prop) (hI : AbidesC w.heap.size G I) (hIx : ∀ c, AbidesC w.heap.size G (Ix c)) (h0 : I [] C0 w) (a₁ : α → Array Value → Act)
    (hassign : ∀ (l : Nat) (x : α) (vals : Array Value) (C : Nat → Prop) (W : World) (K : Act → World → Prop), Enc x vals C W → K (a₁ x vals) W →
      assign.wpIn (F.inRound l) (n - 1 - 1) P (Exit.then K (fun _ _ _ => False)) { tmps := (ps.zip vals).foldl (fun t (p, v) => t.setIfInBounds p v) a.tmps, defers := [] } W)
    (hbody : ∀ (l : Nat) (pre : List α) (x : α) (vals : Array Value) (C : Nat → Prop) (W : World), (∃ r, W.heap[l]? = some (.loop r)) → I pre C W → Enc x vals C W → (∀ k, C k → k < W.heap.size) → w.heap.size ≤ W.heap.size → pre ++ [x] <+: L →
      body.wpIn (F.inRound l) (n - 1 - 1) P (postC I Ix C (pre ++ [x]) W) (a₁ x vals) W)
    (hdone : ∀ (D : Nat) (C : Nat → Prop) (W : World), w.heap.size ≤ D → ¬ C D → I L C W → T W → W.heap[D]? = some (.deferred (some [])) → Q .normal { a with defers := { target := .collected D, args := #[] } :: a.defers } W)
    (hstop : ∀ (D : Nat) (c : Code) (pre : List α) (C : Nat → Prop) (W : World), w.heap.size ≤ D → ¬ C D → pre <+: L → Ix c pre C W → Tx pre W → W.heap[D]? = some (.deferred (some [])) → c.wpIn F n P Q { a with defers := { target := .collected D, args := #[] } :: a.defers } W) :
    (Code.rangeFunc g ps assign body).wpIn F n P Q a w := by
  refine wpIn_rangeFunc ?_
  intro fn hfn
  rw [hro]
  obtain ⟨rec, hrec⟩ : ∃ rec : LoopState → Option Code → Loop, rec = fun st pe => { state := st, pending := pe, fn, tmps := a.tmps, params := ps, assign, body, defers := w.heap.size } := ⟨_, rfl⟩
  obtain ⟨W1, hW1⟩ : ∃ W1, (w.alloc (.deferred (some []))).alloc (.loop (rec .ready none)) = W1 := ⟨_, rfl⟩
  have hL1 : W1.heap[w.heap.size + 1]? = some (.loop (rec .ready none)) := by
    rw [← hW1]; have := World.alloc_heap_new (w.alloc (.deferred (some []))) (.loop (rec .ready none)); rwa [World.size_alloc] at this
  have hK1 : W1.heap[w.heap.size]? = some (.deferred (some [])) := by
    rw [← hW1]; exact (Below.heap_alloc _ _ _ (by simp)).trans (World.alloc_heap_new w _)
  have hI1 : I [] C0 W1 := by rw [← hW1]; exact hI.alloc _ (hI.alloc _ h0)
  have hs1 : W1.heap.size = w.heap.size + 2 := by rw [← hW1]; simp
  have hb1 : Below w0.heap.size w0 W1 := by
    rw [← hW1]; exact hb0.trans ((((Below.refl _ w).alloc (Nat.le_refl _) _).alloc (by simp) _).mono hb0.size)
  refine ⟨w.heap.size + 1, [{ target := .collected w.heap.size, args := #[] }], W1, { target := .fn (.func gf) lb, args := #[.func (.yield (w.heap.size + 1)) #[] #[]] }, W1, gf,
    #[.func (.yield (w.heap.size + 1)) #[] #[]] ++ lb, W1, ?_, ?_, ?_, ?_, fun _ => h1, ?_⟩
  · rw [← hW1, hrec]; exact run_enterLoop_outer _ _ _ _ _
  · simp only [resolve, hg]
    simp [go_sem]
  · intro f' hf'; simp [Target.leads] at hf'; subst hf'; exact hFg
  · simp [invoke, go_sem, eg]
  · have keepRec : ∀ {A B : World} {row : Option Nat} {k : Nat} {o : Obj} {C' : Nat → Prop}, A.grownBy B row → (∀ r, row = some r → ¬ C' r ∧ (W1.heap.size ≤ r ∨ G r)) → C' k → A.heap[k]? = some o → B.heap[k]? = some o :=
      fun hg' hr hk ho => (hg'.block _ (Array.getElem?_eq_some_iff.1 ho).1 (fun e => (hr _ e.symm).1 hk)).trans ho
    refine (hseq (w.heap.size + 1)
      (fun pre C' W => ∃ C, (∀ k, C' k ↔ (C k ∨ k = w.heap.size ∨ k = w.heap.size + 1)) ∧ I pre C W ∧ W.heap[w.heap.size + 1]? = some (.loop (rec .ready none)) ∧ W.heap[w.heap.size]? = some (.deferred (some [])) ∧ ∀ k, C k → k < W.heap.size ∧ k ≠ w.heap.size ∧ k ≠ w.heap.size + 1)
      (fun pre C' W => ∃ C c, (∀ k, C' k ↔ (C k ∨ k = w.heap.size ∨ k = w.heap.size + 1)) ∧ Ix c pre C W ∧ W.heap[w.heap.size + 1]? = some (.loop (rec .done (some c))) ∧ W.heap[w.heap.size]? = some (.deferred (some [])) ∧ ∀ k, C k → k < W.heap.size ∧ k ≠ w.heap.size ∧ k ≠ w.heap.size + 1)
      W1 (fun k => C0 k ∨ k = w.heap.size ∨ k = w.heap.size + 1) hb1 ?_ ?_ ?_ ?_ ⟨C0, fun k => Iff.rfl, hI1, hL1, hK1, fun k hk => by have := (hC0 k hk).1; omega⟩).mono ?_
    · rintro s C' A B row ⟨C, hC, hi, hl, hd, hlt⟩ hg' hr
      exact ⟨C, hC, hI s C A B row hi hg' (fun r e => ⟨fun hc => (hr r e).1 ((hC r).2 (.inl hc)), (hr r e).2.imp (fun h => by omega) id⟩), keepRec hg' hr ((hC _).2 (.inr (.inr rfl))) hl, keepRec hg' hr ((hC _).2 (.inr (.inl rfl))) hd,
        fun k hk => ⟨Nat.lt_of_lt_of_le (hlt k hk).1 hg'.size, (hlt k hk).2⟩⟩
    · rintro s C' A B row ⟨C, c, hC, hi, hl, hd, hlt⟩ hg' hr
      exact ⟨C, c, hC, hIx c s C A B row hi hg' (fun r e => ⟨fun hc => (hr r e).1 ((hC r).2 (.inl hc)), (hr r e).2.imp (fun h => by omega) id⟩), keepRec hg' hr ((hC _).2 (.inr (.inr rfl))) hl, keepRec hg' hr ((hC _).2 (.inr (.inl rfl))) hd,
        fun k hk => ⟨Nat.lt_of_lt_of_le (hlt k hk).1 hg'.size, (hlt k hk).2⟩⟩
    · rintro k (hk | rfl | rfl)
      · exact ⟨by have := (hC0 k hk).1; omega, (hC0 k hk).2⟩
      · exact ⟨by omega, fun h => by have := hProt _ h; omega⟩
      · exact ⟨by omega, fun h => by have := hProt _ h; omega⟩
    · rintro pre x vals C' W ⟨C, hC, hi, hl, hk, hCl⟩ hlen hen _
      have hlt : w.heap.size + 1 < W.heap.size := (Array.getElem?_eq_some_iff.1 hl).1
      have hnl : ¬ C (w.heap.size + 1) := fun h => (hCl _ h).2.2 rfl
      have hnd : ¬ C w.heap.size := fun h => (hCl _ h).2.1 rfl
      have hy := run_yield (P := P) (args := vals) hl (by rw [hrec]; exact hps x vals C' W hen)
      rw [hrec] at hy
      refine ⟨fn, _, assign, body, hy, roundIn_of_wpIn hfn (hassign _ x vals C' W _ hen ⟨_, run_beginRound hl (by rw [hrec]), ?_⟩)⟩
      obtain ⟨W2, hW2⟩ : ∃ W2, W.putObj (w.heap.size + 1) (.loop { rec .ready none with state := .busy }) = W2 := ⟨_, rfl⟩
      have hl2 : W2.heap[w.heap.size + 1]? = some (.loop { rec .ready none with state := .busy }) := by rw [← hW2]; exact World.putObj_heap_same hlt
      have hk2 : W2.heap[w.heap.size]? = some (.deferred (some [])) := by rw [← hW2]; exact (World.putObj_heap_other (by omega)).trans hk
      have hz2 : W2.heap.size = W.heap.size := by rw [← hW2]; simp
      have hi2 : I pre C W2 := by rw [← hW2]; exact hI.putObj _ hi hnl (by omega)
      have hen2 : Enc x vals C W2 := by rw [← hW2]; exact hEnc _ _ C C' _ _ _ _ hl rfl (fun k h => (hC k).2 (.inl h)) hen
      have ht2 : Tch C' W W2 := by rw [← hW2]; exact Tch.putObj _ _ _ _ ((hC _).2 (.inr (.inr rfl)))
      rw [hW2]
      refine wpIn_mono (hbody _ pre x vals C W2 ⟨_, hl2⟩ hi2 hen2 (fun k h => by rw [hz2]; exact (hCl k h).1) (by omega) hlen) ?_
      have fin : ∀ (jump : Option Code) (W3 : World), Tch C W2 W3 →
          (Instr.endRound (w.heap.size + 1) jump).run P W3 = .ok (.bool jump.isNone) (W3.putObj (w.heap.size + 1) (.loop (rec (if jump.isNone then .ready else .done) jump))) ∧
          (W3.putObj (w.heap.size + 1) (.loop (rec (if jump.isNone then .ready else .done) jump))).heap[w.heap.size + 1]? = some (.loop (rec (if jump.isNone then .ready else .done) jump)) ∧
          (W3.putObj (w.heap.size + 1) (.loop (rec (if jump.isNone then .ready else .done) jump))).heap[w.heap.size]? = some (.deferred (some [])) ∧
          Tch C' W (W3.putObj (w.heap.size + 1) (.loop (rec (if jump.isNone then .ready else .done) jump))) ∧
          (∀ k, up C' W (W3.putObj (w.heap.size + 1) (.loop (rec (if jump.isNone then .ready else .done) jump))) k ↔ (up C W2 W3 k ∨ k = w.heap.size ∨ k = w.heap.size + 1)) ∧
          ¬ up C W2 W3 (w.heap.size + 1) ∧
          (∀ k, up C W2 W3 k → k < (W3.putObj (w.heap.size + 1) (.loop (rec (if jump.isNone then .ready else .done) jump))).heap.size ∧ k ≠ w.heap.size ∧ k ≠ w.heap.size + 1) := fun jump W3 ht3 => by
        have hl3 := (ht3.block _ (by omega) hnl).trans hl2
        have hk3 := (ht3.block _ (by omega) hnd).trans hk2
        have hs3 := ht3.size
        have := run_endRound (P := P) jump hl3
        rw [hrec] at this ⊢
        refine ⟨this, World.putObj_heap_same (Array.getElem?_eq_some_iff.1 hl3).1, (World.putObj_heap_other (by omega)).trans hk3, ?_, fun k => ?_, ?_, fun k hk => ?_⟩
        · refine (ht2.trans (ht3.mono fun k _ h => .inl ((hC k).2 (.inl h)))).trans (Tch.putObj _ _ _ _ (.inl ((hC _).2 (.inr (.inr rfl)))))
        · simp only [up, size_putObj, hz2, hC]
          constructor
          · rintro ((h | h | h) | h)
            · exact .inl (.inl h)
            · exact .inr (.inl h)
            · exact .inr (.inr h)
            · exact .inl (.inr h)
          · rintro ((h | h) | h | h)
            · exact .inl (.inl h)
            · exact .inr h
            · exact .inl (.inr (.inl h))
            · exact .inl (.inr (.inr h))
        · rintro (h | h)
          · exact hnl h
          · omega
        · simp only [size_putObj]
          rcases hk with h | h
          · have := hCl k h; exact ⟨by omega, this.2⟩
          · omega
      rintro e a3 W3 hp
      cases e with
      | normal =>
        obtain ⟨ht3, hi3⟩ := hp
        obtain ⟨hr, hl4, hk4, ht4, hC4, hn4, hlt4⟩ := fin none W3 ht3
        exact ⟨_, _, hr, .inl ⟨rfl, _, hC4, hI.putObj _ hi3 hn4 (by omega), hl4, hk4, hlt4⟩, ht4⟩
      | ret =>
        obtain ⟨ht3, hi3⟩ := hp
        obtain ⟨hr, hl4, hk4, ht4, hC4, hn4, hlt4⟩ := fin (some .ret) W3 ht3
        exact ⟨_, _, hr, .inr ⟨rfl, _, .ret, hC4, (hIx _).putObj _ hi3 hn4 (by omega), hl4, hk4, hlt4⟩, ht4⟩
      | exit id =>
        obtain ⟨ht3, hi3⟩ := hp
        obtain ⟨hr, hl4, hk4, ht4, hC4, hn4, hlt4⟩ := fin (some (.exit id)) W3 ht3
        exact ⟨_, _, hr, .inr ⟨rfl, _, .exit id, hC4, (hIx _).putObj _ hi3 hn4 (by omega), hl4, hk4, hlt4⟩, ht4⟩
      | goto t =>
        obtain ⟨ht3, hi3⟩ := hp
        obtain ⟨hr, hl4, hk4, ht4, hC4, hn4, hlt4⟩ := fin (some (.goto t)) W3 ht3
        exact ⟨_, _, hr, .inr ⟨rfl, _, .goto t, hC4, (hIx _).putObj _ hi3 hn4 (by omega), hl4, hk4, hlt4⟩, ht4⟩
      | panic ch => exact hp.elim
      | outgrown => exact hp.elim
    · rintro e W2 ⟨⟨v, rfl⟩, (⟨C', ⟨C, hC, hi, hl, hk, hlt⟩, ht⟩ | ⟨pre, C', hSp, ⟨C, c, hC, hi, hl, hk, hlt⟩, ht⟩)⟩
      · exact ⟨none, _, by have := run_endLoop (P := P) hl (by rw [hrec]; simp); rw [hrec] at this; exact this, hdone _ C _ (Nat.le_refl _) (fun h => (hlt _ h).2.1 rfl) (hI.putObj _ hi (fun h => (hlt _ h).2.2 rfl) (by omega)) (hT _ _ _ _ (by omega) hl rfl ht) ((World.putObj_heap_other (by omega)).trans hk)⟩
      · exact ⟨some c, _, by have := run_endLoop (P := P) hl (by rw [hrec]; simp); rw [hrec] at this; exact this, hstop _ c pre C _ (Nat.le_refl _) (fun h => (hlt _ h).2.1 rfl) hSp ((hIx c).putObj _ hi (fun h => (hlt _ h).2.2 rfl) (by omega)) (hTx _ _ _ _ _ (by omega) hl rfl ht) ((World.putObj_heap_other (by omega)).trans hk)⟩
end Go.Proofs.Ytkgdcglnkodgnaa
