/-
  The law of a range over an iterator (Rng) at one and at two loop variables. No condition.
-/
import Derived.Test.YtkgdcglnkodgnaaRng
namespace Go.Proofs.Ytkgdcglnkodgnaa
open Go.RowKit
variable {F : Fence} {n : Nat} {P : Program}
theorem rangeC1 {α : Type} {g : Operand} {p1 : Nat} {assign body : Code} {Q : Exit → Act → World → Prop} {a : Act} {w : World}
    (hro : F.round = none) (h1 : 1 ≤ n) {gf : Nat} {lb : Array Value} (hg : a.eval g = .func (.func gf) #[] lb) (hFg : F.fn gf) (eg : ∀ args w, (callFunc gf args).run P w = .ok (.enter gf args) w)
    {Enc : α → Array Value → (Nat → Prop) → World → Prop} {G Prot : Nat → Prop} {L : List α} {T : World → Prop} {Tx : List α → World → Prop} {w0 : World} (hseq : SeqC F (n - 1) P gf lb Enc G Prot L T Tx w0)
    (hb0 : Below w0.heap.size w0 w) (hps : ∀ x vals C W, Enc x vals C W → ∃ v, vals = #[v]) (hProt : ∀ k, Prot k → k < w.heap.size)
    (hEnc : ∀ x vals (C C' : Nat → Prop) W l o o', W.heap[l]? = some o → o.isCells = false → (∀ k, C k → C' k) → Enc x vals C' W → Enc x vals C (W.putObj l o'))
    (hT : ∀ W l o o', w.heap.size ≤ l → W.heap[l]? = some o → o.isCells = false → T W → T (W.putObj l o')) (hTx : ∀ pre W l o o', w.heap.size ≤ l → W.heap[l]? = some o → o.isCells = false → Tx pre W → Tx pre (W.putObj l o'))
    (C0 : Nat → Prop) (hC0 : ∀ k, C0 k → k < w.heap.size ∧ ¬ Prot k) (post : Value → Array Value → Array Value)
    (I : List α → (Nat → Prop) → World → Prop) (Ix : Code → List α → (Nat → Prop) → World → Prop) (hI : AbidesC w.heap.size G I) (hIx : ∀ c, AbidesC w.heap.size G (Ix c)) (h0 : I [] C0 w)
    (hassign : ∀ (l : Nat) (x : α) (v : Value) (C : Nat → Prop) (W : World) (K : Act → World → Prop), Enc x #[v] C W → K { tmps := post v (a.tmps.setIfInBounds p1 v), defers := [] } W →
      assign.wpIn (F.inRound l) (n - 1 - 1) P (Exit.then K (fun _ _ _ => False)) { tmps := a.tmps.setIfInBounds p1 v, defers := [] } W)
    (hbody : ∀ (l : Nat) (pre : List α) (x : α) (v : Value) (C : Nat → Prop) (W : World), (∃ r, W.heap[l]? = some (.loop r)) → I pre C W → Enc x #[v] C W → (∀ k, C k → k < W.heap.size) → w.heap.size ≤ W.heap.size → pre ++ [x] <+: L →
      body.wpIn (F.inRound l) (n - 1 - 1) P (postC I Ix C (pre ++ [x]) W) { tmps := post v (a.tmps.setIfInBounds p1 v), defers := [] } W)
    (hdone : ∀ (D : Nat) (C : Nat → Prop) (W : World), w.heap.size ≤ D → ¬ C D → I L C W → T W → W.heap[D]? = some (.deferred (some [])) → Q .normal { a with defers := { target := .collected D, args := #[] } :: a.defers } W)
    (hstop : ∀ (D : Nat) (c : Code) (pre : List α) (C : Nat → Prop) (W : World), w.heap.size ≤ D → ¬ C D → pre <+: L → Ix c pre C W → Tx pre W → W.heap[D]? = some (.deferred (some [])) → c.wpIn F n P Q { a with defers := { target := .collected D, args := #[] } :: a.defers } W) :
    (Code.rangeFunc g #[p1] assign body).wpIn F n P Q a w :=
  wpIn_rangeC hro h1 hg hFg eg hseq hb0 (fun x vals C W h => by obtain ⟨v, rfl⟩ := hps x vals C W h; rfl) hProt hEnc hT hTx C0 hC0 I Ix hI hIx h0
    (fun _ vals => { tmps := post (vals.getD 0 undef) (a.tmps.setIfInBounds p1 (vals.getD 0 undef)), defers := [] })
    (fun l x vals C W K he hK => by obtain ⟨v, rfl⟩ := hps x vals C W he; simpa using hassign l x v C W K he (by simpa using hK))
    (fun l pre x vals C W hl hi he hC hs hp => by obtain ⟨v, rfl⟩ := hps x vals C W he; simpa using hbody l pre x v C W hl hi he hC hs hp) hdone hstop
theorem rangeC2 {α : Type} {g : Operand} {p1 p2 : Nat} {assign body : Code} {Q : Exit → Act → World → Prop} {a : Act} {w : World}
    (hro : F.round = none) (h1 : 1 ≤ n) {gf : Nat} {lb : Array Value} (hg : a.eval g = .func (.func gf) #[] lb) (hFg : F.fn gf) (eg : ∀ args w, (callFunc gf args).run P w = .ok (.enter gf args) w)
    {Enc : α → Array Value → (Nat → Prop) → World → Prop} {G Prot : Nat → Prop} {L : List α} {T : World → Prop} {Tx : List α → World → Prop} {w0 : World} (hseq : SeqC F (n - 1) P gf lb Enc G Prot L T Tx w0)
    (hb0 : Below w0.heap.size w0 w) (hps : ∀ x vals C W, Enc x vals C W → ∃ v u, vals = #[v, u]) (hProt : ∀ k, Prot k → k < w.heap.size)
    (hEnc : ∀ x vals (C C' : Nat → Prop) W l o o', W.heap[l]? = some o → o.isCells = false → (∀ k, C k → C' k) → Enc x vals C' W → Enc x vals C (W.putObj l o'))
    (hT : ∀ W l o o', w.heap.size ≤ l → W.heap[l]? = some o → o.isCells = false → T W → T (W.putObj l o')) (hTx : ∀ pre W l o o', w.heap.size ≤ l → W.heap[l]? = some o → o.isCells = false → Tx pre W → Tx pre (W.putObj l o'))
    (C0 : Nat → Prop) (hC0 : ∀ k, C0 k → k < w.heap.size ∧ ¬ Prot k) (post : Value → Value → Array Value → Array Value)
    (I : List α → (Nat → Prop) → World → Prop) (Ix : Code → List α → (Nat → Prop) → World → Prop) (hI : AbidesC w.heap.size G I) (hIx : ∀ c, AbidesC w.heap.size G (Ix c)) (h0 : I [] C0 w)
    (hassign : ∀ (l : Nat) (x : α) (v u : Value) (C : Nat → Prop) (W : World) (K : Act → World → Prop), Enc x #[v, u] C W → K { tmps := post v u ((a.tmps.setIfInBounds p1 v).setIfInBounds p2 u), defers := [] } W →
      assign.wpIn (F.inRound l) (n - 1 - 1) P (Exit.then K (fun _ _ _ => False)) { tmps := (a.tmps.setIfInBounds p1 v).setIfInBounds p2 u, defers := [] } W)
    (hbody : ∀ (l : Nat) (pre : List α) (x : α) (v u : Value) (C : Nat → Prop) (W : World), (∃ r, W.heap[l]? = some (.loop r)) → I pre C W → Enc x #[v, u] C W → (∀ k, C k → k < W.heap.size) → w.heap.size ≤ W.heap.size → pre ++ [x] <+: L →
      body.wpIn (F.inRound l) (n - 1 - 1) P (postC I Ix C (pre ++ [x]) W) { tmps := post v u ((a.tmps.setIfInBounds p1 v).setIfInBounds p2 u), defers := [] } W)
    (hdone : ∀ (D : Nat) (C : Nat → Prop) (W : World), w.heap.size ≤ D → ¬ C D → I L C W → T W → W.heap[D]? = some (.deferred (some [])) → Q .normal { a with defers := { target := .collected D, args := #[] } :: a.defers } W)
    (hstop : ∀ (D : Nat) (c : Code) (pre : List α) (C : Nat → Prop) (W : World), w.heap.size ≤ D → ¬ C D → pre <+: L → Ix c pre C W → Tx pre W → W.heap[D]? = some (.deferred (some [])) → c.wpIn F n P Q { a with defers := { target := .collected D, args := #[] } :: a.defers } W) :
    (Code.rangeFunc g #[p1, p2] assign body).wpIn F n P Q a w :=
  wpIn_rangeC hro h1 hg hFg eg hseq hb0 (fun x vals C W h => by obtain ⟨v, u, rfl⟩ := hps x vals C W h; rfl) hProt hEnc hT hTx C0 hC0 I Ix hI hIx h0
    (fun _ vals => { tmps := post (vals.getD 0 undef) (vals.getD 1 undef) ((a.tmps.setIfInBounds p1 (vals.getD 0 undef)).setIfInBounds p2 (vals.getD 1 undef)), defers := [] })
    (fun l x vals C W K he hK => by obtain ⟨v, u, rfl⟩ := hps x vals C W he; simpa using hassign l x v u C W K he (by simpa using hK))
    (fun l pre x vals C W hl hi he hC hs hp => by obtain ⟨v, u, rfl⟩ := hps x vals C W he; simpa using hbody l pre x v u C W hl hi he hC hs hp) hdone hstop
end Go.Proofs.Ytkgdcglnkodgnaa
