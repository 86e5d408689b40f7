/-
  A tree built: pairs cut into nodes, levels laid, as plain functions; what was laid reads. No condition but sizes.
-/
import Derived.Test.YtkgdcglnkodgnaaTreeA
import Derived.Test.YtkgdcglnkodgnaaLaw19
namespace Go.Proofs.Ytkgdcglnkodgnaa
open Go.RowKit
def pairsB (l : List Kp) : List UInt8 := l.flatMap pairB
theorem pairsB_append (l k : List Kp) : pairsB (l ++ k) = pairsB l ++ pairsB k := by simp [pairsB]
theorem pairsB_one (p : Kp) : pairsB [p] = pairB p := by simp [pairsB]
theorem pairB_len (p : Kp) (h : OkP p) : 0 < (pairB p).length ∧ (pairB p).length ≤ 70 := by
  obtain ⟨h1, h2, h3⟩ := h
  have e : p.1.data.toList.length = p.1.size := by rw [Array.length_toList]; rfl
  have a1 := putU_length_le p.1.size 1 (by omega) (by omega)
  have a2 := putU_length_le p.2.toNat 5 (by omega) (by omega)
  have a3 := putU_posK p.1.size
  unfold pairB
  simp only [List.length_append, e]
  omega
/-- Pairs cut into nodes: a node takes pairs as long as its data have room. -/
def chunkK : Nat → List Kp → List Kp → List (List Kp)
  | _, cur, [] => [cur]
  | n, cur, p :: r => if cur ≠ [] ∧ 246 < n + (pairB p).length then cur :: chunkK (1 + (pairB p).length) [p] r else chunkK (n + (pairB p).length) (cur ++ [p]) r
def chunks (l : List Kp) : List (List Kp) := chunkK 1 [] l
theorem chunkK_flat : ∀ (n : Nat) (cur l : List Kp), (chunkK n cur l).flatten = cur ++ l
  | _, cur, [] => by simp [chunkK]
  | n, cur, p :: r => by
    unfold chunkK
    split
    · rw [List.flatten_cons, chunkK_flat]; simp
    · rw [chunkK_flat]; simp
theorem chunkK_pos (n : Nat) (cur l : List Kp) : 0 < (chunkK n cur l).length := by
  induction l generalizing n cur with
  | nil => simp [chunkK]
  | cons p r ih => unfold chunkK; split <;> simp [ih]
theorem chunkK_ne : ∀ (n : Nat) (cur l : List Kp), (cur ≠ [] ∨ l ≠ []) → ∀ c ∈ chunkK n cur l, c ≠ []
  | _, cur, [], h, c, hc => by
    simp [chunkK] at hc; subst hc
    rcases h with h | h
    · exact h
    · exact absurd rfl h
  | n, cur, p :: r, h, c, hc => by
    unfold chunkK at hc
    split at hc
    · rename_i h1
      rcases List.mem_cons.1 hc with rfl | hc
      · exact h1.1
      · exact chunkK_ne _ _ r (.inl (by simp)) c hc
    · exact chunkK_ne _ _ r (.inl (by simp)) c hc
theorem chunkK_room : ∀ (n : Nat) (cur l : List Kp), n = 1 + (pairsB cur).length → n ≤ 246 → (∀ p ∈ l, OkP p) → ∀ c ∈ chunkK n cur l, 1 + (pairsB c).length ≤ 246
  | n, cur, [], hn, h, _, c, hc => by simp [chunkK] at hc; subst hc; omega
  | n, cur, p :: r, hn, h, hl, c, hc => by
    have hp := pairB_len p (hl p (by simp))
    unfold chunkK at hc
    split at hc
    · rcases List.mem_cons.1 hc with rfl | hc
      · omega
      · exact chunkK_room _ _ r (by rw [pairsB_one]) (by omega) (fun q hq => hl q (by simp [hq])) c hc
    · rename_i h1
      refine chunkK_room _ _ r (by rw [pairsB_append, pairsB_one, List.length_append]; omega) ?_ (fun q hq => hl q (by simp [hq])) c hc
      by_cases hc0 : cur = []
      · subst hc0; simp [pairsB] at hn; omega
      · simp only [ne_eq, hc0, not_false_eq_true, true_and] at h1; omega
theorem pairsB_le (l : List Kp) (h : ∀ p ∈ l, OkP p) : (pairsB l).length ≤ 70 * l.length := by
  induction l with
  | nil => simp [pairsB]
  | cons p r ih =>
    have h1 := pairB_len p (h p (by simp))
    have h2 := ih fun q hq => h q (by simp [hq])
    have e : pairsB (p :: r) = pairB p ++ pairsB r := by simp [pairsB]
    rw [e, List.length_append, List.length_cons]
    omega
theorem chunkK_few : ∀ (n : Nat) (cur l : List Kp), n = 1 + (pairsB cur).length → (∀ p ∈ cur, OkP p) → (∀ p ∈ l, OkP p) → (cur ≠ [] ∨ l ≠ []) → 3 * (chunkK n cur l).length ≤ cur.length + l.length + 2
  | n, cur, [], hn, _, _, h => by
    have : 0 < cur.length := by
      cases cur with
      | nil => rcases h with h | h <;> exact absurd rfl h
      | cons _ _ => simp
    simp [chunkK]; omega
  | n, cur, p :: r, hn, hc, hl, h => by
    have hp := pairB_len p (hl p (by simp))
    have hcl := pairsB_le cur hc
    unfold chunkK
    split
    · rename_i h1
      have ih := chunkK_few (1 + (pairB p).length) [p] r (by rw [pairsB_one]) (by simp; exact hl p (by simp)) (fun q hq => hl q (by simp [hq])) (.inl (by simp))
      simp only [List.length_cons, List.length_nil] at ih ⊢
      omega
    · have ih := chunkK_few (n + (pairB p).length) (cur ++ [p]) r (by rw [pairsB_append, pairsB_one, List.length_append]; omega)
        (fun q hq => by
          rcases List.mem_append.1 hq with h1 | h1
          · exact hc q h1
          · simp at h1; subst h1; exact hl q (by simp)) (fun q hq => hl q (by simp [hq])) (.inl (by simp))
      simp only [List.length_cons, List.length_append, List.length_nil] at ih ⊢
      omega
/-- A level laid: nodes from a page's number on; the nodes as pairs. -/
def layK (kind : UInt8) (n : UInt8) : Int → List (List Kp) → List UInt8 × List Kp × Nat
  | _, [] => ([], [], 0)
  | next, c :: r =>
    if next < 0 ∨ 16384 ≤ next then ([], [], 1)
    else (mkPage kind next.toNat (n :: pairsB c) ++ (layK kind n (next + 1) r).1, (headK c, next) :: (layK kind n (next + 1) r).2.1, (layK kind n (next + 1) r).2.2)
/-- Levels laid, one above the other. -/
def upK (kind : UInt8) : Nat → Int → Nat → List Kp → List UInt8 → List UInt8 × Int × Nat
  | 0, _, _, _, _ => ([], 0, 1)
  | f + 1, next, level, l, acc =>
    if (layK kind (UInt8.ofNat level) next (chunks l)).2.2 ≠ 0 then ([], 0, (layK kind (UInt8.ofNat level) next (chunks l)).2.2)
    else if (chunks l).length < 2 then (acc ++ (layK kind (UInt8.ofNat level) next (chunks l)).1, next + (chunks l).length, 0)
    else upK kind f (next + (chunks l).length) (level + 1) (layK kind (UInt8.ofNat level) next (chunks l)).2.1 (acc ++ (layK kind (UInt8.ofNat level) next (chunks l)).1)
/-- The first pair that is refused. -/
def notAhead (prev : Option ByteArray) (k : ByteArray) : Bool := match prev with | none => false | some q => leK k q
def badK : Option ByteArray → List Kp → Nat
  | _, [] => 0
  | prev, p :: r => if 64 < p.1.size ∨ notAhead prev p.1 = true then 200 else if p.2 < 0 ∨ 2147483647 < p.2 then 201 else badK (some p.1) r
/-- A tree built: its pages, its root, how many pages, the error. -/
def buildK (kind : UInt8) (first : Int) (l : List Kp) : List UInt8 × Int × Int × Nat :=
  if 20000 < l.length then ([], 0, 0, 2)
  else if badK none l ≠ 0 then ([], 0, 0, badK none l)
  else if (upK kind (l.length + 1) first 0 l []).2.2 ≠ 0 then ([], 0, 0, (upK kind (l.length + 1) first 0 l []).2.2)
  else ((upK kind (l.length + 1) first 0 l []).1, (upK kind (l.length + 1) first 0 l []).2.1 - 1, (upK kind (l.length + 1) first 0 l []).2.1 - first, 0)
theorem badK_ok : ∀ (prev : Option ByteArray) (l : List Kp), badK prev l = 0 → SortK l ∧ (∀ p ∈ l, OkP p) ∧ (∀ k, prev = some k → ∀ p ∈ l, ltK k p.1 = true)
  | _, [], _ => ⟨by simp [SortK], by simp, by simp⟩
  | prev, p :: r, h => by
    rw [badK] at h
    by_cases h1 : 64 < p.1.size ∨ notAhead prev p.1 = true
    · rw [if_pos h1] at h; cases h
    · rw [if_neg h1] at h
      by_cases h2 : p.2 < 0 ∨ 2147483647 < p.2
      · rw [if_pos h2] at h; cases h
      · rw [if_neg h2] at h
        simp only [not_or, Bool.not_eq_true] at h1
        obtain ⟨h3, h4⟩ := h1
        have ih := badK_ok (some p.1) r h
        refine ⟨?_, ?_, ?_⟩
        · unfold SortK
          rw [List.pairwise_cons]
          exact ⟨fun q hq => ih.2.2 p.1 rfl q hq, ih.1⟩
        · intro q hq
          rcases List.mem_cons.1 hq with rfl | hq
          · exact ⟨by omega, by omega, by omega⟩
          · exact ih.2.1 q hq
        · rintro k rfl q hq
          have hkp : ltK k p.1 = true := by rw [notAhead, leK_not] at h4; simpa using h4
          rcases List.mem_cons.1 hq with rfl | hq
          · exact hkp
          · exact ltK_trans hkp (ih.2.2 p.1 rfl q hq)
/-! What was laid reads. -/
theorem uintC_put (pre r : List UInt8) (n : Nat) (hn : n < 18446744073709551616) :
    uintC ⟨pre ++ (putU n ++ r), pre.length, 0⟩ = (n, ⟨pre ++ (putU n ++ r), pre.length + (putU n).length, 0⟩) := by
  have h := numU_put n 0 0 r (by omega) (.inl rfl)
  unfold uintC
  simp only [List.drop_left, h]
  simp
theorem bytesC_put (pre r d : List UInt8) (lim : Nat) (hd : d.length ≤ lim) (hl : d.length < 18446744073709551616) :
    bytesC ⟨pre ++ (putU d.length ++ d ++ r), pre.length, 0⟩ lim = (d, ⟨pre ++ (putU d.length ++ d ++ r), pre.length + (putU d.length).length + d.length, 0⟩) := by
  have h := uintC_put pre (d ++ r) d.length hl
  rw [← List.append_assoc (putU d.length) d r] at h
  unfold bytesC
  rw [h]
  simp only
  rw [if_neg (by simp), if_neg (by omega), if_neg (by simp only [List.length_append]; omega)]
  unfold takeC
  simp only
  rw [if_neg (by simp), if_neg (by omega), if_neg (by simp only [List.length_append]; omega)]
  have e1 : (pre ++ (putU d.length ++ d ++ r)).drop (pre.length + (putU d.length).length) = d ++ r := by
    rw [← List.drop_drop, List.drop_left, List.append_assoc, List.drop_left]
  rw [e1, Int.toNat_natCast, List.take_left]
theorem key_list (k : ByteArray) : (⟨k.data.toList.toArray⟩ : ByteArray) = k := rfl
theorem pairC_put (pre r : List UInt8) (p : Kp) (h : OkP p) :
    pairC ⟨pre ++ (pairB p ++ r), pre.length, 0⟩ = (p.1.data.toList, p.2.toNat, ⟨pre ++ (pairB p ++ r), pre.length + (pairB p).length, 0⟩) := by
  obtain ⟨h1, h2, h3⟩ := h
  have hs : p.1.data.toList.length = p.1.size := by rw [Array.length_toList]; rfl
  have hb := bytesC_put pre (putU p.2.toNat ++ r) p.1.data.toList 64 (by omega) (by omega)
  have e0 : pre ++ (pairB p ++ r) = pre ++ (putU p.1.data.toList.length ++ p.1.data.toList ++ (putU p.2.toNat ++ r)) := by
    rw [hs]; unfold pairB; simp only [List.append_assoc]
  have hu := uintC_put (pre ++ putU p.1.data.toList.length ++ p.1.data.toList) r p.2.toNat (by omega)
  have e1 : pre ++ putU p.1.data.toList.length ++ p.1.data.toList ++ (putU p.2.toNat ++ r) = pre ++ (putU p.1.data.toList.length ++ p.1.data.toList ++ (putU p.2.toNat ++ r)) := by simp only [List.append_assoc]
  rw [e1] at hu
  simp only [List.length_append] at hu
  unfold pairC
  rw [e0, hb]
  simp only
  rw [hu]
  simp only [Prod.mk.injEq, true_and]
  unfold pairB
  simp only [List.length_append, hs]
  congr 1
  omega
theorem pairsN_put : ∀ (l acc : List Kp) (f : Nat) (pre : List UInt8), l.length ≤ f → SortK (acc ++ l) → (∀ p ∈ l, OkP p) → pairsN f ⟨pre ++ pairsB l, pre.length, 0⟩ acc = (0, acc ++ l)
  | [], acc, f, pre, _, _, _ => by rw [pairsN_done _ _ _ (by simp [pairsB]), List.append_nil]
  | p :: r, acc, 0, pre, hf, _, _ => by simp at hf
  | p :: r, acc, f + 1, pre, hf, hs, hl => by
    have hp := hl p (by simp)
    have hpl := pairB_len p hp
    have e : pairsB (p :: r) = pairB p ++ pairsB r := by simp [pairsB]
    have hc := pairC_put pre (pairsB r) p hp
    rw [e, pairsN, hc]
    have hb : badPair acc (p.1.data.toList, p.2.toNat, ⟨pre ++ (pairB p ++ pairsB r), pre.length + (pairB p).length, 0⟩) = false := by
      unfold badPair
      simp only [ne_eq, not_true_eq_false, false_or]
      have h1 : ¬ 2147483647 < p.2.toNat := by have := hp.2.2; omega
      rw [decide_eq_false h1, Bool.false_or]
      cases hacc : decide (0 < acc.length)
      · rfl
      · rw [Bool.true_and, key_list, leK_not]
        have hne : acc ≠ [] := fun e => by simp [e] at hacc
        obtain ⟨q, k, rfl⟩ : ∃ q k, acc = q ++ [k] := snoc_of_ne hne
        rw [lastKey_snoc]
        have := (List.pairwise_append.1 hs).2.2 k (by simp) p (by simp)
        rw [this]; rfl
    rw [if_neg (by simp only [List.length_append]; omega), if_neg (by rw [hb]; simp)]
    have hz : (((p.2.toNat : Nat) : Int)) = p.2 := by have := hp.2.1; omega
    have ih := pairsN_put r (acc ++ [p]) f (pre ++ pairB p) (by simpa using hf) (by simpa using hs) (fun q hq => hl q (by simp [hq]))
    simp only [List.length_append, List.append_assoc, List.cons_append, List.nil_append] at ih
    rw [hz]
    exact ih
/-- A node's data read. -/
theorem readN_put (n : Nat) (l : List Kp) (level : Int) (hn : n ≤ 12) (hs : SortK l) (hl : ∀ p ∈ l, OkP p) (hlev : level = -1 ∨ level = n) (hne : l ≠ [] ∨ (level = -1 ∧ n = 0)) :
    readN (UInt8.ofNat n :: pairsB l) level = (0, (n : Int), l) := by
  have ht : takeC ⟨UInt8.ofNat n :: pairsB l, 0, 0⟩ 1 = ([UInt8.ofNat n], ⟨UInt8.ofNat n :: pairsB l, 1, 0⟩) := by
    unfold takeC
    simp only
    rw [if_neg (by simp), if_neg (by omega), if_neg (by simp only [List.length_cons]; omega)]
    simp
  have hv : leN [UInt8.ofNat n] = n := by simp [leN]; omega
  have hpl : l.length ≤ (UInt8.ofNat n :: pairsB l).length := by
    have : ∀ l : List Kp, (∀ p ∈ l, OkP p) → l.length ≤ (pairsB l).length := by
      intro l
      induction l with
      | nil => intro _; simp
      | cons p r ih =>
        intro h
        have h1 := pairB_len p (h p (by simp))
        have h2 := ih fun q hq => h q (by simp [hq])
        have e : pairsB (p :: r) = pairB p ++ pairsB r := by simp [pairsB]
        rw [e, List.length_append, List.length_cons]
        omega
    have := this l hl
    simp only [List.length_cons]; omega
  have hp := pairsN_put l [] (UInt8.ofNat n :: pairsB l).length [UInt8.ofNat n] hpl (by simpa using hs) hl
  simp only [List.cons_append, List.nil_append, List.length_cons, List.length_nil, Nat.zero_add] at hp
  unfold readN
  rw [ht]
  simp only [hv]
  rw [if_neg (by omega)]
  simp only [List.length_cons]
  rw [hp]
  simp only
  rw [if_neg (by simp)]
  rw [if_neg]
  rintro ⟨h1, h2⟩
  rcases hne with h3 | h3
  · exact h3 h1
  · exact h2 h3
end Go.Proofs.Ytkgdcglnkodgnaa
