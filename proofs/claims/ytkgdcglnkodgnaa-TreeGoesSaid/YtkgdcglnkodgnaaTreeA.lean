/-
  Trees of pairs: the order of keys; a node read, a key found, leaves walked, a tree checked, as plain functions; what a node that was read keeps. No condition.
-/
import Derived.Test.YtkgdcglnkodgnaaBehind
import Derived.Test.YtkgdcglnkodgnaaBytes
import Derived.Test.YtkgdcglnkodgnaaAt
namespace Go.Proofs.Ytkgdcglnkodgnaa
open Go.RowKit
/-! The order of keys. -/
theorem bl_irrefl : ∀ (x : List UInt8), Op.bytesLess x x = false
  | [] => rfl
  | a :: x => by
    unfold Op.bytesLess
    rw [bl_irrefl x]
    simp
theorem bl_trans : ∀ (x y z : List UInt8), Op.bytesLess x y = true → Op.bytesLess y z = true → Op.bytesLess x z = true
  | [], [], _, h, _ => by simp [Op.bytesLess] at h
  | _ :: _, [], _, h, _ => by simp [Op.bytesLess] at h
  | [], _ :: _, [], _, h => by simp [Op.bytesLess] at h
  | [], _ :: _, _ :: _, _, _ => by simp [Op.bytesLess]
  | _ :: _, _ :: _, [], _, h => by simp [Op.bytesLess] at h
  | a :: x, b :: y, c :: z, h, k => by
    unfold Op.bytesLess at h k ⊢
    simp only [Bool.or_eq_true, decide_eq_true_eq, Bool.and_eq_true, beq_iff_eq] at h k ⊢
    rcases h with h | ⟨rfl, h⟩
    · rcases k with k | ⟨rfl, k⟩
      · exact .inl (UInt8.lt_trans h k)
      · exact .inl h
    · rcases k with k | ⟨rfl, k⟩
      · exact .inl k
      · exact .inr ⟨rfl, bl_trans x y z h k⟩
theorem bl_total : ∀ (x y : List UInt8), Op.bytesLess x y = false → x ≠ y → Op.bytesLess y x = true
  | [], [], _, h => absurd rfl h
  | _ :: _, [], _, _ => by simp [Op.bytesLess]
  | [], _ :: _, h, _ => by simp [Op.bytesLess] at h
  | a :: x, b :: y, h, k => by
    unfold Op.bytesLess at h ⊢
    simp only [Bool.or_eq_false_iff, decide_eq_false_iff_not, Bool.and_eq_false_imp, beq_iff_eq] at h
    simp only [Bool.or_eq_true, decide_eq_true_eq, Bool.and_eq_true, beq_iff_eq]
    by_cases hab : a = b
    · subst hab
      exact .inr ⟨rfl, bl_total x y (h.2 rfl) (fun e => k (by rw [e]))⟩
    · left
      rcases UInt8.lt_or_lt_of_ne hab with h1 | h1
      · exact absurd h1 h.1
      · exact h1
theorem key_ext {a b : ByteArray} (h : a.toList = b.toList) : a = b := by
  rw [ByteArray.toList_eq, ByteArray.toList_eq] at h
  exact ByteArray.ext (Array.ext' h)
theorem ltK_irrefl (a : ByteArray) : ltK a a = false := bl_irrefl _
theorem ltK_trans {a b c : ByteArray} (h : ltK a b = true) (k : ltK b c = true) : ltK a c = true := bl_trans _ _ _ h k
theorem ltK_total {a b : ByteArray} (h : ltK a b = false) (hne : a ≠ b) : ltK b a = true := bl_total _ _ h fun e => hne (key_ext e)
theorem leK_not (a b : ByteArray) : leK a b = !(ltK b a) := by
  by_cases hab : a = b
  · subst hab
    simp [leK, ltK_irrefl]
  · have hne : (a.toList == b.toList) = false := by
      rw [beq_eq_false_iff_ne]
      exact fun e => hab (key_ext e)
    show (ltK a b || (a.toList == b.toList)) = _
    rw [hne, Bool.or_false]
    cases h1 : ltK a b
    · rw [ltK_total h1 hab]; rfl
    · cases h2 : ltK b a
      · rfl
      · have := ltK_trans h1 h2
        rw [ltK_irrefl] at this
        cases this
theorem leK_refl (a : ByteArray) : leK a a = true := by rw [leK_not, ltK_irrefl]; rfl
theorem leK_of_lt {a b : ByteArray} (h : ltK a b = true) : leK a b = true := by
  show (ltK a b || _) = true
  rw [h]; rfl
theorem lt_of_le_lt {a b c : ByteArray} (h : leK a b = true) (k : ltK b c = true) : ltK a c = true := by
  rcases Bool.or_eq_true _ _ ▸ (show (ltK a b || (a.toList == b.toList)) = true from h) with h | h
  · exact ltK_trans h k
  · have := key_ext (beq_iff_eq.1 h); subst this; exact k
theorem lt_of_lt_le {a b c : ByteArray} (h : ltK a b = true) (k : leK b c = true) : ltK a c = true := by
  rcases Bool.or_eq_true _ _ ▸ (show (ltK b c || (b.toList == c.toList)) = true from k) with k | k
  · exact ltK_trans h k
  · have := key_ext (beq_iff_eq.1 k); subst this; exact h
theorem leK_trans {a b c : ByteArray} (h : leK a b = true) (k : leK b c = true) : leK a c = true := by
  rcases Bool.or_eq_true _ _ ▸ (show (ltK a b || (a.toList == b.toList)) = true from h) with h | h
  · exact leK_of_lt (lt_of_lt_le h k)
  · have := key_ext (beq_iff_eq.1 h); subst this; exact k
theorem not_lt_le {a b : ByteArray} (h : ltK a b = true) (k : leK b a = true) : False := by
  rw [leK_not, h] at k; cases k
/-- Keys rise. -/
def SortK (l : List Kp) : Prop := l.Pairwise fun p q => ltK p.1 q.1 = true
/-! A node. -/
theorem readP_len (b : List UInt8) (number : Int) : (readP b number).2.1.length ≤ b.length := by
  unfold readP
  split
  · simp
  · split
    · simp
    · split
      · simp
      · split
        · simp
        · simp [List.length_take]; omega
theorem atP_len (b : List UInt8) (number : Int) (kind : UInt8) : (atP b number kind).1.length ≤ 256 := by
  have h := readP_len ((b.drop (256 * number.toNat)).take 256) number
  rw [List.length_take] at h
  unfold atP
  split
  · simp
  · split
    · simp
    · split
      · simp
      · split
        · simp
        · simp only; omega
def lastKey (l : List Kp) : ByteArray := (l.getLast?.map (·.1)).getD ⟨#[]⟩
/-- A pair read. -/
def pairC (c : CS) : List UInt8 × Nat × CS := ((bytesC c 64).1, (uintC (bytesC c 64).2).1, (uintC (bytesC c 64).2).2)
/-- Is the pair to be refused? -/
def badPair (acc : List Kp) (r : List UInt8 × Nat × CS) : Bool := decide (r.2.2.err ≠ 0 ∨ 2147483647 < r.2.1) || (decide (0 < acc.length) && leK ⟨r.1.toArray⟩ (lastKey acc))
/-- The pairs of a node. -/
def pairsN : Nat → CS → List Kp → Nat × List Kp
  | 0, _, acc => (0, acc)
  | f + 1, c, acc =>
    if c.l.length ≤ c.at' then (0, acc)
    else if badPair acc (pairC c) = true then (202, [])
    else pairsN f (pairC c).2.2 (acc ++ [(⟨(pairC c).1.toArray⟩, ((pairC c).2.1 : Int))])
def readN (d : List UInt8) (level : Int) : Nat × Int × List Kp :=
  if (takeC ⟨d, 0, 0⟩ 1).2.err ≠ 0 ∨ 12 < leN (takeC ⟨d, 0, 0⟩ 1).1 ∨ (level ≠ -1 ∧ (leN (takeC ⟨d, 0, 0⟩ 1).1 : Int) ≠ level) then (202, 0, [])
  else if (pairsN d.length (takeC ⟨d, 0, 0⟩ 1).2 []).1 ≠ 0 then (202, 0, [])
  else if (pairsN d.length (takeC ⟨d, 0, 0⟩ 1).2 []).2 = [] ∧ ¬ (level = -1 ∧ leN (takeC ⟨d, 0, 0⟩ 1).1 = 0) then (202, 0, [])
  else (0, leN (takeC ⟨d, 0, 0⟩ 1).1, (pairsN d.length (takeC ⟨d, 0, 0⟩ 1).2 []).2)
/-- A node of a book: the error, its level, its pairs. -/
def readK (book : List UInt8) (kind : UInt8) (number level : Int) : Nat × Int × List Kp :=
  if (atP book number kind).2 ≠ 0 then ((atP book number kind).2, 0, []) else readN (atP book number kind).1 level
theorem putU_posK (y : Nat) : 0 < (putU y).length := by
  unfold putU
  split <;> simp
theorem uintC_prog (s : CS) : (uintC s).2.l = s.l ∧ s.at' ≤ (uintC s).2.at' ∧ ((uintC s).2.err = 0 → s.err = 0 ∧ s.at' < (uintC s).2.at') := by
  obtain ⟨x, k, e, hn⟩ : ∃ x k e, numU 0 0 (s.l.drop s.at') = (x, k, e) := ⟨_, _, _, rfl⟩
  unfold uintC
  rw [hn]
  by_cases h1 : s.err ≠ 0
  · rw [if_pos h1]; exact ⟨rfl, Nat.le_refl _, fun e => absurd e h1⟩
  · rw [if_neg h1]
    by_cases h2 : e ≠ 0
    · rw [if_pos h2]; exact ⟨rfl, Nat.le_refl _, fun e => absurd e h2⟩
    · rw [if_neg h2]
      refine ⟨rfl, by simp only; omega, fun _ => ⟨by omega, ?_⟩⟩
      have he : e = 0 := by omega
      subst he
      obtain ⟨n, _, hk, _, _, _, _⟩ := numU_ok _ 0 0 x k hn
      have := putU_posK n
      simp only
      omega
theorem bytesC_prog (s : CS) (lim : Nat) : (bytesC s lim).2.l = s.l ∧ s.at' ≤ (bytesC s lim).2.at' ∧ ((bytesC s lim).2.err = 0 → s.err = 0) := by
  have h := uintC_prog s
  unfold bytesC
  split
  · rename_i h1; exact ⟨h.1, h.2.1, fun e => absurd e h1⟩
  · rename_i h1
    have he : (uintC s).2.err = 0 := by omega
    split
    · exact ⟨rfl, Nat.le_refl _, fun e => by simp at e⟩
    · split
      · exact ⟨rfl, Nat.le_refl _, fun e => by simp at e⟩
      · refine ⟨?_, ?_, fun _ => (h.2.2 he).1⟩
        · unfold takeC
          split
          · exact h.1
          · split
            · exact h.1
            · split
              · exact h.1
              · exact h.1
        · unfold takeC
          split
          · exact h.2.1
          · split
            · exact h.2.1
            · split
              · exact h.2.1
              · simp only; have := h.2.1; omega
theorem bytesC_short (s : CS) (lim : Nat) : (bytesC s lim).1.length ≤ lim := by
  unfold bytesC
  split
  · simp
  · split
    · simp
    · split
      · simp
      · have := takeC_len (uintC s).2 (uintC s).1
        omega
theorem pairC_prog (c : CS) : (pairC c).2.2.l = c.l ∧ ((pairC c).2.2.err = 0 → c.err = 0 ∧ c.at' < (pairC c).2.2.at') := by
  have h1 := bytesC_prog c 64
  have h2 := uintC_prog (bytesC c 64).2
  refine ⟨h2.1.trans h1.1, fun e => ?_⟩
  have h3 := h2.2.2 e
  exact ⟨h1.2.2 h3.1, by have h4 := h1.2.1; have h5 := h3.2; exact Nat.lt_of_le_of_lt h4 h5⟩
theorem pairsN_done (f : Nat) (c : CS) (acc : List Kp) (h : c.l.length ≤ c.at') : pairsN f c acc = (0, acc) := by
  cases f with
  | zero => rfl
  | succ f => rw [pairsN, if_pos h]
/-- What every pair that was read is. -/
def OkP (p : Kp) : Prop := p.1.size ≤ 64 ∧ 0 ≤ p.2 ∧ p.2 ≤ 2147483647
theorem snoc_of_ne {α : Type} {l : List α} (h : l ≠ []) : ∃ r q, l = r ++ [q] := ⟨l.dropLast, l.getLast h, (List.dropLast_concat_getLast h).symm⟩
theorem getLast?_snoc (l : List Kp) (p : Kp) : (l ++ [p]).getLast? = some p := by simp
theorem lastKey_snoc (l : List Kp) (p : Kp) : lastKey (l ++ [p]) = p.1 := by simp [lastKey]
theorem sort_snoc {l : List Kp} {p : Kp} (h : SortK l) (hl : l ≠ [] → ltK (lastKey l) p.1 = true) : SortK (l ++ [p]) := by
  unfold SortK
  rw [List.pairwise_append]
  refine ⟨h, by simp, fun a ha b hb => ?_⟩
  simp at hb; subst hb
  have hne : l ≠ [] := fun e => by rw [e] at ha; cases ha
  have h1 := hl hne
  obtain ⟨r, q, rfl⟩ : ∃ r q, l = r ++ [q] := snoc_of_ne hne
  rw [lastKey_snoc] at h1
  rcases List.mem_append.1 ha with ha | ha
  · exact ltK_trans ((List.pairwise_append.1 h).2.2 a ha q (by simp)) h1
  · simp at ha; subst ha; exact h1
theorem pairsN_ok : ∀ (f : Nat) (c : CS) (acc : List Kp), (pairsN f c acc).1 = 0 → SortK acc → (∀ p ∈ acc, OkP p) → acc.length ≤ c.at' → c.at' ≤ c.l.length →
    SortK (pairsN f c acc).2 ∧ (∀ p ∈ (pairsN f c acc).2, OkP p) ∧ (pairsN f c acc).2.length ≤ max acc.length c.l.length
  | 0, c, acc, _, h1, h2, h3, h4 => ⟨h1, h2, Nat.le_max_left _ _⟩
  | f + 1, c, acc, h0, h1, h2, h3, h4 => by
    rw [pairsN] at h0 ⊢
    by_cases hd : c.l.length ≤ c.at'
    · rw [if_pos hd] at h0 ⊢
      exact ⟨h1, h2, Nat.le_max_left _ _⟩
    · rw [if_neg hd] at h0 ⊢
      by_cases hb : badPair acc (pairC c) = true
      · rw [if_pos hb] at h0; cases h0
      · rw [if_neg hb] at h0 ⊢
        simp only [badPair, Bool.or_eq_true, decide_eq_true_eq, Bool.and_eq_true, not_or, not_and] at hb
        obtain ⟨⟨he, hv⟩, hk⟩ := hb
        have hp := pairC_prog c
        have he0 : (pairC c).2.2.err = 0 := by omega
        have hs : (pairC c).1.length ≤ 64 := bytesC_short c 64
        have hat : (pairC c).2.2.at' ≤ (pairC c).2.2.l.length := by
          have hb := bytesC_prog c 64
          have hbb : (bytesC c 64).2.at' ≤ (bytesC c 64).2.l.length := by
            rw [hb.1]
            have hu := uintC_at c h4
            unfold bytesC
            split
            · rw [← hu.2]; rw [hu.2]; exact hu.1
            · split
              · exact h4
              · split
                · exact h4
                · unfold takeC
                  split
                  · exact hu.1
                  · split
                    · exact hu.1
                    · split
                      · exact hu.1
                      · rename_i h5 h6 h7 h8
                        simp only [hu.2] at h8 ⊢
                        omega
          have h5 := uintC_at (bytesC c 64).2 hbb
          show (uintC (bytesC c 64).2).2.at' ≤ (uintC (bytesC c 64).2).2.l.length
          rw [h5.2]; exact h5.1
        have ih := pairsN_ok f (pairC c).2.2 (acc ++ [(⟨(pairC c).1.toArray⟩, ((pairC c).2.1 : Int))]) h0 ?_ ?_ ?_ hat
        · refine ⟨ih.1, ih.2.1, ?_⟩
          have h6 := ih.2.2
          rw [hp.1] at h6
          simp only [List.length_append, List.length_cons, List.length_nil] at h6
          omega
        · refine sort_snoc h1 fun hne => ?_
          have hl : 0 < acc.length := by
            cases acc with
            | nil => exact absurd rfl hne
            | cons _ _ => simp
          have h7 := hk hl
          rw [Bool.not_eq_true, leK_not] at h7
          simpa using h7
        · intro p hp'
          rcases List.mem_append.1 hp' with h8 | h8
          · exact h2 p h8
          · simp at h8; subst h8
            refine ⟨?_, by simp, by simp only; omega⟩
            show (pairC c).1.toArray.size ≤ 64
            simpa using hs
        · have := (hp.2 he0).2
          simp only [List.length_append, List.length_cons, List.length_nil]
          omega
/-- What a node that was read keeps. -/
theorem readK_ok {b : List UInt8} {kind : UInt8} {number level n : Int} {l : List Kp} (h : readK b kind number level = (0, n, l)) :
    0 ≤ n ∧ n ≤ 12 ∧ (level = -1 ∨ n = level) ∧ SortK l ∧ (∀ p ∈ l, OkP p) ∧ (l = [] → level = -1 ∧ n = 0) ∧ l.length ≤ 256 := by
  unfold readK at h
  split at h
  · rename_i h1; injection h with h _; exact absurd h h1
  · have hd := atP_len b number kind
    generalize (atP b number kind).1 = d at h hd
    unfold readN at h
    split at h
    · cases h
    · rename_i h1
      split at h
      · cases h
      · rename_i h2
        split at h
        · cases h
        · rename_i h3
          simp only [not_or, not_and] at h1
          obtain ⟨h4, h5, h6⟩ := h1
          injection h with _ h
          injection h with hn hl
          have hc : (takeC ⟨d, 0, 0⟩ 1).2.l = d ∧ (takeC ⟨d, 0, 0⟩ 1).2.at' ≤ d.length := by
            unfold takeC
            split
            · exact ⟨rfl, Nat.zero_le _⟩
            · split
              · exact ⟨rfl, Nat.zero_le _⟩
              · split
                · exact ⟨rfl, Nat.zero_le _⟩
                · rename_i h9
                  simp only at h9 ⊢
                  exact ⟨trivial, by omega⟩
          have hp := pairsN_ok d.length (takeC ⟨d, 0, 0⟩ 1).2 [] (by omega) (by simp [SortK]) (by simp) (Nat.zero_le _) (by rw [hc.1]; exact hc.2)
          rw [hl] at hp
          rw [← hn]
          refine ⟨by omega, by omega, ?_, hp.1, hp.2.1, ?_, ?_⟩
          · by_cases hm : level = -1
            · exact .inl hm
            · right
              have := h6 hm
              omega
          · intro he
            have h9 : level = -1 ∧ leN (takeC ⟨d, 0, 0⟩ 1).1 = 0 := Decidable.byContradiction fun hc => h3 ⟨by rw [hl]; exact he, hc⟩
            exact ⟨h9.1, by rw [h9.2]; rfl⟩
          · have h6 := hp.2.2
            rw [hc.1] at h6
            simp at h6
            omega
theorem readK_level {b : List UInt8} {kind : UInt8} {number level n : Int} {l : List Kp} (h : readK b kind number level = (0, n, l)) (hl : l ≠ []) {level' : Int} (h' : level' = -1 ∨ level' = n) :
    readK b kind number level' = (0, n, l) := by
  unfold readK at h ⊢
  split at h
  · rename_i h1; injection h with h _; exact absurd h h1
  · rename_i h0
    rw [if_neg h0]
    generalize (atP b number kind).1 = d at h
    unfold readN at h ⊢
    split at h
    · cases h
    · rename_i h1
      split at h
      · cases h
      · rename_i h2
        split at h
        · cases h
        · rename_i h3
          injection h with _ h
          injection h with hn hl'
          simp only [not_or, not_and] at h1
          rw [if_neg (by omega), if_neg h2, if_neg (by rw [hl']; exact fun e => hl e.1), hn, hl']
/-! A key found. -/
def findK (b : List UInt8) (kind : UInt8) (key : ByteArray) : Nat → Int → Int → Int × Bool × Nat
  | 0, _, _ => (0, false, 0)
  | f + 1, number, level =>
    if (readK b kind number level).1 ≠ 0 then (0, false, (readK b kind number level).1)
    else match (readK b kind number level).2.2[behindK key (readK b kind number level).2.2 - 1]? with
      | none => (0, false, 0)
      | some p =>
        if behindK key (readK b kind number level).2.2 = 0 then (0, false, 0)
        else if (readK b kind number level).2.1 = 0 then (if p.1 = key then (p.2, true, 0) else (0, false, 0))
        else findK b kind key f p.2 ((readK b kind number level).2.1 - 1)
/-! Leaves. -/
/-- A walk's state: how many leaves were read, the last key. -/
abbrev Wk := Nat × ByteArray
/-- Is a leaf's first key not behind the last key of the leaf ahead? -/
def headLe (l : List Kp) (k : ByteArray) : Bool := match l with | [] => false | p :: _ => leK p.1 k
def lastD (l : List Kp) (k : ByteArray) : ByteArray := if l = [] then k else lastKey l
/-- What a walk answers: the leaves, its state, the error. -/
abbrev WR := List (List Kp) × Wk × Nat
def overL (g : Int → Bool → Wk → WR) : Bool → List Kp → Wk → WR
  | _, [], s => ([], s, 0)
  | edge, p :: r, s =>
    if (g p.2 edge s).2.2 ≠ 0 then g p.2 edge s
    else ((g p.2 edge s).1 ++ (overL g false r (g p.2 edge s).2.1).1, (overL g false r (g p.2 edge s).2.1).2)
def leavesK (b : List UInt8) (kind : UInt8) (key : ByteArray) : Nat → Int → Int → Bool → Wk → WR
  | 0, _, _, _, s => ([], s, 0)
  | f + 1, number, level, edge, s =>
    if (readK b kind number level).1 ≠ 0 then ([], s, (readK b kind number level).1)
    else if (readK b kind number level).2.1 = 0 then
      if 0 < s.1 ∧ headLe (readK b kind number level).2.2 s.2 = true then ([], s, 202)
      else ([(readK b kind number level).2.2], (s.1 + 1, lastD (readK b kind number level).2.2 s.2), 0)
    else overL (fun number' edge s => leavesK b kind key f number' ((readK b kind number level).2.1 - 1) edge s) edge
      ((readK b kind number level).2.2.drop (if edge = true then behindK key (readK b kind number level).2.2 - 1 else 0)) s
/-! A tree checked. -/
def headK (l : List Kp) : ByteArray := match l with | [] => ⟨#[]⟩ | p :: _ => p.1
def overC (g : Int → ByteArray → Wk → Wk × Nat) : List Kp → Wk → Wk × Nat
  | [], s => (s, 0)
  | p :: r, s => if (g p.2 p.1 s).2 ≠ 0 then g p.2 p.1 s else overC g r (g p.2 p.1 s).1
def checkK (b : List UInt8) (kind : UInt8) : Nat → Int → Int → ByteArray → Wk → Wk × Nat
  | 0, _, _, _, s => (s, 0)
  | f + 1, number, level, first, s =>
    if (readK b kind number level).1 ≠ 0 then (s, (readK b kind number level).1)
    else if level ≠ -1 ∧ headK (readK b kind number level).2.2 ≠ first then (s, 202)
    else if (readK b kind number level).2.1 = 0 then
      if 0 < s.1 ∧ headLe (readK b kind number level).2.2 s.2 = true then (s, 202)
      else ((s.1 + (readK b kind number level).2.2.length, lastD (readK b kind number level).2.2 s.2), 0)
    else overC (fun number' first s => checkK b kind f number' ((readK b kind number level).2.1 - 1) first s) (readK b kind number level).2.2 s
/-- Check's answer. -/
def checkP (b : List UInt8) (kind : UInt8) (root : Int) : Int × Nat :=
  if (checkK b kind 14 root (-1) ⟨#[]⟩ (0, ⟨#[]⟩)).2 ≠ 0 then (0, (checkK b kind 14 root (-1) ⟨#[]⟩ (0, ⟨#[]⟩)).2) else ((checkK b kind 14 root (-1) ⟨#[]⟩ (0, ⟨#[]⟩)).1.1, 0)
def findP (b : List UInt8) (kind : UInt8) (root : Int) (key : ByteArray) : Int × Bool × Nat := findK b kind key 14 root (-1)
def depthP (b : List UInt8) (kind : UInt8) (root : Int) : Int × Nat :=
  if (readK b kind root (-1)).1 ≠ 0 then (0, (readK b kind root (-1)).1) else ((readK b kind root (-1)).2.1 + 1, 0)
def walkP (b : List UInt8) (kind : UInt8) (root : Int) (key : ByteArray) : WR := leavesK b kind key 14 root (-1) true (0, ⟨#[]⟩)
/-- The pairs of leaves from a key on. -/
def fromL (key : ByteArray) (L : List (List Kp)) : List Kp := L.flatten.filter fun p => leK key p.1
def fromP (b : List UInt8) (kind : UInt8) (root : Int) (key : ByteArray) (most : Int) : List Kp × Nat :=
  if most < 0 then ([], 1)
  else if most ≤ ((fromL key (walkP b kind root key).1).length : Int) then ((fromL key (walkP b kind root key).1).take most.toNat, 0)
  else if (walkP b kind root key).2.2 ≠ 0 then ([], (walkP b kind root key).2.2) else (fromL key (walkP b kind root key).1, 0)
end Go.Proofs.Ytkgdcglnkodgnaa
