/-
  How far the counters of a walk over a tree can go: plain laws. No condition.
-/
import Derived.Test.YtkgdcglnkodgnaaTreeC
namespace Go.Proofs.Ytkgdcglnkodgnaa
open Go.RowKit
theorem nodup_len {α : Type} [DecidableEq α] : ∀ (l u : List α), l.Pairwise (· ≠ ·) → (∀ x ∈ l, x ∈ u) → l.length ≤ u.length
  | [], _, _, _ => Nat.zero_le _
  | x :: r, u, h, hs => by
    have h1 := List.pairwise_cons.1 h
    have hx := hs x (by simp)
    have ih := nodup_len r (u.erase x) h1.2 (fun y hy => (List.mem_erase_of_ne (fun e => h1.1 y hy e.symm)).2 (hs y (by simp [hy])))
    rw [List.length_erase_of_mem hx] at ih
    have : 0 < u.length := List.length_pos_of_mem hx
    simp only [List.length_cons]
    omega
theorem readK_err_nil {b : List UInt8} {kind : UInt8} {number level : Int} (h : (readK b kind number level).1 ≠ 0) : (readK b kind number level).2 = (0, []) := by
  unfold readK at h ⊢
  split
  · rfl
  · rename_i h1
    rw [if_neg h1] at h
    unfold readN at h ⊢
    split
    · rfl
    · rename_i h2
      rw [if_neg h2] at h
      split
      · rfl
      · rename_i h3
        rw [if_neg h3] at h
        split
        · rfl
        · rename_i h4
          rw [if_neg h4] at h
          exact absurd rfl h
theorem readK_len (b : List UInt8) (kind : UInt8) (number level : Int) : (readK b kind number level).2.2.length ≤ 256 := by
  by_cases h : (readK b kind number level).1 = 0
  · exact (readK_ok (n := (readK b kind number level).2.1) (l := (readK b kind number level).2.2) (Prod.ext h rfl)).2.2.2.2.2.2
  · rw [readK_err_nil h]; simp
theorem count_le {n m e : Nat} (h : count n = (m, e)) : m ≤ 16384 := by
  unfold count at h
  split at h
  · injection h with h _; omega
  · split at h
    · injection h with h _; omega
    · injection h with h _; omega
theorem readK_number {b : List UInt8} {kind : UInt8} {number level n : Int} {l : List Kp} (h : readK b kind number level = (0, n, l)) : 0 ≤ number ∧ number < 16384 := by
  unfold readK at h
  split at h
  · rename_i h1; injection h with h _; exact absurd h h1
  · rename_i h1
    have h2 : (atP b number kind).2 = 0 := Decidable.byContradiction h1
    unfold atP at h2
    have hc := count_le (show count b.length = ((count b.length).1, (count b.length).2) from rfl)
    split at h2
    · rename_i h3; exact absurd h2 h3
    · split at h2
      · cases h2
      · rename_i h4
        omega
/-- A pair of a book's nodes. -/
def InL (b : List UInt8) (kind : UInt8) (p : Kp) : Prop := ∃ k : Nat, k < 16384 ∧ p ∈ (readK b kind (k : Int) (-1)).2.2
/-- A walk's state that pairs have led to. -/
def GoodW (b : List UInt8) (kind : UInt8) (s : Wk) : Prop :=
  ∃ acc : List Kp, SortK acc ∧ (∀ p ∈ acc, InL b kind p) ∧ (s.1 = 0 → acc = []) ∧ s.1 ≤ acc.length ∧ (acc ≠ [] → s.2 = lastKey acc)
theorem sort_nodup {l : List Kp} (h : SortK l) : l.Pairwise (· ≠ ·) := h.imp fun h1 e => by rw [e, ltK_irrefl] at h1; cases h1
theorem sort_few {b : List UInt8} {kind : UInt8} {l : List Kp} (h : SortK l) (hl : ∀ p ∈ l, InL b kind p) : l.length ≤ 4194304 := by
  have h1 := nodup_len l ((List.range 16384).flatMap fun k : Nat => (readK b kind (k : Int) (-1)).2.2) (sort_nodup h) (fun p hp => by
    obtain ⟨k, hk, hm⟩ := hl p hp
    rw [List.mem_flatMap]
    exact ⟨k, List.mem_range.2 hk, hm⟩)
  have h2 : ∀ m : Nat, ((List.range m).flatMap fun k : Nat => (readK b kind (k : Int) (-1)).2.2).length ≤ m * 256 := by
    intro m
    induction m with
    | zero => simp
    | succ m ih =>
      rw [List.range_succ, List.flatMap_append, List.length_append]
      have := readK_len b kind (m : Int) (-1)
      simp only [List.flatMap_cons, List.flatMap_nil, List.append_nil]
      omega
  have := h2 16384
  omega
theorem GoodW.bound {b : List UInt8} {kind : UInt8} {s : Wk} (h : GoodW b kind s) : s.1 ≤ 4194304 := by
  obtain ⟨acc, h1, h2, _, h4, _⟩ := h
  have := sort_few h1 h2
  omega
theorem goodW_start (b : List UInt8) (kind : UInt8) : GoodW b kind (0, ⟨#[]⟩) := ⟨[], by simp [SortK], by simp, by simp, by simp, by simp⟩
theorem inL_of_read {b : List UInt8} {kind : UInt8} {number level n : Int} {l : List Kp} (h : readK b kind number level = (0, n, l)) (hl : l ≠ []) : ∀ p ∈ l, InL b kind p := by
  intro p hp
  obtain ⟨h1, h2⟩ := readK_number h
  refine ⟨number.toNat, by omega, ?_⟩
  rw [show ((number.toNat : Nat) : Int) = number by omega, readK_level h hl (.inl rfl)]
  exact hp
theorem GoodW.leaf {b : List UInt8} {kind : UInt8} {s : Wk} {number level n : Int} {l : List Kp} {m : Nat} (h : GoodW b kind s) (hr : readK b kind number level = (0, n, l)) (hne : l ≠ [])
    (hok : ¬ (0 < s.1 ∧ headLe l s.2 = true)) (hm0 : 1 ≤ m) (hm : m ≤ l.length) : GoodW b kind (s.1 + m, lastD l s.2) := by
  obtain ⟨acc, h1, h2, h3, h4, h5⟩ := h
  have hsl : SortK l := (readK_ok hr).2.2.2.1
  have hin := inL_of_read hr hne
  refine ⟨acc ++ l, ?_, ?_, ?_, ?_, ?_⟩
  · unfold SortK
    rw [List.pairwise_append]
    refine ⟨h1, hsl, fun p hp q hq => ?_⟩
    have ha : acc ≠ [] := fun e => by rw [e] at hp; cases hp
    have hs : 0 < s.1 := by
      rcases Nat.eq_zero_or_pos s.1 with h6 | h6
      · exact absurd (h3 h6) ha
      · exact h6
    have h7 : headLe l s.2 = false := by
      cases h8 : headLe l s.2
      · rfl
      · exact absurd ⟨hs, h8⟩ hok
    rw [headLe_iff hne, leK_not, h5 ha] at h7
    have h9 : ltK (lastKey acc) (headK l) = true := by simpa using h7
    exact lt_of_le_lt (sort_last h1 hp) (lt_of_lt_le h9 (sort_head hsl hq))
  · intro p hp
    rcases List.mem_append.1 hp with h6 | h6
    · exact h2 p h6
    · exact hin p h6
  · intro h6; simp only at h6; omega
  · simp only [List.length_append]; omega
  · intro _
    rw [lastKey_append hne]
    simp [lastD, hne]
theorem overC_good {b : List UInt8} {kind : UInt8} {g : Int → ByteArray → Wk → Wk × Nat} (hg : ∀ number first s s', GoodW b kind s → g number first s = (s', 0) → GoodW b kind s') :
    ∀ (l : List Kp) (s s' : Wk), GoodW b kind s → overC g l s = (s', 0) → GoodW b kind s'
  | [], s, s', hs, h => by simp only [overC] at h; injection h with h _; rw [← h]; exact hs
  | p :: r, s, s', hs, h => by
    obtain ⟨s1, e1, hgs⟩ : ∃ s1 e1, g p.2 p.1 s = (s1, e1) := ⟨_, _, rfl⟩
    unfold overC at h
    rw [hgs] at h
    split at h
    · rename_i h1; injection h with _ h; exact absurd h h1
    · rename_i h1
      have h0 : e1 = 0 := Decidable.byContradiction h1
      subst h0
      exact overC_good hg r s1 s' (hg _ _ _ _ hs hgs) h
theorem checkK_good {b : List UInt8} {kind : UInt8} : ∀ (f : Nat) (number level : Int) (first : ByteArray) (s s' : Wk), GoodW b kind s → checkK b kind f number level first s = (s', 0) → GoodW b kind s'
  | 0, _, _, _, s, s', hs, h => by simp only [checkK] at h; injection h with h _; rw [← h]; exact hs
  | f + 1, number, level, first, s, s', hs, h => by
    obtain ⟨e, n, l, hr⟩ : ∃ e n l, readK b kind number level = (e, n, l) := ⟨_, _, _, rfl⟩
    unfold checkK at h
    rw [hr] at h
    simp only at h
    by_cases he : e ≠ 0
    · rw [if_pos he] at h; injection h with _ h; exact absurd h he
    rw [if_neg he] at h
    have he : e = 0 := by omega
    subst he
    by_cases hfirst : level ≠ -1 ∧ headK l ≠ first
    · rw [if_pos hfirst] at h; cases h
    rw [if_neg hfirst] at h
    by_cases hn : n = 0
    · rw [if_pos hn] at h
      by_cases hle : 0 < s.1 ∧ headLe l s.2 = true
      · rw [if_pos hle] at h; cases h
      · rw [if_neg hle] at h
        injection h with h _
        by_cases hlz : l = []
        · subst hlz
          rw [← h]
          simpa [lastD] using hs
        · rw [← h]
          have : 0 < l.length := by
            cases l with
            | nil => exact absurd rfl hlz
            | cons _ _ => simp
          exact hs.leaf hr hlz hle this (Nat.le_refl _)
    · rw [if_neg hn] at h
      exact overC_good (fun n' f' t t' h1 h2 => checkK_good f n' _ f' t t' h1 h2) l s s' hs h
theorem overL_good {b : List UInt8} {kind : UInt8} {g : Int → Bool → Wk → WR} (hg : ∀ number edge s, GoodW b kind s → (g number edge s).2.2 = 0 → GoodW b kind (g number edge s).2.1) :
    ∀ (l : List Kp) (edge : Bool) (s : Wk), GoodW b kind s → (overL g edge l s).2.2 = 0 → GoodW b kind (overL g edge l s).2.1
  | [], _, s, hs, h => hs
  | p :: r, edge, s, hs, h => by
    unfold overL at h ⊢
    split at h
    · rename_i h1; exact absurd h h1
    · rename_i h1
      have h0 : (g p.2 edge s).2.2 = 0 := Decidable.byContradiction h1
      rw [if_neg h1]
      exact overL_good hg r false _ (hg _ _ _ hs h0) h
theorem leavesK_good {b : List UInt8} {kind : UInt8} {key : ByteArray} : ∀ (f : Nat) (number level : Int) (edge : Bool) (s : Wk), level ≠ -1 → GoodW b kind s → (leavesK b kind key f number level edge s).2.2 = 0 → GoodW b kind (leavesK b kind key f number level edge s).2.1
  | 0, _, _, _, s, _, hs, h => hs
  | f + 1, number, level, edge, s, hl, hs, h => by
    obtain ⟨e, n, l, hr⟩ : ∃ e n l, readK b kind number level = (e, n, l) := ⟨_, _, _, rfl⟩
    unfold leavesK at h ⊢
    rw [hr] at h ⊢
    simp only at h ⊢
    by_cases he : e ≠ 0
    · rw [if_pos he] at h; exact absurd h he
    rw [if_neg he] at h ⊢
    have he : e = 0 := by omega
    subst he
    have hok := readK_ok hr
    have hlz : l ≠ [] := fun e => hl (hok.2.2.2.2.2.1 e).1
    by_cases hn : n = 0
    · rw [if_pos hn] at h ⊢
      by_cases hle : 0 < s.1 ∧ headLe l s.2 = true
      · rw [if_pos hle] at h; cases h
      · rw [if_neg hle] at h ⊢
        have : 0 < l.length := by
          cases l with
          | nil => exact absurd rfl hlz
          | cons _ _ => simp
        exact hs.leaf hr hlz hle (Nat.le_refl _) this
    · rw [if_neg hn] at h ⊢
      exact overL_good (fun n' e' t h1 h2 => leavesK_good f n' _ e' t (by have := hok.1; omega) h1 h2) _ edge s hs h
end Go.Proofs.Ytkgdcglnkodgnaa
