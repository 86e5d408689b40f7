/-
  The reader of layer 26, plain: what each act does to it, what it keeps. No condition.
-/
import Derived.Test.YtkgdcglnkodgnaaNav
import Derived.Test.YtkgdcglnkodgnaaPlaces
namespace Go.Proofs.Ytkgdcglnkodgnaa
/-- A place. -/
abbrev Pl := Int × Int
/-- A reader's state. -/
structure NS where
  has : Bool
  now : Pl
  bh : List Pl
  ah : List Pl
  mks : List Pl
/-- The new reader. -/
def NS.new : NS := ⟨false, (0, 0), [], [], []⟩
def mayQ (p : Pl) : Bool := mayP p.1 p.2
theorem mayQ_iff (p : Pl) : mayQ p = true ↔ 0 ≤ p.1 ∧ p.1 < 1000 ∧ 0 ≤ p.2 ∧ p.2 < 2000 := by simp [mayQ, mayP]
/-- The last so many. -/
def lastN (k : Nat) (l : List Pl) : List Pl := l.drop (l.length - k)
theorem lastN_length (k : Nat) (l : List Pl) : (lastN k l).length ≤ k := by simp [lastN]; omega
theorem lastN_small {k : Nat} {l : List Pl} (h : l.length ≤ k) : lastN k l = l := by simp [lastN, show l.length - k = 0 by omega]
def NS.push (s : NS) : NS := { s with bh := lastN 32 (s.bh ++ [s.now]) }
def NS.visit (s : NS) (p : Pl) : Nat × NS :=
  if mayQ p = false then (1, s) else if s.has = true ∧ s.now = p then (0, s)
  else (0, { s with bh := if s.has then lastN 32 (s.bh ++ [s.now]) else s.bh, ah := [], has := true, now := p })
def NS.move (s : NS) (x : Int) : Nat × NS :=
  if s.has = false then (3, s) else if mayP 0 x = false then (1, s) else (0, { s with now := (s.now.1, x) })
def NS.back (s : NS) : Pl × Nat × NS :=
  match s.bh.getLast? with
  | none => ((0, 0), 3, s)
  | some p => (p, 0, { s with now := p, bh := s.bh.dropLast, ah := s.now :: s.ah })
def NS.forward (s : NS) : Pl × Nat × NS :=
  match s.ah with
  | [] => ((0, 0), 3, s)
  | p :: r => (p, 0, { s with now := p, bh := lastN 32 (s.bh ++ [s.now]), ah := r })
def NS.mark (s : NS) : Int × Nat × NS :=
  if s.has = false then (0, 3, s) else if s.now ∈ s.mks then (0, 261, s) else if 16 ≤ s.mks.length then (0, 260, s)
  else (s.mks.length, 0, { s with mks := s.mks ++ [s.now] })
/-- May an index be? -/
def NS.ix (s : NS) (i : Int) : Bool := decide (0 ≤ i ∧ i < s.mks.length)
def NS.unmark (s : NS) (i : Int) : Nat × NS :=
  if s.ix i = false then (1, s) else (0, { s with mks := s.mks.take i.toNat ++ s.mks.drop (i.toNat + 1) })
def NS.jump (s : NS) (i : Int) : Pl × Nat × NS :=
  if s.ix i = false then ((0, 0), 1, s) else (s.mks.getD i.toNat (0, 0), s.visit (s.mks.getD i.toNat (0, 0)))
/-- Those of topics that there are. -/
def leftP (t : Int) (l : List Pl) : List Pl := l.filter fun p => decide (p.1 < t)
/-- Those that differ from the one ahead. -/
def apartP : Pl → List Pl → List Pl
  | _, [] => []
  | f, p :: r => if p = f then apartP p r else p :: apartP p r
def NS.cutD (s : NS) (t : Int) : NS := { s with bh := leftP t s.bh, ah := leftP t s.ah, mks := leftP t s.mks }
def NS.instead (s : NS) : NS :=
  match s.bh.getLast? with
  | some p => { s with now := p, bh := s.bh.dropLast }
  | none => match s.ah with
    | p :: r => { s with now := p, ah := r }
    | [] => { s with now := (0, 0), has := false }
def NS.insteadD (s : NS) (t : Int) : NS := if s.has = true ∧ t ≤ s.now.1 then s.instead else s
def NS.apartD (s : NS) : NS := if s.has = true then { s with bh := (apartP s.now s.bh.reverse).reverse, ah := apartP s.now s.ah } else s
def NS.drop (s : NS) (t : Int) : NS := ((s.cutD t).insteadD t).apartD
/-- How many places it holds. -/
def NS.many (s : NS) : Nat := (if s.has then 1 else 0) + s.bh.length + s.ah.length + s.mks.length
/-- What a reader keeps. -/
structure NInv (s : NS) : Prop where
  now : s.has = true → mayQ s.now = true
  none : s.has = false → s.now = (0, 0) ∧ s.bh = [] ∧ s.ah = []
  bh : ∀ p ∈ s.bh, mayQ p = true
  ah : ∀ p ∈ s.ah, mayQ p = true
  mks : ∀ p ∈ s.mks, mayQ p = true
  long : s.bh.length + s.ah.length ≤ 32
  marks : s.mks.length ≤ 16
  nodup : s.mks.Nodup
theorem NInv.new : NInv NS.new := ⟨by simp [NS.new], by simp [NS.new], by simp [NS.new], by simp [NS.new], by simp [NS.new], by simp [NS.new], by simp [NS.new], by simp [NS.new]⟩
theorem lastN_mem {k : Nat} {l : List Pl} {p : Pl} (h : p ∈ lastN k l) : p ∈ l := List.mem_of_mem_drop h
theorem NInv.visit {s : NS} (h : NInv s) (p : Pl) : NInv (s.visit p).2 := by
  unfold NS.visit
  split
  · exact h
  · rename_i hm
    have hm : mayQ p = true := by simpa using hm
    split
    · exact h
    · refine ⟨fun _ => hm, fun e => by simp at e, ?_, by simp, h.mks, ?_, h.marks, h.nodup⟩
      · intro q hq
        simp only at hq
        split at hq
        · rename_i hh
          have := lastN_mem hq
          rw [List.mem_append] at this
          rcases this with h1 | h1
          · exact h.bh q h1
          · simp at h1; subst h1; exact h.now hh
        · exact h.bh q hq
      · simp only
        split
        · have := lastN_length 32 (s.bh ++ [s.now]); simp; omega
        · have := h.long; simp; omega
theorem NInv.move {s : NS} (h : NInv s) (x : Int) : NInv (s.move x).2 := by
  unfold NS.move
  split
  · exact h
  · rename_i hh
    have hh : s.has = true := by simpa using hh
    split
    · exact h
    · rename_i hm
      have hm : mayP 0 x = true := by simpa using hm
      refine ⟨fun _ => ?_, fun e => ?_, h.bh, h.ah, h.mks, h.long, h.marks, h.nodup⟩
      · have h1 := (mayQ_iff _).1 (h.now hh)
        have h2 := (mayQ_iff (0, x)).1 hm
        exact (mayQ_iff _).2 ⟨h1.1, h1.2.1, h2.2.2.1, h2.2.2.2⟩
      · simp only at e; rw [hh] at e; cases e
theorem has_of_bh {s : NS} (h : NInv s) (hb : s.bh ≠ []) : s.has = true := by
  cases hh : s.has
  · exact absurd (h.none hh).2.1 hb
  · rfl
theorem has_of_ah {s : NS} (h : NInv s) (hb : s.ah ≠ []) : s.has = true := by
  cases hh : s.has
  · exact absurd (h.none hh).2.2 hb
  · rfl
theorem getLast?_split {l : List Pl} {p : Pl} (h : l.getLast? = some p) : l = l.dropLast ++ [p] := by
  have hn : l ≠ [] := by intro e; subst e; simp at h
  rw [List.getLast?_eq_some_getLast hn] at h
  injection h with h
  rw [← h]
  exact (List.dropLast_concat_getLast hn).symm
theorem NInv.back {s : NS} (h : NInv s) : NInv s.back.2.2 := by
  unfold NS.back
  split
  · exact h
  · rename_i p hp
    have e := getLast?_split hp
    have hh := has_of_bh h (by rw [e]; simp)
    refine ⟨fun _ => h.bh p (by rw [e]; simp), fun e' => ?_, fun q hq => h.bh q ((List.dropLast_sublist _).subset hq), ?_, h.mks, ?_, h.marks, h.nodup⟩
    · simp only at e'; rw [hh] at e'; cases e'
    · intro q hq
      simp only [List.mem_cons] at hq
      rcases hq with rfl | hq
      · exact h.now hh
      · exact h.ah q hq
    · have h1 := congrArg List.length e
      have h2 := h.long
      simp at h1 ⊢
      omega
theorem NInv.forward {s : NS} (h : NInv s) : NInv s.forward.2.2 := by
  unfold NS.forward
  split
  · exact h
  · rename_i p r hp
    have hh := has_of_ah h (by rw [hp]; simp)
    have h2 := h.long
    rw [hp] at h2
    simp at h2
    refine ⟨fun _ => h.ah p (by rw [hp]; simp), fun e' => ?_, ?_, fun q hq => h.ah q (by rw [hp]; simp [hq]), h.mks, ?_, h.marks, h.nodup⟩
    · simp only at e'; rw [hh] at e'; cases e'
    · intro q hq
      have := lastN_mem hq
      rw [List.mem_append] at this
      rcases this with h1 | h1
      · exact h.bh q h1
      · simp at h1; subst h1; exact h.now hh
    · rw [lastN_small (by simp; omega)]
      simp; omega
theorem NInv.mark {s : NS} (h : NInv s) : NInv s.mark.2.2 := by
  unfold NS.mark
  split
  · exact h
  · rename_i hh
    have hh : s.has = true := by simpa using hh
    split
    · exact h
    · rename_i hm
      split
      · exact h
      · rename_i hl
        refine ⟨h.now, h.none, h.bh, h.ah, ?_, h.long, by simp; omega, ?_⟩
        · intro q hq
          simp at hq
          rcases hq with h1 | h1
          · exact h.mks q h1
          · subst h1; exact h.now hh
        · rw [List.nodup_append]
          refine ⟨h.nodup, by simp, fun a ha b hb => ?_⟩
          simp at hb
          subst hb
          intro e; subst e; exact hm ha
theorem NInv.unmark {s : NS} (h : NInv s) (i : Int) : NInv (s.unmark i).2 := by
  unfold NS.unmark
  split
  · exact h
  · rename_i hi
    have hi : 0 ≤ i ∧ i < s.mks.length := by simpa [NS.ix] using hi
    have hsub : (s.mks.take i.toNat ++ s.mks.drop (i.toNat + 1)).Sublist s.mks := by
      have : s.mks = s.mks.take i.toNat ++ s.mks.drop i.toNat := (List.take_append_drop _ _).symm
      conv => rhs; rw [this]
      refine List.Sublist.append (List.Sublist.refl _) ?_
      exact List.drop_sublist_drop_left _ (by omega)
    refine ⟨h.now, h.none, h.bh, h.ah, fun q hq => h.mks q (hsub.subset hq), h.long, ?_, hsub.nodup h.nodup⟩
    exact Nat.le_trans hsub.length_le h.marks
theorem ix_mem {s : NS} {i : Int} (h : s.ix i = true) : s.mks.getD i.toNat (0, 0) ∈ s.mks := by
  have hi : 0 ≤ i ∧ i < s.mks.length := by simpa [NS.ix] using h
  rw [List.getD_eq_getElem?_getD, List.getElem?_eq_getElem (by omega)]
  simp
theorem NInv.jump {s : NS} (h : NInv s) (i : Int) : NInv (s.jump i).2.2 := by
  unfold NS.jump
  split
  · exact h
  · exact h.visit _
theorem leftP_sub (t : Int) (l : List Pl) : (leftP t l).Sublist l := List.filter_sublist
theorem leftP_append (t : Int) (l m : List Pl) : leftP t (l ++ m) = leftP t l ++ leftP t m := by simp [leftP]
theorem apartP_sub (f : Pl) (l : List Pl) : (apartP f l).Sublist l := by
  induction l generalizing f with
  | nil => simp [apartP]
  | cons p r ih =>
    unfold apartP
    split
    · exact (ih p).cons p
    · exact (ih p).cons_cons p
theorem NInv.cutD {s : NS} (h : NInv s) (t : Int) : NInv (s.cutD t) := by
  have a := leftP_sub t s.bh
  have b := leftP_sub t s.ah
  have c := leftP_sub t s.mks
  refine ⟨h.now, fun e => ?_, fun p hp => h.bh p (a.subset hp), fun p hp => h.ah p (b.subset hp), fun p hp => h.mks p (c.subset hp), ?_, Nat.le_trans c.length_le h.marks, c.nodup h.nodup⟩
  · obtain ⟨e1, e2, e3⟩ := h.none e
    exact ⟨e1, by simp [NS.cutD, e2, leftP], by simp [NS.cutD, e3, leftP]⟩
  · have := a.length_le; have := b.length_le; have := h.long
    simp only [NS.cutD]; omega
theorem NInv.instead {s : NS} (h : NInv s) (hh : s.has = true) : NInv s.instead := by
  unfold NS.instead
  split
  · rename_i p hp
    have e := getLast?_split hp
    refine ⟨fun _ => h.bh p (by rw [e]; simp), fun e' => ?_, fun q hq => h.bh q ((List.dropLast_sublist _).subset hq), h.ah, h.mks, ?_, h.marks, h.nodup⟩
    · simp only at e'; rw [hh] at e'; cases e'
    · have h1 := congrArg List.length e
      have h2 := h.long
      simp at h1 ⊢
      omega
  · rename_i hp
    split
    · rename_i p r hr
      refine ⟨fun _ => h.ah p (by rw [hr]; simp), fun e' => ?_, h.bh, fun q hq => h.ah q (by rw [hr]; simp [hq]), h.mks, ?_, h.marks, h.nodup⟩
      · simp only at e'; rw [hh] at e'; cases e'
      · have h2 := h.long
        rw [hr] at h2
        simp at h2 ⊢
        omega
    · rename_i hr
      have hb : s.bh = [] := by simpa using hp
      exact ⟨fun e => by simp at e, fun _ => ⟨rfl, hb, hr⟩, h.bh, h.ah, h.mks, h.long, h.marks, h.nodup⟩
theorem NInv.insteadD {s : NS} (h : NInv s) (t : Int) : NInv (s.insteadD t) := by
  unfold NS.insteadD
  split
  · rename_i hh; exact h.instead hh.1
  · exact h
theorem NInv.apartD {s : NS} (h : NInv s) : NInv s.apartD := by
  unfold NS.apartD
  split
  · rename_i hh
    have a := apartP_sub s.now s.bh.reverse
    have b := apartP_sub s.now s.ah
    refine ⟨h.now, fun e => ?_, fun p hp => h.bh p ?_, fun p hp => h.ah p (b.subset hp), h.mks, ?_, h.marks, h.nodup⟩
    · simp only at e; rw [hh] at e; cases e
    · have := a.subset (List.mem_reverse.1 hp); simpa using this
    · have h1 := a.length_le; have := b.length_le; have := h.long
      simp at h1 ⊢; omega
  · exact h
theorem NInv.drop {s : NS} (h : NInv s) (t : Int) : NInv (s.drop t) := ((h.cutD t).insteadD t).apartD
end Go.Proofs.Ytkgdcglnkodgnaa
