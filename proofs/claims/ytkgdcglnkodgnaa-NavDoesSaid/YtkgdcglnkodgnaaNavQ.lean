/-
  The reader of layer 26, plain: scripts; what the laws NavBounded, NavBack, NavRow say of it. No condition.
-/
import Derived.Test.YtkgdcglnkodgnaaNavP
namespace Go.Proofs.Ytkgdcglnkodgnaa
/-- An act of a script. -/
structure ActN where
  kind : Int
  p : Pl
  n : Int
/-- One act: its error, the reader behind it. -/
def NS.step (s : NS) (a : ActN) : Nat × NS :=
  if a.kind = 1 then s.back.2 else if a.kind = 2 then s.forward.2 else if a.kind = 3 then s.mark.2 else if a.kind = 4 then s.unmark a.n
  else if a.kind = 5 then (s.jump a.n).2 else if a.kind = 6 then s.move a.n else if a.kind = 7 then (0, s.drop a.n) else s.visit a.p
theorem NInv.step {s : NS} (h : NInv s) (a : ActN) : NInv (s.step a).2 := by
  unfold NS.step
  split
  · exact h.back
  split
  · exact h.forward
  split
  · exact h.mark
  split
  · exact h.unmark _
  split
  · exact h.jump _
  split
  · exact h.move _
  split
  · exact h.drop _
  · exact h.visit _
/-- A script of at most so many acts. -/
def runN (s : NS) : List ActN → NS
  | [] => s
  | a :: r => runN (s.step a).2 r
theorem runN_snoc (s : NS) (l : List ActN) (a : ActN) : runN s (l ++ [a]) = ((runN s l).step a).2 := by
  induction l generalizing s with
  | nil => rfl
  | cons b r ih => exact ih _
theorem NInv.run {s : NS} (h : NInv s) (l : List ActN) : NInv (runN s l) := by
  induction l generalizing s with
  | nil => exact h
  | cons a r ih => exact ih (h.step a)
/-- The place now, as it is told. -/
def NS.told (s : NS) : Pl := if s.has then s.now else (0, 0)
/-- An error changes nothing. -/
theorem visit_err {s : NS} {p : Pl} (h : (s.visit p).1 ≠ 0) : (s.visit p).2 = s := by
  unfold NS.visit at *
  split at h
  · rename_i h1; rw [if_pos h1]
  · split at h <;> exact absurd rfl h
theorem step_err {s : NS} {a : ActN} (h : (s.step a).1 ≠ 0) : (s.step a).2 = s := by
  unfold NS.step at *
  split
  · rename_i h1
    rw [if_pos h1] at h
    unfold NS.back at *
    split at h
    · simp
    · exact absurd rfl h
  rename_i h1; rw [if_neg h1] at h
  split
  · rename_i h1
    rw [if_pos h1] at h
    unfold NS.forward at *
    split at h
    · simp
    · exact absurd rfl h
  rename_i h1; rw [if_neg h1] at h
  split
  · rename_i h1
    rw [if_pos h1] at h
    unfold NS.mark at *
    split at h
    · rename_i h2; rw [if_pos h2]
    · rename_i h2; rw [if_neg h2]
      split at h
      · rename_i h2; rw [if_pos h2]
      · rename_i h2; rw [if_neg h2]
        split at h
        · rename_i h2; rw [if_pos h2]
        · exact absurd rfl h
  rename_i h1; rw [if_neg h1] at h
  split
  · rename_i h1
    rw [if_pos h1] at h
    unfold NS.unmark at *
    split at h
    · rename_i h2; rw [if_pos h2]
    · exact absurd rfl h
  rename_i h1; rw [if_neg h1] at h
  split
  · rename_i h1
    rw [if_pos h1] at h
    unfold NS.jump at *
    split at h
    · rename_i h2; rw [if_pos h2]
    · rename_i h2; rw [if_neg h2]
      exact visit_err h
  rename_i h1; rw [if_neg h1] at h
  split
  · rename_i h1
    rw [if_pos h1] at h
    unfold NS.move at *
    split at h
    · rename_i h2; rw [if_pos h2]
    · rename_i h2; rw [if_neg h2]
      split at h
      · rename_i h2; rw [if_pos h2]
      · exact absurd rfl h
  rename_i h1; rw [if_neg h1] at h
  split
  · rename_i h1
    rw [if_pos h1] at h
    exact absurd rfl h
  rename_i h1; rw [if_neg h1] at h
  exact visit_err h
theorem visit_mk (s : NS) (p : Pl) : (s.visit p).2.mks = s.mks := by
  unfold NS.visit
  split
  · rfl
  · split <;> rfl
theorem step_mk {s : NS} {a : ActN} (h3 : a.kind ≠ 3) (h4 : a.kind ≠ 4) (h7 : a.kind ≠ 7) : (s.step a).2.mks = s.mks := by
  unfold NS.step
  simp only [if_neg h3, if_neg h4, if_neg h7]
  split
  · unfold NS.back; split <;> rfl
  split
  · unfold NS.forward; split <;> rfl
  split
  · unfold NS.jump; split
    · rfl
    · exact visit_mk _ _
  split
  · unfold NS.move; split
    · rfl
    · split <;> rfl
  exact visit_mk _ _
theorem step_keep {s : NS} {a : ActN} (h : a.kind = 3 ∨ a.kind = 4) : (s.step a).2.has = s.has ∧ (s.step a).2.now = s.now ∧ (s.step a).2.bh = s.bh ∧ (s.step a).2.ah = s.ah := by
  unfold NS.step
  rcases h with h | h
  · rw [if_neg (by omega), if_neg (by omega), if_pos h]
    unfold NS.mark
    split
    · exact ⟨rfl, rfl, rfl, rfl⟩
    · split
      · exact ⟨rfl, rfl, rfl, rfl⟩
      · split <;> exact ⟨rfl, rfl, rfl, rfl⟩
  · rw [if_neg (by omega), if_neg (by omega), if_neg (by omega), if_pos h]
    unfold NS.unmark
    split <;> exact ⟨rfl, rfl, rfl, rfl⟩
/-- Back, and forth. -/
theorem back_forward {s : NS} (h : NInv s) (he : s.back.2.1 = 0) : s.back.2.2.forward.2 = (0, s) := by
  unfold NS.back at *
  split at he
  · simp at he
  · rename_i p hp
    have e := getLast?_split hp
    have hl := h.long
    unfold NS.forward
    simp only
    rw [← e, lastN_small (by omega)]
theorem forward_back {s : NS} (h : NInv s) (he : s.forward.2.1 = 0) : s.forward.2.2.back.2 = (0, s) := by
  unfold NS.forward at *
  split at he
  · simp at he
  · rename_i p r hp
    have hl := h.long
    rw [hp] at hl
    simp at hl
    simp only
    rw [lastN_small (by simp; omega)]
    unfold NS.back
    simp
    cases s; simp_all
/-- A new place, and back. -/
theorem visit_same {s : NS} {p : Pl} (hh : s.has = true) (hn : s.now = p) : (s.visit p).2 = s := by
  unfold NS.visit
  split
  · rfl
  · rw [if_pos ⟨hh, hn⟩]
theorem visit_back {s : NS} {p : Pl} (hh : s.has = true) (hn : s.now ≠ p) (he : (s.visit p).1 = 0) : (s.visit p).2.back.1 = s.now ∧ (s.visit p).2.back.2.1 = 0 ∧ (s.visit p).2.back.2.2.ah = [p] := by
  unfold NS.visit at *
  split at he
  · simp at he
  · rename_i hm
    rw [if_neg hm, if_neg (fun h => hn h.2)]
    have e : (lastN 32 (s.bh ++ [s.now])).getLast? = some s.now := by
      unfold lastN
      rw [List.getLast?_drop]
      simp
      omega
    unfold NS.back
    simp only [hh, if_true, e, and_self]
/-- The whole row. -/
def NS.row (s : NS) : List Pl := s.bh ++ (if s.has then [s.now] else []) ++ s.ah
/-- No two side by side are alike. -/
def NoTwin : List Pl → Prop
  | [] => True
  | [_] => True
  | a :: b :: r => a ≠ b ∧ NoTwin (b :: r)
theorem NoTwin.tail {a : Pl} {l : List Pl} (h : NoTwin (a :: l)) : NoTwin l := by
  cases l with
  | nil => trivial
  | cons b r => exact h.2
theorem NoTwin.left {l m : List Pl} (h : NoTwin (l ++ m)) : NoTwin l := by
  induction l with
  | nil => trivial
  | cons a r ih =>
    cases r with
    | nil => trivial
    | cons b t => exact ⟨h.1, ih h.2⟩
theorem NoTwin.right {l m : List Pl} (h : NoTwin (l ++ m)) : NoTwin m := by
  induction l with
  | nil => exact h
  | cons a r ih => exact ih h.tail
theorem NoTwin.join {l m : List Pl} {x : Pl} (h : NoTwin (l ++ [x])) (k : NoTwin (x :: m)) : NoTwin (l ++ x :: m) := by
  induction l with
  | nil => exact k
  | cons a r ih =>
    cases r with
    | nil => exact ⟨h.1, k⟩
    | cons b t => exact ⟨h.1, ih h.2⟩
theorem NoTwin.drop {l : List Pl} (h : NoTwin l) (k : Nat) : NoTwin (l.drop k) := by
  rw [← List.take_append_drop k l] at h
  exact h.right
theorem NoTwin.snoc {l : List Pl} {x y : Pl} (h : NoTwin (l ++ [x])) (hxy : x ≠ y) : NoTwin (l ++ [x] ++ [y]) := by
  rw [List.append_assoc]
  exact h.join ⟨hxy, trivial⟩
theorem apartP_twin (f : Pl) (l : List Pl) : NoTwin (f :: apartP f l) := by
  induction l generalizing f with
  | nil => trivial
  | cons p r ih =>
    unfold apartP
    split
    · rename_i e; subst e; exact ih p
    · rename_i e; exact ⟨fun h => e h.symm, ih p⟩
theorem NoTwin.rev {l : List Pl} (h : NoTwin l) : NoTwin l.reverse := by
  induction l with
  | nil => trivial
  | cons a r ih =>
    cases r with
    | nil => trivial
    | cons b t =>
      have := ih h.2
      simp only [List.reverse_cons] at this ⊢
      exact this.snoc (fun e => h.1 e.symm)
theorem row_drop {s : NS} (h : NInv s) (t : Int) : NoTwin (s.drop t).row := by
  have h1 := (h.cutD t).insteadD t
  unfold NS.drop
  generalize (s.cutD t).insteadD t = u at *
  unfold NS.apartD NS.row
  cases hh : u.has
  · obtain ⟨_, e2, e3⟩ := h1.none hh
    simp [hh, e2, e3, NoTwin]
  · simp only [if_true]
    have a := (apartP_twin u.now u.bh.reverse).rev
    have b := apartP_twin u.now u.ah
    simp only [List.reverse_cons] at a
    rw [List.append_assoc]
    exact a.join b
theorem row_visit {s : NS} (h : NInv s) (ht : NoTwin s.row) (p : Pl) : NoTwin (s.visit p).2.row := by
  unfold NS.visit
  split
  · exact ht
  · split
    · exact ht
    · rename_i hn
      unfold NS.row at *
      cases hh : s.has
      · obtain ⟨_, e2, _⟩ := h.none hh
        simp [e2, NoTwin]
      · rw [hh] at ht
        simp only [if_true] at ht ⊢
        have hx : s.now ≠ p := fun e => hn ⟨hh, e⟩
        have := (ht.left.snoc hx)
        rw [List.append_nil]
        unfold lastN
        generalize s.bh ++ [s.now] = z at *
        have e : z.drop (z.length - 32) ++ [p] = (z ++ [p]).drop (z.length - 32) := by
          rw [List.drop_append_of_le_length (by omega)]
        rw [e]
        exact this.drop _
theorem row_back {s : NS} (h : NInv s) : s.back.2.2.row = s.row := by
  unfold NS.back
  split
  · rfl
  · rename_i p hp
    have e := getLast?_split hp
    have hh := has_of_bh h (by rw [e]; simp)
    unfold NS.row
    simp only [hh, if_true]
    conv => rhs; rw [e]
    simp
theorem row_forward {s : NS} (h : NInv s) : s.forward.2.2.row = s.row := by
  unfold NS.forward
  split
  · rfl
  · rename_i p r hp
    have hh := has_of_ah h (by rw [hp]; simp)
    have h2 := h.long
    rw [hp] at h2
    simp at h2
    unfold NS.row
    simp only [hh, if_true]
    rw [lastN_small (by simp; omega), hp]
    simp
theorem row_step {s : NS} (h : NInv s) (ht : NoTwin s.row) {a : ActN} (h6 : a.kind ≠ 6) : NoTwin (s.step a).2.row := by
  unfold NS.step
  rw [if_neg h6]
  split
  · show NoTwin s.back.2.2.row; rw [row_back h]; exact ht
  split
  · show NoTwin s.forward.2.2.row; rw [row_forward h]; exact ht
  split
  · rename_i h3
    have := step_keep (s := s) (a := ⟨3, (0, 0), 0⟩) (.inl rfl)
    have e : s.step ⟨3, (0, 0), 0⟩ = s.mark.2 := rfl
    rw [e] at this
    unfold NS.row at *
    rw [this.1, this.2.1, this.2.2.1, this.2.2.2]; exact ht
  split
  · have := step_keep (s := s) (a := ⟨4, (0, 0), a.n⟩) (.inr rfl)
    have e : s.step ⟨4, (0, 0), a.n⟩ = s.unmark a.n := rfl
    rw [e] at this
    unfold NS.row at *
    rw [this.1, this.2.1, this.2.2.1, this.2.2.2]; exact ht
  split
  · unfold NS.jump; split
    · exact ht
    · exact row_visit h ht _
  split
  · exact row_drop h _
  · exact row_visit h ht _
theorem row_run {s : NS} (h : NInv s) (ht : NoTwin s.row) {l : List ActN} (h6 : ∀ a ∈ l, a.kind ≠ 6) : NoTwin (runN s l).row := by
  induction l generalizing s with
  | nil => exact ht
  | cons a r ih => exact ih (h.step a) (row_step h ht (h6 a (by simp))) (fun b hb => h6 b (by simp [hb]))
theorem NoTwin.get {l : List Pl} (h : NoTwin l) {i : Nat} (hi : i + 1 < l.length) : l[i]'(by omega) ≠ l[i + 1] := by
  induction l generalizing i with
  | nil => simp at hi
  | cons a r ih =>
    cases r with
    | nil => simp at hi
    | cons b t =>
      cases i with
      | zero => exact h.1
      | succ j => exact ih h.2 (by simpa using hi)
end Go.Proofs.Ytkgdcglnkodgnaa
