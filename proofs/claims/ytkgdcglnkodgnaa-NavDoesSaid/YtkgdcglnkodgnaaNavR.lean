/-
  The document's reader of layer 26, plain: a row, a place in it, marks; it answers as the program's. No condition.
-/
import Derived.Test.YtkgdcglnkodgnaaNavS
namespace Go.Proofs.Ytkgdcglnkodgnaa
/-- The document's reader. -/
structure RN where
  row : List Pl
  at' : Int
  m : List Pl
def RN.new : RN := ⟨[], -1, []⟩
/-- What stands for a reader. -/
def NS.rn (s : NS) : RN := ⟨s.row, if s.has then s.bh.length else -1, s.mks⟩
/-- The place at an index. -/
def RN.get (r : RN) (i : Int) : Pl := r.row.getD i.toNat (0, 0)
def RN.now (r : RN) : Pl × Bool := if r.at' < 0 then ((0, 0), false) else (r.get r.at', true)
def RN.visit (r : RN) (p : Pl) : Nat × RN :=
  if mayQ p = false then (1, r) else if 0 ≤ r.at' ∧ r.get r.at' = p then (0, r)
  else (0, let row := r.row.take (r.at' + 1).toNat ++ [p]; let row := if 33 < row.length then row.drop 1 else row; ⟨row, row.length - 1, r.m⟩)
def RN.move (r : RN) (x : Int) : Nat × RN :=
  if r.at' < 0 then (3, r) else if x < 0 ∨ 2000 ≤ x then (1, r) else (0, { r with row := r.row.set r.at'.toNat ((r.get r.at').1, x) })
def RN.back (r : RN) : Pl × Nat × RN := if r.at' ≤ 0 then ((0, 0), 3, r) else (r.get (r.at' - 1), 0, { r with at' := r.at' - 1 })
def RN.forward (r : RN) : Pl × Nat × RN := if (r.row.length : Int) - 1 ≤ r.at' then ((0, 0), 3, r) else (r.get (r.at' + 1), 0, { r with at' := r.at' + 1 })
def RN.behind (r : RN) : List Pl := r.row.take r.at'.toNat
def RN.ahead (r : RN) : List Pl := r.row.drop (r.at' + 1).toNat
def RN.mark (r : RN) : Int × Nat × RN :=
  if r.at' < 0 then (0, 3, r) else if r.get r.at' ∈ r.m then (0, 261, r) else if 16 ≤ r.m.length then (0, 260, r)
  else (r.m.length, 0, { r with m := r.m ++ [r.get r.at'] })
def RN.unmark (r : RN) (i : Int) : Nat × RN := if i < 0 ∨ r.m.length ≤ i then (1, r) else (0, { r with m := r.m.take i.toNat ++ r.m.drop (i.toNat + 1) })
def RN.jump (r : RN) (i : Int) : Pl × Nat × RN := if i < 0 ∨ r.m.length ≤ i then ((0, 0), 1, r) else (r.m.getD i.toNat (0, 0), 0, (r.visit (r.m.getD i.toNat (0, 0))).2)
/-- Where the place now is, behind a cut of the first so many. -/
def RN.atD (r : RN) (t : Int) (k : Nat) : Int := ((leftP t (r.row.take (min k (r.at' + 1).toNat))).length : Int) - 1
def RN.cutD (r : RN) (t : Int) : RN :=
  ⟨leftP t r.row, if r.atD t r.row.length < 0 ∧ 0 < (leftP t r.row).length then 0 else r.atD t r.row.length, leftP t r.m⟩
def RN.thin (r : RN) : RN :=
  if r.at' < 0 then r else
    let l := (apartP (r.get r.at') (r.row.take r.at'.toNat).reverse).reverse ++ [r.get r.at']
    ⟨l ++ apartP (r.get r.at') (r.row.drop (r.at' + 1).toNat), l.length - 1, r.m⟩
def RN.drop (r : RN) (t : Int) : RN := (r.cutD t).thin
theorem rn_at {s : NS} (hh : s.has = true) : s.rn.at' = s.bh.length := by simp [NS.rn, hh]
theorem rn_row {s : NS} (hh : s.has = true) : s.rn.row = s.bh ++ s.now :: s.ah := by simp [NS.rn, NS.row, hh]
theorem rn_at' {s : NS} (hh : s.has = false) : s.rn.at' = -1 := by simp [NS.rn, hh]
theorem rn_row' {s : NS} (h : NInv s) (hh : s.has = false) : s.rn.row = [] := by
  obtain ⟨_, e2, e3⟩ := h.none hh
  simp [NS.rn, NS.row, hh, e2, e3]
theorem rn_get {s : NS} (hh : s.has = true) : s.rn.get s.rn.at' = s.now := by
  rw [RN.get, rn_at hh, rn_row hh]
  simp
theorem rn_now (s : NS) : s.rn.now = (s.told, s.has) := by
  unfold RN.now NS.told
  cases hh : s.has
  · rw [if_pos (by rw [rn_at' hh]; omega)]; simp
  · rw [if_neg (by rw [rn_at hh]; omega), rn_get hh]; simp
theorem rn_behind {s : NS} (h : NInv s) : s.rn.behind = s.bh := by
  unfold RN.behind
  cases hh : s.has
  · rw [rn_at' hh, rn_row' h hh, (h.none hh).2.1]; simp
  · rw [rn_at hh, rn_row hh]; simp
theorem rn_ahead {s : NS} (h : NInv s) : s.rn.ahead = s.ah := by
  unfold RN.ahead
  cases hh : s.has
  · rw [rn_at' hh, rn_row' h hh, (h.none hh).2.2]; simp
  · rw [rn_at hh, rn_row hh]
    rw [show ((s.bh.length : Int) + 1).toNat = s.bh.length + 1 by omega]
    rw [List.drop_append]
    simp [List.drop_of_length_le]
theorem rn_visit {s : NS} (h : NInv s) (p : Pl) : (s.rn.visit p).1 = (s.visit p).1 ∧ (s.rn.visit p).2 = (s.visit p).2.rn := by
  unfold RN.visit NS.visit
  by_cases hm : mayQ p = false
  · simp [hm]
  · rw [if_neg hm, if_neg hm]
    cases hh : s.has
    · have e1 := rn_at' hh
      rw [if_neg (by rw [e1]; omega), if_neg (by simp)]
      refine ⟨rfl, ?_⟩
      rw [e1, rn_row' h hh]
      obtain ⟨_, e2, _⟩ := h.none hh
      simp [NS.rn, NS.row, e2]
    · have e1 := rn_at hh
      rw [rn_get hh]
      by_cases hn : s.now = p
      · rw [if_pos ⟨by rw [e1]; omega, hn⟩, if_pos ⟨rfl, hn⟩]
        exact ⟨rfl, rfl⟩
      · rw [if_neg (fun x => hn x.2), if_neg (fun x => hn x.2)]
        refine ⟨rfl, ?_⟩
        have hl := h.long
        have e : s.rn.row.take (s.rn.at' + 1).toNat = s.bh ++ [s.now] := by
          rw [e1, rn_row hh, show ((s.bh.length : Int) + 1).toNat = s.bh.length + 1 by omega]
          rw [List.take_append]
          simp [List.take_of_length_le]
        rw [e]
        simp only [if_true, NS.rn, NS.row, List.append_nil]
        by_cases h32 : s.bh.length = 32
        · have e3 : lastN 32 (s.bh ++ [s.now]) = (s.bh ++ [s.now]).drop 1 := by
            unfold lastN; congr 1; simp; omega
          rw [if_pos (by simp; omega), e3]
          have e4 : (s.bh ++ [s.now] ++ [p]).drop 1 = (s.bh ++ [s.now]).drop 1 ++ [p] := List.drop_append_of_le_length (by simp)
          rw [e4]
          simp
        · rw [if_neg (by simp; omega), lastN_small (by simp; omega)]
          simp
          omega
theorem rn_move {s : NS} (_h : NInv s) (x : Int) : (s.rn.move x).1 = (s.move x).1 ∧ (s.rn.move x).2 = (s.move x).2.rn := by
  unfold RN.move NS.move
  cases hh : s.has
  · rw [if_pos (by rw [rn_at' hh]; omega), if_pos rfl]; exact ⟨rfl, rfl⟩
  · rw [if_neg (by rw [rn_at hh]; omega), if_neg (show ¬ (true = false) by simp)]
    by_cases hm : mayP 0 x = false
    · have : x < 0 ∨ 2000 ≤ x := by
        simp [mayP] at hm; omega
      rw [if_pos this, if_pos hm]; exact ⟨rfl, rfl⟩
    · have : ¬ (x < 0 ∨ 2000 ≤ x) := by
        simp [mayP] at hm; omega
      rw [if_neg this, if_neg hm, rn_get hh, rn_at hh, rn_row hh]
      refine ⟨rfl, ?_⟩
      simp [NS.rn, NS.row, hh]
theorem rn_back {s : NS} (h : NInv s) : s.rn.back.1 = s.back.1 ∧ s.rn.back.2.1 = s.back.2.1 ∧ s.rn.back.2.2 = s.back.2.2.rn := by
  unfold RN.back NS.back
  cases hp : s.bh.getLast? with
  | none =>
    have e : s.bh = [] := by simpa using hp
    rw [if_pos]
    · exact ⟨rfl, rfl, rfl⟩
    · cases hh : s.has
      · rw [rn_at' hh]; omega
      · rw [rn_at hh, e]; simp
  | some p =>
    have e := getLast?_split hp
    have hne : s.bh ≠ [] := by rw [e]; simp
    have hpos : 0 < s.bh.length := List.length_pos_iff.2 hne
    have hh := has_of_bh h hne
    rw [if_neg (by rw [rn_at hh]; omega)]
    have hrow : s.rn.row = s.bh.dropLast ++ p :: s.now :: s.ah := by
      rw [rn_row hh]; conv => lhs; rw [e]
      simp
    have hlen : s.bh.dropLast.length = s.bh.length - 1 := List.length_dropLast
    refine ⟨?_, rfl, ?_⟩
    · rw [RN.get, rn_at hh, hrow, show ((s.bh.length : Int) - 1).toNat = s.bh.dropLast.length by omega]
      simp
    · simp only [NS.rn, NS.row, hh, if_true]
      rw [hlen]
      congr 1
      · conv => lhs; rw [e]
        simp
      · omega
theorem rn_forward {s : NS} (h : NInv s) : s.rn.forward.1 = s.forward.1 ∧ s.rn.forward.2.1 = s.forward.2.1 ∧ s.rn.forward.2.2 = s.forward.2.2.rn := by
  unfold RN.forward NS.forward
  cases hp : s.ah with
  | nil =>
    rw [if_pos]
    · exact ⟨rfl, rfl, rfl⟩
    · cases hh : s.has
      · rw [rn_at' hh, rn_row' h hh]; simp
      · rw [rn_at hh, rn_row hh, hp]; simp
  | cons p r =>
    have hh := has_of_ah h (by rw [hp]; simp)
    have hl := h.long
    rw [hp] at hl
    simp at hl
    rw [if_neg (by rw [rn_at hh, rn_row hh, hp]; simp; omega)]
    refine ⟨?_, rfl, ?_⟩
    · rw [RN.get, rn_at hh, rn_row hh, hp, show ((s.bh.length : Int) + 1).toNat = s.bh.length + 1 by omega]
      rw [List.getD_eq_getElem?_getD, List.getElem?_append_right (by omega)]
      simp
    · simp only [NS.rn, NS.row, hh, if_true]
      rw [lastN_small (by simp; omega), hp]
      simp
theorem rn_mark {s : NS} (_h : NInv s) : s.rn.mark.1 = s.mark.1 ∧ s.rn.mark.2.1 = s.mark.2.1 ∧ s.rn.mark.2.2 = s.mark.2.2.rn := by
  unfold RN.mark NS.mark
  cases hh : s.has
  · rw [if_pos (by rw [rn_at' hh]; omega), if_pos rfl]; exact ⟨rfl, rfl, rfl⟩
  · rw [if_neg (by rw [rn_at hh]; omega), if_neg (show ¬ (true = false) by simp), rn_get hh]
    have em : s.rn.m = s.mks := rfl
    rw [em]
    by_cases h1 : s.now ∈ s.mks
    · rw [if_pos h1, if_pos h1]; exact ⟨rfl, rfl, rfl⟩
    · rw [if_neg h1, if_neg h1]
      by_cases h2 : 16 ≤ s.mks.length
      · rw [if_pos h2, if_pos h2]; exact ⟨rfl, rfl, rfl⟩
      · rw [if_neg h2, if_neg h2]; exact ⟨rfl, rfl, by simp [NS.rn, NS.row, hh]⟩
theorem ix_iff (s : NS) (i : Int) : s.ix i = false ↔ (i < 0 ∨ s.rn.m.length ≤ i) := by
  have em : s.rn.m = s.mks := rfl
  rw [em]
  simp [NS.ix]; omega
theorem rn_unmark {s : NS} (_h : NInv s) (i : Int) : (s.rn.unmark i).1 = (s.unmark i).1 ∧ (s.rn.unmark i).2 = (s.unmark i).2.rn := by
  unfold RN.unmark NS.unmark
  by_cases h1 : s.ix i = false
  · rw [if_pos ((ix_iff s i).1 h1), if_pos h1]; exact ⟨rfl, rfl⟩
  · rw [if_neg (fun e => h1 ((ix_iff s i).2 e)), if_neg h1]; exact ⟨rfl, rfl⟩
theorem visit_ok {s : NS} {p : Pl} (h : mayQ p = true) : (s.visit p).1 = 0 := by
  unfold NS.visit
  rw [if_neg (by simp [h])]
  split <;> rfl
theorem rn_jump {s : NS} (h : NInv s) (i : Int) : (s.rn.jump i).1 = (s.jump i).1 ∧ (s.rn.jump i).2.1 = (s.jump i).2.1 ∧ (s.rn.jump i).2.2 = (s.jump i).2.2.rn := by
  unfold RN.jump NS.jump
  by_cases h1 : s.ix i = false
  · rw [if_pos ((ix_iff s i).1 h1), if_pos h1]; exact ⟨rfl, rfl, rfl⟩
  · rw [if_neg (fun e => h1 ((ix_iff s i).2 e)), if_neg h1]
    have hm := h.mks _ (ix_mem (by simpa using h1 : s.ix i = true))
    exact ⟨rfl, (visit_ok hm).symm, (rn_visit h _).2⟩
theorem rn_cutD {s : NS} (h : NInv s) (t : Int) : s.rn.cutD t = ((s.cutD t).insteadD t).rn := by
  unfold RN.cutD
  have em : s.rn.m = s.mks := rfl
  cases hh : s.has
  · have e1 := rn_at' hh
    have e2 := rn_row' h hh
    obtain ⟨_, e3, e4⟩ := h.none hh
    rw [e2, em]
    simp [RN.atD, leftP, NS.insteadD, NS.cutD, hh, NS.rn, NS.row, e3, e4]
  · have e1 := rn_at hh
    have e2 := rn_row hh
    have hat : s.rn.atD t s.rn.row.length = ((leftP t (s.bh ++ [s.now])).length : Int) - 1 := by
      unfold RN.atD
      rw [e1, e2]
      have : (s.bh ++ s.now :: s.ah).take (min (s.bh ++ s.now :: s.ah).length ((s.bh.length : Int) + 1).toNat) = s.bh ++ [s.now] := by
        rw [show ((s.bh.length : Int) + 1).toNat = s.bh.length + 1 by omega]
        rw [show min (s.bh ++ s.now :: s.ah).length (s.bh.length + 1) = s.bh.length + 1 by simp]
        rw [List.take_append]
        simp [List.take_of_length_le]
      rw [this]
    rw [hat, e2, em]
    have er : s.bh ++ s.now :: s.ah = s.bh ++ [s.now] ++ s.ah := by simp
    rw [er, leftP_append t (s.bh ++ [s.now]), leftP_append t s.bh]
    by_cases hk : s.now.1 < t
    · have en : leftP t [s.now] = [s.now] := by simp [leftP, hk]
      rw [en]
      have ei : (s.cutD t).insteadD t = s.cutD t := by
        unfold NS.insteadD
        rw [if_neg]
        rintro ⟨_, h2⟩
        simp only [NS.cutD] at h2
        omega
      rw [ei]
      simp only [NS.rn, NS.row, NS.cutD, hh, if_true]
      congr 1
      · rw [if_neg (by simp)]
        simp
    · have en : leftP t [s.now] = [] := by simp [leftP, hk]
      rw [en]
      have ei : (s.cutD t).insteadD t = (s.cutD t).instead := by
        unfold NS.insteadD
        rw [if_pos]
        exact ⟨hh, by simp only [NS.cutD]; omega⟩
      rw [ei]
      unfold NS.instead
      simp only [NS.cutD, List.append_nil]
      cases hp : (leftP t s.bh).getLast? with
      | some p =>
        have e := getLast?_split hp
        have hpos : 0 < (leftP t s.bh).length := by rw [e]; simp
        simp only [NS.rn, NS.row, hh, if_true]
        rw [if_neg (by omega), List.length_dropLast]
        congr 1
        · conv => lhs; rw [e]
        · omega
      | none =>
        have e : leftP t s.bh = [] := by simpa using hp
        rw [e]
        cases hr : leftP t s.ah with
        | nil => simp [NS.rn, NS.row]
        | cons p r => simp [NS.rn, NS.row, hh]
theorem rn_thin {s : NS} (_h : NInv s) : s.rn.thin = s.apartD.rn := by
  unfold RN.thin NS.apartD
  cases hh : s.has
  · rw [if_pos (by rw [rn_at' hh]; omega), if_neg (by simp)]
  · rw [if_neg (by rw [rn_at hh]; omega), if_pos rfl, rn_get hh, rn_at hh, rn_row hh]
    have e1 : (s.bh ++ s.now :: s.ah).take ((s.bh.length : Int)).toNat = s.bh := by simp
    have e2 : (s.bh ++ s.now :: s.ah).drop ((s.bh.length : Int) + 1).toNat = s.ah := by
      rw [show ((s.bh.length : Int) + 1).toNat = s.bh.length + 1 by omega, List.drop_append]
      simp [List.drop_of_length_le]
    simp only [e1, e2]
    simp [NS.rn, NS.row, hh]
theorem rn_drop {s : NS} (h : NInv s) (t : Int) : s.rn.drop t = (s.drop t).rn := by
  unfold RN.drop NS.drop
  rw [rn_cutD h t]
  exact rn_thin ((h.cutD t).insteadD t)
theorem rn_many {s : NS} (h : NInv s) : s.rn.row.length + s.rn.m.length = s.many := by
  have em : s.rn.m = s.mks := rfl
  unfold NS.many
  rw [em]
  cases hh : s.has
  · obtain ⟨_, e3, e4⟩ := h.none hh
    rw [rn_row' h hh]; simp [e3, e4]
  · rw [rn_row hh]; simp; omega
end Go.Proofs.Ytkgdcglnkodgnaa
