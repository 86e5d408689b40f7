/-
  The document's walk over a tree as a plain function; its counters stay small. No condition.
-/
import Derived.Test.YtkgdcglnkodgnaaLr
namespace Go.Proofs.Ytkgdcglnkodgnaa
open Go.RowKit
def overR (q : RQ) (g : Int → Bool → ByteArray → RS → RS) : Bool → List Kp → RS → RS
  | _, [], s => s
  | e, p :: r, s => if s.bad = 0 ∧ (s.out.length : Int) < q.most then overR q g false r (g p.2 e p.1 s) else s
def nodeR (b : List UInt8) (kind : UInt8) (q : RQ) : Nat → Int → Int → Bool → ByteArray → RS → RS
  | 0, _, _, _, _, s => s
  | f + 1, number, level, bg, first, s =>
    if (readK b kind number level).1 ≠ 0 then { s with bad := (readK b kind number level).1 }
    else if q.whole = true ∧ level ≠ -1 ∧ headK (readK b kind number level).2.2 ≠ first then { s with bad := 202 }
    else if (readK b kind number level).2.1 = 0 then leafR q (readK b kind number level).2.2 s
    else overR q (fun number' e first' s => nodeR b kind q f number' ((readK b kind number level).2.1 - 1) e first' s) bg
      ((readK b kind number level).2.2.drop (if bg = true then behindK q.key (readK b kind number level).2.2 - 1 else 0)) s
/-- What keeps the walk's counters small. -/
structure GoodR (b : List UInt8) (kind : UInt8) (s : RS) : Prop where
  rd : GoodW b kind (s.read, s.last)
  mn : GoodW b kind (s.many, s.last)
  z : s.read = 0 → s.many = 0
  o : s.out.length ≤ s.many
theorem GoodR.bad {b : List UInt8} {kind : UInt8} {s : RS} {e : Nat} (h : GoodR b kind s) : GoodR b kind { s with bad := e } := ⟨h.rd, h.mn, h.z, h.o⟩
theorem goodR_start (b : List UInt8) (kind : UInt8) : GoodR b kind ⟨[], 0, ⟨#[]⟩, 0, 0⟩ := ⟨goodW_start b kind, goodW_start b kind, fun _ => rfl, Nat.le_refl _⟩
theorem GoodR.leaf {b : List UInt8} {kind : UInt8} {q : RQ} {s : RS} {number level n : Int} {l : List Kp} (h : GoodR b kind s) (hr : readK b kind number level = (0, n, l)) : GoodR b kind (leafR q l s) := by
  unfold leafR
  by_cases hne : l = []
  · rw [if_pos hne]; exact h
  rw [if_neg hne]
  by_cases hb : 0 < s.read ∧ headLe l s.last = true
  · rw [if_pos hb]; exact h.bad
  rw [if_neg hb]
  have hl : 1 ≤ l.length := by
    cases l with
    | nil => exact absurd rfl hne
    | cons _ _ => simp
  have e : lastKey l = lastD l s.last := by simp [lastD, hne]
  refine ⟨?_, ?_, fun h0 => by simp at h0, ?_⟩
  · have := h.rd.leaf hr hne hb (Nat.le_refl 1) hl
    rw [← e] at this; exact this
  · have := h.mn.leaf hr hne (fun h0 => hb ⟨by
      rcases Nat.eq_zero_or_pos s.read with h1 | h1
      · have := h.z h1; have h2 := h0.1; simp only at h2; omega
      · exact h1, h0.2⟩) hl (Nat.le_refl _)
    rw [← e] at this; exact this
  · have := addR_len q l s.out
    have := h.o
    simp only
    omega
theorem overR_good {b : List UInt8} {kind : UInt8} {q : RQ} {g : Int → Bool → ByteArray → RS → RS} (hg : ∀ number e first s, GoodR b kind s → GoodR b kind (g number e first s)) :
    ∀ (l : List Kp) (e : Bool) (s : RS), GoodR b kind s → GoodR b kind (overR q g e l s)
  | [], _, _, h => h
  | p :: r, e, s, h => by
    rw [overR]
    split
    · exact overR_good hg r false _ (hg _ _ _ _ h)
    · exact h
theorem nodeR_good {b : List UInt8} {kind : UInt8} {q : RQ} : ∀ (f : Nat) (number level : Int) (bg : Bool) (first : ByteArray) (s : RS), GoodR b kind s → GoodR b kind (nodeR b kind q f number level bg first s)
  | 0, _, _, _, _, _, h => h
  | f + 1, number, level, bg, first, s, h => by
    obtain ⟨e, n, l, hr⟩ : ∃ e n l, readK b kind number level = (e, n, l) := ⟨_, _, _, rfl⟩
    rw [nodeR, hr]
    simp only
    split
    · exact h.bad
    · rename_i he
      have he : e = 0 := by omega
      subst he
      split
      · exact h.bad
      · split
        · exact h.leaf hr
        · exact overR_good (fun n' e' f' s' h' => nodeR_good f n' _ e' f' s' h') _ _ _ h
section
variable {b : List UInt8} {kind : UInt8} {q : RQ} {f : Nat} {number level m : Int} {er : Nat} {ps : List Kp} {bg : Bool} {first : ByteArray} {s : RS}
theorem nodeR_err (h : readK b kind number level = (er, m, ps)) (he : er ≠ 0) : nodeR b kind q (f + 1) number level bg first s = { s with bad := er } := by
  rw [nodeR, h, if_pos he]
theorem nodeR_first (h : readK b kind number level = (0, m, ps)) (h1 : q.whole = true ∧ level ≠ -1 ∧ headK ps ≠ first) : nodeR b kind q (f + 1) number level bg first s = { s with bad := 202 } := by
  rw [nodeR, h, if_neg (by simp), if_pos h1]
theorem nodeR_leaf (h : readK b kind number level = (0, 0, ps)) (h1 : ¬ (q.whole = true ∧ level ≠ -1 ∧ headK ps ≠ first)) : nodeR b kind q (f + 1) number level bg first s = leafR q ps s := by
  rw [nodeR, h, if_neg (by simp), if_neg h1]
  simp only
  rw [if_pos trivial]
theorem nodeR_over (h : readK b kind number level = (0, m, ps)) (h1 : ¬ (q.whole = true ∧ level ≠ -1 ∧ headK ps ≠ first)) (h2 : ¬ m = 0) : nodeR b kind q (f + 1) number level bg first s =
    overR q (fun n' e f' s => nodeR b kind q f n' (m - 1) e f' s) bg (ps.drop (if bg = true then behindK q.key ps - 1 else 0)) s := by
  rw [nodeR, h, if_neg (by simp), if_neg h1]
  simp only
  rw [if_neg h2]
end
end Go.Proofs.Ytkgdcglnkodgnaa
