/-
  Slices of places (api.Place, two cells each): what they read as; append.
-/
import Derived.Test.YtkgdcglnkodgnaaNav
namespace Go.Proofs.Ytkgdcglnkodgnaa
open Go.RowKit
/-- The cells of places. -/
def pc : List (Int × Int) → List Value
  | [] => []
  | p :: r => .int .i64 p.1 :: .int .i64 p.2 :: pc r
theorem pc_append (l k : List (Int × Int)) : pc (l ++ k) = pc l ++ pc k := by
  induction l with
  | nil => rfl
  | cons p r ih => simp [pc, ih]
theorem pc_length (l : List (Int × Int)) : (pc l).length = l.length * 2 := by
  induction l with
  | nil => rfl
  | cons p r ih => simp [pc, ih]; omega
theorem pc_one (l : List (Int × Int)) : ∀ u ∈ pc l, u.oneCell' = true := by
  induction l with
  | nil => simp [pc]
  | cons p r ih =>
    intro u hu
    simp only [pc, List.mem_cons] at hu
    rcases hu with rfl | rfl | hu
    · rfl
    · rfl
    · exact ih u hu
/-- The slice reads as places. -/
def RdP (w : World) (A : Option Addr) (n : Nat) (l : List (Int × Int)) : Prop := Rd w 2 A n (pc l)
def OwnP (w : World) (base : Nat) (A : Option Addr) (n c : Nat) (l : List (Int × Int)) : Prop := Own w base 58 2 A n c (pc l)
def AppP (w : World) (base : Nat) (A : Option Addr) (c n' : Nat) (l' : List (Int × Int)) (v : Value) (w' : World) : Prop :=
  ∃ A' c', v = .slice A' n' c' ∧ OwnP w' base A' n' c' l' ∧ w.grownBy w' (ownBlk A c) ∧ ((A' = A ∧ c' = c ∧ n' ≤ c) ∨ A' = some ⟨w.heap.size, 0, none⟩)
theorem info58 : (Try.prog.info? 58).map (fun i => (i.zero, i.size, i.bytes)) = some (some (.agg #[.int .i64 0, .int .i64 0]), 2, 16) := by kernel_rfl
section
variable {w : World} {ops : Array Oper} {rest : List Oper} {o : Oper} {a : Act} {Q : Exit → Act → World → Prop}
theorem wl_appP (hgd : o.guard = none) (s x : Operand) (ho : o.op = .call { callee := .builtin .append, args := #[s, x], argTypes := #[67, 67] })
    {base : Nat} {A S : Option Addr} {n c m cs : Nat} {l k : List (Int × Int)} (hs : a.eval s = .slice A n c) (hx : a.eval x = .slice S m cs)
    (hown : OwnP w base A n c l) (hr : RdP w S m k) (hb : n + m ≤ 8796093022208) (hbase : base ≤ w.heap.size)
    (h : ∀ v w', AppP w base A c (n + m) (l ++ k) v w' → wpList Try.prog ops Q rest (a.put o.dst v) w') : wpList Try.prog ops Q (o :: rest) a w := by
  obtain ⟨i0, hi, hz0, hz1, hz2⟩ := info_parts info58
  obtain ⟨A', c', w', hrun, hap⟩ := run_append_rd (P := Try.prog) w base 67 o.type 58 i0 _ 2 16 Try.underlying67 hi hz0 hz1 hz2 rfl A n c (pc l) hown S m cs (pc k) hr (pc_one k) (by unfold maxLen; omega) (by omega) hbase
  refine wpList_run w hgd s x 67 67 ho _ _ hs hx (R := AppP w base A c (n + m) (l ++ k)) ⟨_, w', hrun, A', c', rfl, ?_, hap.2⟩ h
  have := hap.1
  rw [← pc_append] at this
  exact this
/-- The same, in a region that draws its order. -/
theorem st_appP {K : Act → World → Prop} {E : Prop} (hgd : o.guard = none) (s x : Operand) (ho : o.op = .call { callee := .builtin .append, args := #[s, x], argTypes := #[67, 67] })
    {base : Nat} {A S : Option Addr} {n c m cs : Nat} {l k : List (Int × Int)} (hs : a.eval s = .slice A n c) (hx : a.eval x = .slice S m cs)
    (hown : OwnP w base A n c l) (hr : RdP w S m k) (hb : n + m ≤ 8796093022208) (hbase : base ≤ w.heap.size)
    (h : ∀ v w', AppP w base A c (n + m) (l ++ k) v w' → K (a.put o.dst v) w') : if Region.wanted o (yielded ops a.tmps) = true then Oper.wp Try.prog o a w K Q else E := by
  obtain ⟨i0, hi, hz0, hz1, hz2⟩ := info_parts info58
  obtain ⟨A', c', w', hrun, hap⟩ := run_append_rd (P := Try.prog) w base 67 o.type 58 i0 _ 2 16 Try.underlying67 hi hz0 hz1 hz2 rfl A n c (pc l) hown S m cs (pc k) hr (pc_one k) (by unfold maxLen; omega) (by omega) hbase
  refine step_run w hgd s x 67 67 ho _ _ hs hx (R := AppP w base A c (n + m) (l ++ k)) ⟨_, w', hrun, A', c', rfl, ?_, hap.2⟩ h
  have := hap.1
  rw [← pc_append] at this
  exact this
end
theorem below_appP {w0 w w' : World} {base : Nat} {A : Option Addr} {n c : Nat} {l : List (Int × Int)} (hb : Below base w0 w) (hsz : base ≤ w.heap.size) (ho : OwnP w base A n c l) (hg : w.grownBy w' (ownBlk A c)) : Below base w0 w' :=
  hb.grown hg hsz fun _ h => (Own.lt ho h).1
end Go.Proofs.Ytkgdcglnkodgnaa
