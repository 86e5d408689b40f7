/-
  The laws' own function 'bytes': where its answer lies. No condition but sizes.
-/
import Derived.Test.YtkgdcglnkodgnaaOps
namespace Go.Proofs.Ytkgdcglnkodgnaa
open Go.RowKit
/-- append: there is room; the answer lies where the destination lay. -/
theorem run_append_stay {P : Program} {w : World} (base : Nat) (t ty e : TypeId) (i : TypeInfo) (size : Nat) (ht : P.underlying t = some (.slice e)) (hi : P.info? e = some i) (hsize : i.size = size)
    (A : Option Addr) (n c : Nat) (xs : List Value) (hown : Own w base e size A n c xs)
    (S : Option Addr) (m cs : Nat) (news : List Value) (hr : Rd w size S m news) (h1 : ∀ u ∈ news, u.oneCell' = true) (hroom : n + m ≤ c) :
    ∃ w', (Builtin.append_ #[t, t] ty #[.slice A n c, .slice S m cs]).run P w = .ok (.slice A (n + m) c) w' ∧ Appended w w' base e size A c A (n + m) c (xs ++ news) := by
  subst hsize
  obtain ⟨w', hst, hap⟩ := appended_room (P := P) w base e i.size A n c m xs news hown hr.1 h1 hroom
  refine ⟨w', ?_, hap⟩
  have hf := run_firstCells_rd (P := P) w i.size m cs S news hr
  cases A with
  | none =>
    simp only [Sem.run_pure] at hst
    injection hst with _ hst
    subst hst
    simp [Builtin.append_, run_underlying ht, sizeOf, typeInfo, hi, Builtin.lenOf, hroom, hf]
  | some a =>
    simp only at hst
    simp [Builtin.append_, run_underlying ht, sizeOf, typeInfo, hi, Builtin.lenOf, hroom, hf, hst]
section
variable {w : World} {ops : Array Oper} {rest : List Oper} {o : Oper} {a : Act} {Q : Exit → Act → World → Prop}
theorem wl_app8_stay (hgd : o.guard = none) (s x : Operand) (ho : o.op = .call { callee := .builtin .append, args := #[s, x], argTypes := #[22, 22] })
    {base : Nat} {A S : Option Addr} {n c m cs : Nat} {l k : List UInt8} (hs : a.eval s = .slice A n c) (hx : a.eval x = .slice S m cs)
    (hown : Own8 w base A n c l) (hr : Rd8 w S m k) (hroom : n + m ≤ c)
    (h : ∀ v w', (v = .slice A (n + m) c ∧ Own8 w' base A (n + m) c (l ++ k) ∧ w.grownBy w' (ownBlk A c)) → wpList Try.prog ops Q rest (a.put o.dst v) w') : wpList Try.prog ops Q (o :: rest) a w := by
  obtain ⟨i0, hi, hz0, hz1, hz2⟩ := info_parts info5
  obtain ⟨w', hrun, hap⟩ := run_append_stay (P := Try.prog) base 22 o.type 5 i0 1 Try.underlying22 hi hz1 A n c (bc l) hown S m cs (bc k) hr (bc_one k) hroom
  refine wpList_run w hgd s x 22 22 ho _ _ hs hx (R := fun v w' => v = .slice A (n + m) c ∧ Own8 w' base A (n + m) c (l ++ k) ∧ w.grownBy w' (ownBlk A c)) ⟨_, w', hrun, rfl, ?_, hap.2.1⟩ h
  have := hap.1
  rw [← bc_append] at this
  exact this
end
/-- Bytes in new memory, of which the address is known. -/
def Ret8w (w0 : World) (l : List UInt8) (e : Ending) (w' : World) : Prop :=
  ∃ A n c, e = .returned (.slice A n c) ∧ Own8 w' w0.heap.size A n c l ∧ Below w0.heap.size w0 w' ∧ ∀ ad, A = some ad → w0.heap.size ≤ ad.block ∧ ad.block < w'.heap.size
set_option maxRecDepth 100000 in
set_option maxHeartbeats 400000 in
theorem bytes66w (A : Option Addr) (n c : Nat) (l : List UInt8) (w : World) (h : Rd8 w A n l) (hn : n ≤ 140737488355328) : Calls Try.prog 66 #[.slice A n c] w (Ret8w w l) := by
  by_cases hz : n = 0
  · subst hz
    go_enter Try.func66, Try.ntmps66
    go_wp2_with (first | (at_builtin; refine wl_app8_stay rfl (.tmp 3) (.tmp 4) rfl rfl rfl (Own8.nil_ _ w.heap.size _) (Rd8.below h ((Below.refl _ _).alloc (Nat.le_refl _) _)) (by omega) ?_; rintro v w1 ⟨rfl, hown, hg⟩))
    go_ret
    simp only [Nat.zero_add, List.nil_append] at hown ⊢
    have hs := hg.size
    rw [World.size_alloc] at hs
    exact ⟨_, _, _, rfl, hown, below_app ((Below.refl _ _).alloc (Nat.le_refl _) _) (by simp) (Own8.nil_ _ _ _) hg, fun ad e => by injection e with e; subst e; exact ⟨Nat.le_refl _, hs⟩⟩
  · go_enter Try.func66, Try.ntmps66
    go_wp2_with (first | (at_builtin; refine wl_app8 rfl (.tmp 3) (.tmp 4) rfl rfl rfl (Own8.nil_ _ w.heap.size _) (Rd8.below h ((Below.refl _ _).alloc (Nat.le_refl _) _)) (by omega) (by simp) ?_; rintro v w1 ⟨A', c', rfl, hown, hg, _⟩))
    go_ret
    simp only [Nat.zero_add, List.nil_append] at hown ⊢
    refine ⟨_, _, _, rfl, hown, below_app ((Below.refl _ _).alloc (Nat.le_refl _) _) (by simp) (Own8.nil_ _ _ _) hg, fun ad e => ?_⟩
    subst e
    exact Own.lt hown (g := ad.block) (by have := (Own8.le hown).1; simp [ownBlk]; omega)
end Go.Proofs.Ytkgdcglnkodgnaa
