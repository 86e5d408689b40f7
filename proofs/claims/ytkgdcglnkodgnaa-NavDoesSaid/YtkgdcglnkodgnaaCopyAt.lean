/-
  Bytes copied into the middle of an own slice. No condition but sizes.
-/
import Derived.Test.YtkgdcglnkodgnaaOps
import Derived.OwnWalkIn
namespace Go.Proofs.Ytkgdcglnkodgnaa
open Go.RowKit
/-- Cells stored in the middle of an own slice. -/
theorem stored_mid {P : Program} (w : World) (base : Nat) (e : TypeId) (size : Nat) (A : Option Addr) (n c o q : Nat) (xs news : List Value) (hown : Own w base e size A n c xs) (hl : news.length = q * size)
    (h1 : ∀ u ∈ news, u.oneCell' = true) (hq : o + q ≤ n) (hq0 : 0 < q) :
    ∃ ad w', A = some ad ∧ (storeCells (ad.add (o * size)) news).run P w = .ok () w' ∧ Own w' base e size A n c (xs.take (o * size) ++ news ++ xs.drop ((o + q) * size)) ∧ w.grownBy w' (ownBlk A c) := by
  have hon : (o + q) * size ≤ n * size := Nat.mul_le_mul_right _ hq
  have hadd : (o + q) * size = o * size + q * size := Nat.add_mul _ _ _
  have hlen : (xs.take (o * size) ++ news ++ xs.drop ((o + q) * size)).length = n * size := by simp only [List.length_append, List.length_take, List.length_drop, hown.1, hl]; omega
  have hc0 : c ≠ 0 := by have := hown.2.1; omega
  rcases hown.2.2.2 with h0 | ⟨g, off, cur, rfl, hb, hg, hsz, htk⟩
  · exact absurd h0 hc0
  · have hcn : n * size ≤ c * size := Nat.mul_le_mul_right _ hown.2.1
    have hfit : off + o * size + news.length ≤ cur.size := by omega
    have hst := run_storeCells_at P g (off + o * size) e news 0 cur w hg (by simpa using hfit) h1
    simp only [Nat.add_zero] at hst
    refine ⟨_, _, rfl, by rw [add_plain]; exact hst, ⟨hlen, hown.2.1, hown.2.2.1, .inr ⟨g, off, _, rfl, hb, setRow_heap w g cur _ e _ hg, ?_, ?_⟩⟩, ⟨rfl, rfl, rfl, by simp, fun k _ hk => setRow_other w g k _ (fun e => hk ?_)⟩⟩
    · simp only [List.size_toArray, List.length_append, List.length_take, List.length_drop, Array.length_toList]
      omega
    · have hoff : (cur.toList.take off).length = off := by rw [List.length_take, Array.length_toList]; omega
      have e1 : cur.toList.take (off + o * size) = cur.toList.take off ++ xs.take (o * size) := by
        rw [List.take_add, ← htk, List.take_take, Nat.min_eq_left (by omega)]
      rw [e1, List.append_assoc, List.append_assoc, List.drop_append, hoff, List.drop_of_length_le (by omega), Nat.sub_self, List.drop_zero, List.nil_append]
      have hx : (xs.take (o * size)).length = o * size := by rw [List.length_take, hown.1]; omega
      rw [← List.append_assoc, List.take_append]
      have hxn : (xs.take (o * size) ++ news).length = (o + q) * size := by rw [List.length_append, hx, hl]; omega
      rw [hxn, List.take_of_length_le (by omega)]
      congr 1
      rw [← htk, List.drop_take, List.drop_drop]
      congr 2
      rw [hl]; omega
    · simp [ownBlk, hc0, e]
/-- copy into the middle of an own slice. -/
theorem run_copy_mid {P : Program} (w : World) (base : Nat) (t ty e : TypeId) (i : TypeInfo) (size : Nat) (ht : P.underlying t = some (.slice e)) (hi : P.info? e = some i) (hsize : i.size = size)
    (A : Option Addr) (n c : Nat) (xs : List Value) (hown : Own w base e size A n c xs) (o nd cd : Nat) (hnd : nd = n - o)
    (S : Option Addr) (m cs : Nat) (news : List Value) (hr : Rd w size S m news) (h1 : ∀ u ∈ news, u.oneCell' = true) (hm : 0 < m) (ho : o < n) :
    ∃ w', (Builtin.copy_ #[t, t] ty #[.slice (A.map (·.add (o * size))) nd cd, .slice S m cs]).run P w = .ok (goInt (min m nd : Nat)) w' ∧
      Own w' base e size A n c (xs.take (o * size) ++ news.take (min m nd * size) ++ xs.drop ((o + min m nd) * size)) ∧ w.grownBy w' (ownBlk A c) := by
  subst hsize; subst hnd
  have hr' := Rd.take_ w hr (q := min m (n - o)) (by omega)
  have hf := run_firstCells_rd (P := P) w i.size (min m (n - o)) cs S _ hr'
  obtain ⟨ad, w', rfl, hst, hown', hg⟩ := stored_mid (P := P) w base e i.size A n c o (min m (n - o)) xs _ hown hr'.1 (fun u hu => h1 u (List.mem_of_mem_take hu)) (by omega) (by omega)
  refine ⟨w', ?_, hown', hg⟩
  have hff : (Builtin.firstCells i.size (Nat.min m (n - o)) (.slice S m cs)).run P w = .ok (news.take (min m (n - o) * i.size)).toArray w := by
    rw [show Nat.min m (n - o) = min m (n - o) from rfl]
    cases S with
    | none => exact hf
    | some a => exact hf
  simp only [Builtin.copy_, Option.map_some]
  simp [run_underlying ht, Builtin.lenOf, sizeOf, typeInfo, hi, hff, hst]
/-- append and copy, their run known, inside a fence. -/
theorem wpListIn_append_run {F : Fence} {k0 : Nat} {P : Program} {ops : Array Oper} {rest : List Oper} {o : Oper} {a : Act} {w : World} {Q : Exit → Act → World → Prop} (hgd : o.guard = none) (s x : Operand) (t u : TypeId)
    (ho : o.op = .call { callee := .builtin .append, args := #[s, x], argTypes := #[t, u] }) (vs vx : Value) (hs : a.eval s = vs) (hx : a.eval x = vx)
    {R : Value → World → Prop} (hr : ∃ v w', (Builtin.append_ #[t, u] o.type #[vs, vx]).run P w = .ok v w' ∧ R v w')
    (h : ∀ v w', R v w' → wpListIn F k0 P ops Q rest (a.put o.dst v) w') : wpListIn F k0 P ops Q (o :: rest) a w := by
  obtain ⟨v, w', hr, hR⟩ := hr
  refine wpListIn_plain hgd fun K hK => ?_
  unfold Oper.wpIn
  refine ⟨?_, ?_⟩
  · simp [Oper.about, ho, resolve, Target.leads, Sem.run_pure]
  · rw [Oper.semAt_plain F _ _ (by rw [ho]; intro c hc'; cases hc')]
    unfold execOp
    simp only [ho, resolve, invoke, builtin, Sem.run_bind, Sem.run_pure, Result.andThen_ok, List.map_toArray, List.map_cons, List.map_nil, hs, hx, hr]
    exact hK _ _ (h v w' hR)
theorem wpListIn_copy_run {F : Fence} {k0 : Nat} {P : Program} {ops : Array Oper} {rest : List Oper} {o : Oper} {a : Act} {w : World} {Q : Exit → Act → World → Prop} (hgd : o.guard = none) (s x : Operand) (t u : TypeId)
    (ho : o.op = .call { callee := .builtin .copy, args := #[s, x], argTypes := #[t, u] }) (vs vx : Value) (hs : a.eval s = vs) (hx : a.eval x = vx)
    {R : Value → World → Prop} (hr : ∃ v w', (Builtin.copy_ #[t, u] o.type #[vs, vx]).run P w = .ok v w' ∧ R v w')
    (h : ∀ v w', R v w' → wpListIn F k0 P ops Q rest (a.put o.dst v) w') : wpListIn F k0 P ops Q (o :: rest) a w := by
  obtain ⟨v, w', hr, hR⟩ := hr
  refine wpListIn_plain hgd fun K hK => ?_
  unfold Oper.wpIn
  refine ⟨?_, ?_⟩
  · simp [Oper.about, ho, resolve, Target.leads, Sem.run_pure]
  · rw [Oper.semAt_plain F _ _ (by rw [ho]; intro c hc'; cases hc')]
    unfold execOp
    simp only [ho, resolve, invoke, builtin, Sem.run_bind, Sem.run_pure, Result.andThen_ok, List.map_toArray, List.map_cons, List.map_nil, hs, hx, hr]
    exact hK _ _ (h v w' hR)
/-- Bytes copied into the middle, inside a fence. -/
theorem wlIn_copy8_mid {F : Fence} {k0 : Nat} {w : World} {ops : Array Oper} {rest : List Oper} {o : Oper} {a : Act} {Q : Exit → Act → World → Prop} (hgd : o.guard = none) (s x : Operand) (ho : o.op = .call { callee := .builtin .copy, args := #[s, x], argTypes := #[22, 22] })
    {base : Nat} {A S : Option Addr} {n c m cs p nd cd : Nat} {l k : List UInt8} (hs : a.eval s = .slice (A.map (·.add p)) nd cd) (hx : a.eval x = .slice S m cs) (hnd : nd = n - p) (hown : Own8 w base A n c l) (hr : Rd8 w S m k) (hm : 0 < m) (hp : p < n)
    (h : ∀ w', Own8 w' base A n c (l.take p ++ k.take (min m nd) ++ l.drop (p + min m nd)) → w.grownBy w' (ownBlk A c) → wpListIn F k0 Try.prog ops Q rest (a.put o.dst (.int .i64 (min m nd : Nat))) w') : wpListIn F k0 Try.prog ops Q (o :: rest) a w := by
  obtain ⟨i0, hi, hz0, hz1, hz2⟩ := info_parts info5
  obtain ⟨w', hrun, ho', hg⟩ := run_copy_mid (P := Try.prog) w base 22 o.type 5 i0 1 Try.underlying22 hi hz1 A n c (bc l) hown p nd cd hnd S m cs (bc k) hr (bc_one k) hm hp
  simp only [Nat.mul_one, bc_take, bc_drop, ← bc_append] at hrun ho'
  exact wpListIn_copy_run hgd s x 22 22 ho _ _ hs hx (R := fun v w'' => v = goInt (min m nd : Nat) ∧ w'' = w') ⟨_, _, hrun, rfl, rfl⟩ (fun v w'' hv => by rw [hv.1, hv.2]; exact h w' ho' hg)
end Go.Proofs.Ytkgdcglnkodgnaa
