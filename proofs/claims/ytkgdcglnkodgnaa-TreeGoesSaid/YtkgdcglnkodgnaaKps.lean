/-
  Slices of pairs (api.Pair, a string and a number): what they read as; append. No condition.
-/
import Derived.Test.YtkgdcglnkodgnaaPut
namespace Go.Proofs.Ytkgdcglnkodgnaa
open Go.RowKit
/-- A pair: key and number. -/
abbrev Kp := ByteArray × Int
/-- The cells of pairs. -/
def kc : List Kp → List Value
  | [] => []
  | p :: r => .string p.1 :: .int .i64 p.2 :: kc r
def kpV (p : Kp) : Value := .agg #[.string p.1, .int .i64 p.2]
theorem kc_append (l k : List Kp) : kc (l ++ k) = kc l ++ kc k := by
  induction l with
  | nil => rfl
  | cons p r ih => simp [kc, ih]
theorem kc_length (l : List Kp) : (kc l).length = l.length * 2 := by
  induction l with
  | nil => rfl
  | cons p r ih => simp [kc, ih]; omega
theorem kc_one (l : List Kp) : ∀ u ∈ kc l, u.oneCell' = true := by
  induction l with
  | nil => simp [kc]
  | cons p r ih =>
    intro u hu
    simp only [kc, List.mem_cons] at hu
    rcases hu with rfl | rfl | hu
    · rfl
    · rfl
    · exact ih u hu
theorem kc_drop (l : List Kp) (k : Nat) : (kc l).drop (k * 2) = kc (l.drop k) := by
  induction l generalizing k with
  | nil => simp [kc]
  | cons p r ih =>
    cases k with
    | zero => rfl
    | succ k =>
      rw [show (k + 1) * 2 = k * 2 + 2 by omega]
      simp only [kc, List.drop_succ_cons]
      exact ih k
theorem kc_take (l : List Kp) (k : Nat) : (kc l).take (k * 2) = kc (l.take k) := by
  induction l generalizing k with
  | nil => simp [kc]
  | cons p r ih =>
    cases k with
    | zero => rfl
    | succ k =>
      rw [show (k + 1) * 2 = k * 2 + 2 by omega]
      simp only [kc, List.take_succ_cons]
      rw [ih k]
/-- The slice reads as pairs. -/
def RdK (w : World) (A : Option Addr) (n : Nat) (l : List Kp) : Prop := Rd w 2 A n (kc l)
def OwnK (w : World) (base : Nat) (A : Option Addr) (n c : Nat) (l : List Kp) : Prop := Own w base 113 2 A n c (kc l)
def AppK (w : World) (base : Nat) (A : Option Addr) (c n' : Nat) (l' : List Kp) (v : Value) (w' : World) : Prop :=
  ∃ A' c', v = .slice A' n' c' ∧ OwnK w' base A' n' c' l' ∧ w.grownBy w' (ownBlk A c) ∧ ((A' = A ∧ c' = c ∧ n' ≤ c) ∨ A' = some ⟨w.heap.size, 0, none⟩)
theorem info113 : (Try.prog.info? 113).map (fun i => (i.zero, i.size, i.bytes)) = some (some (.agg #[.string ⟨#[]⟩, .int .i64 0]), 2, 24) := by kernel_rfl
section
variable {w : World} {ops : Array Oper} {rest : List Oper} {o : Oper} {a : Act} {Q : Exit → Act → World → Prop}
theorem wl_appK (hgd : o.guard = none) (s x : Operand) (ho : o.op = .call { callee := .builtin .append, args := #[s, x], argTypes := #[84, 84] })
    {base : Nat} {A S : Option Addr} {n c m cs : Nat} {l k : List Kp} (hs : a.eval s = .slice A n c) (hx : a.eval x = .slice S m cs)
    (hown : OwnK w base A n c l) (hr : RdK w S m k) (hb : n + m ≤ 4398046511104) (hbase : base ≤ w.heap.size)
    (h : ∀ v w', AppK w base A c (n + m) (l ++ k) v w' → wpList Try.prog ops Q rest (a.put o.dst v) w') : wpList Try.prog ops Q (o :: rest) a w := by
  obtain ⟨i0, hi, hz0, hz1, hz2⟩ := info_parts info113
  obtain ⟨A', c', w', hrun, hap⟩ := run_append_rd (P := Try.prog) w base 84 o.type 113 i0 _ 2 24 Try.underlying84 hi hz0 hz1 hz2 rfl A n c (kc l) hown S m cs (kc k) hr (kc_one k) (by unfold maxLen; omega) (by omega) hbase
  refine wpList_run w hgd s x 84 84 ho _ _ hs hx (R := AppK w base A c (n + m) (l ++ k)) ⟨_, w', hrun, A', c', rfl, ?_, hap.2⟩ h
  have := hap.1
  rw [← kc_append] at this
  exact this
/-- The same, in a region that draws its order. -/
theorem st_appK {K : Act → World → Prop} {E : Prop} (hgd : o.guard = none) (s x : Operand) (ho : o.op = .call { callee := .builtin .append, args := #[s, x], argTypes := #[84, 84] })
    {base : Nat} {A S : Option Addr} {n c m cs : Nat} {l k : List Kp} (hs : a.eval s = .slice A n c) (hx : a.eval x = .slice S m cs)
    (hown : OwnK w base A n c l) (hr : RdK w S m k) (hb : n + m ≤ 4398046511104) (hbase : base ≤ w.heap.size)
    (h : ∀ v w', AppK w base A c (n + m) (l ++ k) v w' → K (a.put o.dst v) w') : if Region.wanted o (yielded ops a.tmps) = true then Oper.wp Try.prog o a w K Q else E := by
  obtain ⟨i0, hi, hz0, hz1, hz2⟩ := info_parts info113
  obtain ⟨A', c', w', hrun, hap⟩ := run_append_rd (P := Try.prog) w base 84 o.type 113 i0 _ 2 24 Try.underlying84 hi hz0 hz1 hz2 rfl A n c (kc l) hown S m cs (kc k) hr (kc_one k) (by unfold maxLen; omega) (by omega) hbase
  refine step_run w hgd s x 84 84 ho _ _ hs hx (R := AppK w base A c (n + m) (l ++ k)) ⟨_, w', hrun, A', c', rfl, ?_, hap.2⟩ h
  have := hap.1
  rw [← kc_append] at this
  exact this
end
section
variable {w : World} {base : Nat} {A : Option Addr} {n c : Nat} {l : List Kp}
theorem below_appK {w0 w' : World} (hb : Below base w0 w) (hsz : base ≤ w.heap.size) (ho : OwnK w base A n c l) (hg : w.grownBy w' (ownBlk A c)) : Below base w0 w' :=
  hb.grown hg hsz fun _ h => (Own.lt ho h).1
theorem RdK.len (h : RdK w A n l) : l.length = n := by have := h.1; rw [kc_length] at this; omega
theorem OwnK.len (h : OwnK w base A n c l) : l.length = n := RdK.len (Own.rd h)
theorem OwnK.nil_ (w : World) (base : Nat) (A : Option Addr) : OwnK w base A 0 0 [] := Own.nil_ w base 113 2 A
theorem RdK.nil_ (w : World) (A : Option Addr) : RdK w A 0 [] := Rd.nil_
theorem RdK.get (h : RdK w A n l) {k : Nat} {p : Kp} (hk : l[k]? = some p) :
    ∃ ad, A = some ad ∧ w.cell? (ad.add (k * 2)) = some (.string p.1) ∧ w.cell? ⟨(ad.add (k * 2)).block, (ad.add (k * 2)).off + 1, none⟩ = some (.int .i64 p.2) := by
  have hkl : k < l.length := (List.getElem?_eq_some_iff.1 hk).1
  have hn : l.length = n := h.len
  have hcells : ∀ (l : List Kp) (k : Nat) (p : Kp), l[k]? = some p → (kc l)[k * 2]? = some (.string p.1) ∧ (kc l)[k * 2 + 1]? = some (.int .i64 p.2) := by
    intro l
    induction l with
    | nil => intro k p h; simp at h
    | cons q r ih =>
      intro k p h
      cases k with
      | zero => simp at h; subst h; exact ⟨rfl, rfl⟩
      | succ k => rw [show (k + 1) * 2 = k * 2 + 2 by omega]; exact ih k p h
  obtain ⟨h1, h2⟩ := hcells l k p hk
  obtain ⟨ad, hA, hc⟩ := h.2 (by omega)
  refine ⟨ad, hA, hc _ _ h1, ?_⟩
  have e := hc _ _ h2
  rw [← add_add'] at e
  exact e
theorem RdK.cut (h : RdK w A n l) {a b m : Nat} (h1 : a ≤ b) (h2 : b ≤ n) (h3 : b ≤ m) : RdK w (if m = a then A else A.map (·.add (a * 2))) (b - a) ((l.drop a).take (b - a)) := by
  have := Rd.cut h h1 h2 h3
  rw [kc_drop, kc_take] at this
  exact this
theorem RdK.take_ (h : RdK w A n l) {k : Nat} (hk : k ≤ n) : RdK w A k (l.take k) := by
  have := Rd.take_ (w := w) h (q := k) hk
  rw [kc_take] at this
  exact this
theorem RdK.newAt (w : World) (k : List Kp) {cs : Array Value} (h : cs = (kc k).toArray) {m H : Nat} (hm : m = k.length) (hH : H = w.heap.size) : RdK (w.alloc (.cells cs 113)) (some ⟨H, 0, none⟩) m k := by
  subst h; subst hm; subst hH
  refine ⟨by rw [kc_length], fun _ => ⟨_, rfl, fun j u hu => ?_⟩⟩
  rw [add_plain, cell_of_row _ _ _ _ _ _ (heap_alloc_new w _), Nat.zero_add]
  simpa using hu
end
theorem box_loadK {w : World} {g : Nat} {a b : Value} (h : w.heap[g]? = some (.cells #[a, b] 113 (0, 0))) : w.cell? ⟨g, 0, none⟩ = some a ∧ w.cell? ⟨g, 1, none⟩ = some b :=
  ⟨(cell_of_row _ _ 0 _ _ _ h).trans rfl, (cell_of_row _ _ 1 _ _ _ h).trans rfl⟩
/-- A pair's bytes. -/
def pairB (p : Kp) : List UInt8 := putU p.1.size ++ p.1.data.toList ++ putU p.2.toNat
/-- One key not behind another; a key ahead of another. -/
def leK (a b : ByteArray) : Bool := Op.bytesLess a.toList b.toList || a.toList == b.toList
def ltK (a b : ByteArray) : Bool := Op.bytesLess a.toList b.toList
end Go.Proofs.Ytkgdcglnkodgnaa
