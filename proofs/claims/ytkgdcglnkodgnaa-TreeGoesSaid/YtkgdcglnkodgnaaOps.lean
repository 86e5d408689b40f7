/-
  The laws of YtkgdcglnkodgnaaBase at this program's types: bytes. No condition.
-/
import Derived.Test.YtkgdcglnkodgnaaProg
import Derived.Test.YtkgdcglnkodgnaaBase
import Derived.Test.YtkgdcglnkodgnaaCrc
import Derived.KernelRfl
import Derived.Deep.RegionLaw
import Derived.Deep.QuietTactic
import Derived.BigQuiet
import Derived.Deep.RegionHeld3
import Derived.Deep.DeepCutAuto
import Derived.Deep.LoopGhost
import Derived.Deep.DeepFit
namespace Go.Proofs.Ytkgdcglnkodgnaa
open Go.RowKit

theorem info5 : (Try.prog.info? 5).map (fun i => (i.zero, i.size, i.bytes)) = some (some (.int .u8 0), 1, 1) := by kernel_rfl

/-- Bytes as cells. -/
def bc (l : List UInt8) : List Value := l.map fun b => .int .u8 (b.toNat : Int)
theorem bc_length (l : List UInt8) : (bc l).length = l.length := by simp [bc]
theorem bc_append (l m : List UInt8) : bc (l ++ m) = bc l ++ bc m := by simp [bc]
theorem bc_one (l : List UInt8) : ∀ u ∈ bc l, u.oneCell' = true := by
  intro u hu; simp [bc] at hu; obtain ⟨b, _, rfl⟩ := hu; rfl
theorem bc_take (l : List UInt8) (n : Nat) : (bc l).take n = bc (l.take n) := by simp [bc]
theorem bc_drop (l : List UInt8) (n : Nat) : (bc l).drop n = bc (l.drop n) := by simp [bc]
theorem bc_inj {l m : List UInt8} (h : bc l = bc m) : l = m := by
  refine List.map_inj_right (fun a b hab => ?_) |>.1 h
  injection hab with _ h
  rw [← UInt8.toNat_inj]; omega

def Rd8 (w : World) (A : Option Addr) (n : Nat) (l : List UInt8) : Prop := Rd w 1 A n (bc l)
def Own8 (w : World) (base : Nat) (A : Option Addr) (n c : Nat) (l : List UInt8) : Prop := Own w base 5 1 A n c (bc l)

section
variable {w w' : World} {A : Option Addr} {n c base : Nat} {l : List UInt8}
theorem Rd8.len (h : Rd8 w A n l) : l.length = n := by have := h.1; rw [bc_length] at this; omega
theorem Rd8.nil_ : Rd8 w A 0 [] := Rd.nil_
theorem Rd8.below (h : Rd8 w A n l) (hb : Below w.heap.size w w') : Rd8 w' A n l := Rd.below h hb
theorem Rd8.keep (h : Rd8 w A n l) (hk : ∀ p : Addr, p.block < w.heap.size → w'.cell? p = w.cell? p) : Rd8 w' A n l := Rd.keep h hk
theorem Rd8.alloc (h : Rd8 w A n l) (o : Obj) : Rd8 (w.alloc o) A n l := Rd.alloc h o
theorem Rd8.drew (h : Rd8 w A n l) : Rd8 w.drew A n l := h
theorem Rd8.at_ (h : Rd8 w A n l) {k : Nat} (hk : k < n) : ∃ ad x, A = some ad ∧ l[k]? = some x ∧ w.cell? (ad.add k) = some (.int .u8 (x.toNat : Int)) := by
  obtain ⟨ad, e, hc⟩ := h.2 (by omega)
  have hl : k < l.length := by rw [h.len]; exact hk
  refine ⟨ad, l[k], e, List.getElem?_eq_getElem hl, hc k _ ?_⟩
  simp [bc, hl]
theorem Rd8.cut (h : Rd8 w A n l) {a b m : Nat} (h1 : a ≤ b) (h2 : b ≤ n) (h3 : b ≤ m) : Rd8 w (if m = a then A else A.map (·.add (a * 1))) (b - a) ((l.drop a).take (b - a)) := by
  have := Rd.cut h h1 h2 h3
  simp only [Nat.mul_one, bc_drop, bc_take] at this ⊢
  exact this
theorem Own8.len (h : Own8 w base A n c l) : l.length = n := by have := h.1; rw [bc_length] at this; omega
theorem Own8.le (h : Own8 w base A n c l) : n ≤ c ∧ c ≤ maxLen := Own.le h
theorem Own8.nil_ (w : World) (base : Nat) (A : Option Addr) : Own8 w base A 0 0 [] := Own.nil_ w base 5 1 A
theorem Own8.mono (h : Own8 w base A n c l) {b : Nat} (hb : b ≤ base) : Own8 w b A n c l := Own.mono h hb
theorem Own8.below (h : Own8 w base A n c l) (hb : Below w.heap.size w w') : Own8 w' base A n c l := Own.below h hb
theorem Own8.alloc (h : Own8 w base A n c l) (o : Obj) : Own8 (w.alloc o) base A n c l := Own.alloc h o
theorem Own8.drew (h : Own8 w base A n c l) : Own8 w.drew base A n c l := h
theorem Own8.grown (h : Own8 w base A n c l) {row : Option Nat} (hg : w.grownBy w' row) (hne : ∀ g, ownBlk A c = some g → row ≠ some g) : Own8 w' base A n c l := Own.grown h hg hne
theorem Own8.lt (h : Own8 w base A n c l) {g : Nat} (hg : ownBlk A c = some g) : base ≤ g ∧ g < w.heap.size := Own.lt h hg
theorem Own8.rd (h : Own8 w base A n c l) : Rd8 w A n l := Own.rd h
theorem Own8.cut (h : Own8 w base A n c l) {a b : Nat} (h1 : a ≤ b) (h2 : b ≤ n) : Own8 w base (if c = a then A else A.map (·.add (a * 1))) (b - a) (c - a) ((l.drop a).take (b - a)) := by
  have := Own.cut h h1 h2
  simp only [Nat.mul_one, bc_drop, bc_take] at this ⊢
  exact this
end

theorem Own8.at_ {w : World} {A : Option Addr} {n c base : Nat} {l : List UInt8} (h : Own8 w base A n c l) {k : Nat} (hk : k < n) :
    ∃ ad x, A = some ad ∧ l[k]? = some x ∧ w.cell? (ad.add k) = some (.int .u8 (x.toNat : Int)) ∧ w.frozen? (ad.add k) = false ∧ ownBlk A c = some ad.block := by
  obtain ⟨ad, u, h1, h2, h3, h4, h5⟩ := Own.at_ h (j := k) (by omega)
  have hl : k < l.length := by rw [h.len]; exact hk
  refine ⟨ad, l[k], h1, List.getElem?_eq_getElem hl, ?_, h4, h5⟩
  simp [bc, hl] at h2
  rw [h3, ← h2]
theorem Own8.set_ {w : World} {A : Option Addr} {n c base : Nat} {l : List UInt8} (h : Own8 w base A n c l) {k : Nat} (hk : k < n) {ad : Addr} (hA : A = some ad) (x : UInt8) :
    Own8 (w.setCell (ad.add k) (.int .u8 (x.toNat : Int))) base A n c (l.set k x) := by
  have := Own.set_ h (j := k) (by omega) hA (.int .u8 (x.toNat : Int))
  have e : (bc l).set k (.int .u8 (x.toNat : Int)) = bc (l.set k x) := by simp [bc, List.map_set]
  rw [e] at this
  exact this
/-- string(b). -/
theorem run_str8 {w : World} {A : Option Addr} {n c : Nat} {l : List UInt8} (h : Rd8 w A n l) : (convert 22 9 (.slice A n c)).run Try.prog w = .ok (.string ⟨l.toArray⟩) w := by
  rcases A with _ | ad
  · have hl : l = [] := by
      have := h.len
      rcases Nat.eq_zero_or_pos n with h0 | h0
      · exact List.eq_nil_of_length_eq_zero (by omega)
      · obtain ⟨ad, h, _⟩ := h.2 h0; cases h
    subst hl
    exact run_convert_bytes_nil (P := Try.prog) w 22 5 Try.underlying22 Try.underlying5 n c 9 Try.underlying9
  · have hl : (loadCells ad n).run Try.prog w = .ok (((l.map fun b => (b.toNat : Int)).map (Value.int .u8))).toArray w := by
      have h2 := run_firstCells_rd (P := Try.prog) w 1 n c (some ad) (bc l) h
      simp only [Builtin.firstCells, Nat.mul_one] at h2
      rw [h2]
      simp [bc]
    rw [run_convert_bytes_string w 22 9 5 (some ad) n c Try.underlying22 Try.underlying5 Try.underlying9, run_bytesToString (P := Try.prog) w ad n c _ hl, foldl_push_bytes]
    have e : (l.map fun b => (b.toNat : Int)).map (fun n => UInt8.ofNat n.toNat) = l := by
      rw [List.map_map]
      refine List.map_id'' (fun b => ?_) l
      simp
    rw [e]
    congr 3
    show (#[] : Array UInt8) ++ l.toArray = l.toArray
    simp

theorem Rd8.take {w : World} {A : Option Addr} {n : Nat} {l : List UInt8} (h : Rd8 w A n l) {k : Nat} (hk : k ≤ n) : Rd8 w A k (l.take k) := by
  refine ⟨by rw [bc_length, List.length_take, h.len]; omega, fun h0 => ?_⟩
  obtain ⟨ad, e, hc⟩ := h.2 (by omega)
  refine ⟨ad, e, fun j u hu => hc j u ?_⟩
  rw [← bc_take, List.getElem?_take] at hu
  split at hu
  · exact hu
  · cases hu
theorem Rd8.drop {w : World} {A : Option Addr} {n : Nat} {l : List UInt8} (h : Rd8 w A n l) {a m : Nat} (h1 : a ≤ n) (h2 : n ≤ m) : Rd8 w (if m = a then A else A.map (·.add a)) (n - a) (l.drop a) := by
  have := h.cut h1 (Nat.le_refl _) h2
  rw [List.take_of_length_le (by rw [List.length_drop, h.len]; omega)] at this
  simpa using this
theorem Rd8.mid {w : World} {A : Option Addr} {n : Nat} {l : List UInt8} (h : Rd8 w A n l) {a q : Nat} (h1 : a + q ≤ n) : Rd8 w (A.map (·.add a)) q ((l.drop a).take q) := by
  refine ⟨by rw [bc_length, List.length_take, List.length_drop, h.len]; omega, fun hq => ?_⟩
  obtain ⟨ad, rfl, hc⟩ := h.2 (by omega)
  refine ⟨ad.add a, rfl, fun j u hu => ?_⟩
  rw [add_add']
  refine hc _ u ?_
  rw [← bc_take, ← bc_drop, List.getElem?_take] at hu
  split at hu
  · rw [← hu, List.getElem?_drop]
  · cases hu
/-- What an append of bytes leaves: the value, the world. -/
def App8 (w : World) (base : Nat) (A : Option Addr) (c n' : Nat) (l' : List UInt8) (v : Value) (w' : World) : Prop :=
  ∃ A' c', v = .slice A' n' c' ∧ Own8 w' base A' n' c' l' ∧ w.grownBy w' (ownBlk A c) ∧ ((A' = A ∧ c' = c ∧ n' ≤ c) ∨ A' = some ⟨w.heap.size, 0, none⟩)

theorem below_app {w0 w w' : World} {base : Nat} {A : Option Addr} {n c : Nat} {l : List UInt8} (hb : Below base w0 w) (hsz : base ≤ w.heap.size) (ho : Own8 w base A n c l) (hg : w.grownBy w' (ownBlk A c)) : Below base w0 w' :=
  hb.grown hg hsz fun _ h => (ho.lt h).1

section
variable {w : World} {ops : Array Oper} {rest : List Oper} {o : Oper} {a : Act} {Q : Exit → Act → World → Prop}
/-- append(s, x...): bytes. -/
theorem wl_app8 (hgd : o.guard = none) (s x : Operand) (ho : o.op = .call { callee := .builtin .append, args := #[s, x], argTypes := #[22, 22] })
    {base : Nat} {A S : Option Addr} {n c m cs : Nat} {l k : List UInt8} (hs : a.eval s = .slice A n c) (hx : a.eval x = .slice S m cs)
    (hown : Own8 w base A n c l) (hr : Rd8 w S m k) (hb : n + m ≤ 140737488355328) (hbase : base ≤ w.heap.size)
    (h : ∀ v w', App8 w base A c (n + m) (l ++ k) v w' → wpList Try.prog ops Q rest (a.put o.dst v) w') : wpList Try.prog ops Q (o :: rest) a w := by
  obtain ⟨i0, hi, hz0, hz1, hz2⟩ := info_parts info5
  obtain ⟨A', c', w', hrun, hap⟩ := run_append_rd (P := Try.prog) w base 22 o.type 5 i0 _ 1 1 Try.underlying22 hi hz0 hz1 hz2 rfl A n c (bc l) hown S m cs (bc k) hr (bc_one k) (by unfold maxLen; omega) (by omega) hbase
  refine wpList_run w hgd s x 22 22 ho _ _ hs hx (R := App8 w base A c (n + m) (l ++ k)) ⟨_, w', hrun, A', c', rfl, ?_, hap.2⟩ h
  have := hap.1
  rw [← bc_append] at this
  exact this
/-- The same, in a region that draws its order. -/
theorem st_app8 {K : Act → World → Prop} {E : Prop} (hgd : o.guard = none) (s x : Operand) (ho : o.op = .call { callee := .builtin .append, args := #[s, x], argTypes := #[22, 22] })
    {base : Nat} {A S : Option Addr} {n c m cs : Nat} {l k : List UInt8} (hs : a.eval s = .slice A n c) (hx : a.eval x = .slice S m cs)
    (hown : Own8 w base A n c l) (hr : Rd8 w S m k) (hb : n + m ≤ 140737488355328) (hbase : base ≤ w.heap.size)
    (h : ∀ v w', App8 w base A c (n + m) (l ++ k) v w' → K (a.put o.dst v) w') : if Region.wanted o (yielded ops a.tmps) = true then Oper.wp Try.prog o a w K Q else E := by
  obtain ⟨i0, hi, hz0, hz1, hz2⟩ := info_parts info5
  obtain ⟨A', c', w', hrun, hap⟩ := run_append_rd (P := Try.prog) w base 22 o.type 5 i0 _ 1 1 Try.underlying22 hi hz0 hz1 hz2 rfl A n c (bc l) hown S m cs (bc k) hr (bc_one k) (by unfold maxLen; omega) (by omega) hbase
  refine step_run w hgd s x 22 22 ho _ _ hs hx (R := App8 w base A c (n + m) (l ++ k)) ⟨_, w', hrun, A', c', rfl, ?_, hap.2⟩ h
  have := hap.1
  rw [← bc_append] at this
  exact this
/-- append(s, x...): a string's bytes. -/
theorem wl_apps8 (hgd : o.guard = none) (s x : Operand) (ho : o.op = .call { callee := .builtin .append, args := #[s, x], argTypes := #[22, 9] })
    {base : Nat} {A : Option Addr} {n c : Nat} {l : List UInt8} {b : ByteArray} (hs : a.eval s = .slice A n c) (hx : a.eval x = .string b)
    (hown : Own8 w base A n c l) (hb : n + b.size ≤ 140737488355328) (hbase : base ≤ w.heap.size)
    (h : ∀ v w', App8 w base A c (n + b.size) (l ++ b.data.toList) v w' → wpList Try.prog ops Q rest (a.put o.dst v) w') : wpList Try.prog ops Q (o :: rest) a w := by
  obtain ⟨i0, hi, hz0, hz1, hz2⟩ := info_parts info5
  obtain ⟨A', c', w', hrun, hap⟩ := run_append_str (P := Try.prog) w base 22 9 o.type 5 i0 _ Try.underlying22 Try.underlying9 hi hz0 hz1 hz2 rfl A n c (bc l) hown b hb hbase
  refine wpList_run w hgd s x 22 9 ho _ _ hs hx (R := App8 w base A c (n + b.size) (l ++ b.data.toList)) ⟨_, w', hrun, A', c', rfl, ?_, hap.2⟩ h
  have := hap.1
  have e : (bc l ++ b.data.toList.map fun b => Value.int .u8 b.toNat) = bc (l ++ b.data.toList) := by rw [bc_append]; rfl
  rw [e] at this
  exact this
/-- append(s, make([]byte, m)...). -/
theorem wl_appz8 (hgd : o.guard = none) (s x : Operand) (ho : o.op = .call { callee := .builtin .append, args := #[s, x], argTypes := #[22, 3] })
    {base : Nat} {A : Option Addr} {n c m : Nat} {mi : Int} {l : List UInt8} (hs : a.eval s = .slice A n c) (hx : a.eval x = .int .i64 mi) (hmi : mi = m)
    (hown : Own8 w base A n c l) (hb : n + m ≤ 140737488355328) (hbase : base ≤ w.heap.size)
    (h : ∀ v w', App8 w base A c (n + m) (l ++ zeros m) v w' → wpList Try.prog ops Q rest (a.put o.dst v) w') : wpList Try.prog ops Q (o :: rest) a w := by
  subst hmi
  obtain ⟨i0, hi, hz0, hz1, hz2⟩ := info_parts info5
  obtain ⟨A', c', w', hrun, hap⟩ := run_append_zeros (P := Try.prog) w base 22 3 o.type 5 i0 _ 1 1 .i64 .i64 Try.underlying22 Try.underlying3 hi hz0 hz1 hz2 rfl (by omega) (by intro u hu; simp [Builtin.zeroCells, Value.cells, Array.range] at hu; subst hu; rfl) A n c (bc l) hown m (by unfold maxLen; omega) (by omega) hbase
  refine wpList_run w hgd s x 22 3 ho _ _ hs hx (R := App8 w base A c (n + m) (l ++ zeros m)) ⟨_, w', hrun, A', c', rfl, ?_, hap.2⟩ h
  have := hap.1
  have e : (Builtin.zeroCells (Value.int IntKind.u8 0).cells m).toList = bc (zeros m) := by
    have hc : (Value.int IntKind.u8 0).cells = #[.int .u8 0] := rfl
    rw [hc]
    simp [Builtin.zeroCells, bc, zeros, List.eq_replicate_iff]
    intro j hj
    simp [Nat.mod_one]
  rw [e, ← bc_append] at this
  exact this
end

section
variable {w : World} {ops : Array Oper} {rest : List Oper} {o : Oper} {a : Act} {Q : Exit → Act → World → Prop}
theorem madeCells_bytes (c : Nat) : madeCells #[.int .u8 0] c = (bc (zeros c)).toArray := by
  apply Array.ext'
  rw [toList_madeCells_one]
  simp [bc, zeros]
/-- make([]byte, n, c). -/
theorem wl_make8 (hgd : o.guard = none) (x y : Operand) (ho : o.op = .makeSlice 22 x y) {kl kc : IntKind} {li ci : Int} {n c : Nat} (hl : a.eval x = .int kl li) (hc : a.eval y = .int kc ci)
    (hli : li = n) (hci : ci = c) (hnc : n ≤ c) (hb : c ≤ 281474976710656) {base : Nat} (hbase : base ≤ w.heap.size)
    (h : ∀ w', Own8 w' base (some ⟨w.heap.size, 0, none⟩) n c (zeros n) → Below w.heap.size w w' → wpList Try.prog ops Q rest (a.put o.dst (.slice (some ⟨w.heap.size, 0, none⟩) n c)) w') : wpList Try.prog ops Q (o :: rest) a w := by
  obtain ⟨i0, hi, hz0, hz1, hz2⟩ := info_parts info5
  have hr := run_make (P := Try.prog) w 22 5 i0 _ Try.underlying22 hi hz0 kl kc li ci (by omega) (by omega) (by rw [hz2]; omega) (by omega)
  subst hli; subst hci
  have hm := Own.made (base := base) (e := 5) (size := 1) w (madeCells #[.int .u8 0] c) n c hbase hnc (by unfold maxLen; omega) (by rw [size_madeCells]; omega)
  refine wpList_plain hgd fun K hK => ?_
  unfold Oper.wp execOp
  simp only [ho, Sem.run_bind, Sem.run_pure, Result.andThen_ok, hl, hc, hr, hz1, Int.toNat_natCast, Nat.mul_one]
  refine hK _ _ (h _ ?_ ((Below.refl _ _).alloc (Nat.le_refl _) _))
  have e : (madeCells #[.int .u8 0] c).toList.take (n * 1) = bc (zeros n) := by
    rw [madeCells_bytes, List.toList_toArray, Nat.mul_one, bc_take]
    simp [zeros, List.take_replicate, Nat.min_eq_left hnc]
  rw [e] at hm
  exact hm
end

/-- What a copy of bytes leaves. -/
def Cop8 (w : World) (base : Nat) (A : Option Addr) (n c q : Nat) (l' : List UInt8) (v : Value) (w' : World) : Prop := v = .int .i64 (q : Int) ∧ Own8 w' base A n c l' ∧ w.grownBy w' (ownBlk A c)
theorem run_copy8 {w : World} {base : Nat} {A S : Option Addr} {n c m cs : Nat} {l k : List UInt8} (ty : TypeId) (hown : Own8 w base A n c l) (hr : Rd8 w S m k) :
    ∃ v w', (Builtin.copy_ #[22, 22] ty #[.slice A n c, .slice S m cs]).run Try.prog w = .ok v w' ∧ Cop8 w base A n c (min m n) (k.take (min m n) ++ l.drop (min m n)) v w' := by
  obtain ⟨i0, hi, hz0, hz1, hz2⟩ := info_parts info5
  obtain ⟨w', hrun, ho, hg⟩ := run_copy_rd (P := Try.prog) w base 22 ty 5 i0 1 Try.underlying22 hi hz1 A n c (bc l) hown S m cs (bc k) hr (bc_one k)
  refine ⟨_, w', hrun, rfl, ?_, hg⟩
  rw [Nat.mul_one, bc_take, bc_drop, ← bc_append] at ho
  exact ho
section
variable {w : World} {ops : Array Oper} {rest : List Oper} {o : Oper} {a : Act} {Q : Exit → Act → World → Prop}
theorem wl_copy8 (hgd : o.guard = none) (s x : Operand) (ho : o.op = .call { callee := .builtin .copy, args := #[s, x], argTypes := #[22, 22] })
    {base : Nat} {A S : Option Addr} {n c m cs : Nat} {l k : List UInt8} (hs : a.eval s = .slice A n c) (hx : a.eval x = .slice S m cs) (hown : Own8 w base A n c l) (hr : Rd8 w S m k)
    (h : ∀ w', Own8 w' base A n c (k.take (min m n) ++ l.drop (min m n)) → w.grownBy w' (ownBlk A c) → wpList Try.prog ops Q rest (a.put o.dst (.int .i64 (min m n : Nat))) w') : wpList Try.prog ops Q (o :: rest) a w :=
  wpList_copy w hgd s x 22 22 ho _ _ hs hx (run_copy8 o.type hown hr) (fun _ w' hv => by rw [hv.1]; exact h w' hv.2.1 hv.2.2)
theorem st_copy8 {K : Act → World → Prop} {E : Prop} (hgd : o.guard = none) (s x : Operand) (ho : o.op = .call { callee := .builtin .copy, args := #[s, x], argTypes := #[22, 22] })
    {base : Nat} {A S : Option Addr} {n c m cs : Nat} {l k : List UInt8} (hs : a.eval s = .slice A n c) (hx : a.eval x = .slice S m cs) (hown : Own8 w base A n c l) (hr : Rd8 w S m k)
    (h : ∀ w', Own8 w' base A n c (k.take (min m n) ++ l.drop (min m n)) → w.grownBy w' (ownBlk A c) → K (a.put o.dst (.int .i64 (min m n : Nat))) w') : if Region.wanted o (yielded ops a.tmps) = true then Oper.wp Try.prog o a w K Q else E :=
  step_copy w hgd s x 22 22 ho _ _ hs hx (run_copy8 o.type hown hr) (fun _ w' hv => by rw [hv.1]; exact h w' hv.2.1 hv.2.2)
end

/-- A new row of bytes. -/
theorem Rd8.new (w : World) (k : List UInt8) {cs : Array Value} (h : cs = (bc k).toArray) {m : Nat} (hm : m = k.length) : Rd8 (w.alloc (.cells cs 5)) (some ⟨w.heap.size, 0, none⟩) m k := by
  subst h; subst hm
  refine ⟨by rw [bc_length]; omega, fun _ => ⟨_, rfl, fun j u hu => ?_⟩⟩
  rw [add_plain, cell_of_row _ _ _ _ _ _ (heap_alloc_new w _), Nat.zero_add]
  simpa using hu
theorem Own8.new (w : World) (k : List UInt8) {cs : Array Value} (h : cs = (bc k).toArray) {m base : Nat} (hm : m = k.length) (hb : base ≤ w.heap.size) (hl : m ≤ maxLen) : Own8 (w.alloc (.cells cs 5)) base (some ⟨w.heap.size, 0, none⟩) m m k := by
  subst h
  have := Own.made (base := base) (e := 5) (size := 1) w (bc k).toArray m m hb (Nat.le_refl _) hl (by simp [bc_length, hm])
  have e : (bc k).toArray.toList.take (m * 1) = bc k := by simp [List.take_of_length_le, bc_length, hm]
  rw [e] at this
  exact this

/-- A call that answers new bytes, and leaves all that was. -/
def Ret8 (w0 : World) (l : List UInt8) (e : Ending) (w' : World) : Prop :=
  ∃ A n c, e = .returned (.slice A n c) ∧ Own8 w' w0.heap.size A n c l ∧ Below w0.heap.size w0 w'
end Go.Proofs.Ytkgdcglnkodgnaa
