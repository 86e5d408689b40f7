/-
  Words for memory and laws on the operations over them, over any program: a slice that reads as a list ('Rd'), a slice that the program may write ('Own'), appends, stores, copies, conversions. No condition.
-/
import Derived.WalkKit
import Derived.WalkSpells
import Derived.WalkLawsBesides
import Derived.Deep.Draws
import Derived.Laws.CopyOwn
import Derived.Lib.Hide
namespace Go.Proofs.Ytkgdcglnkodgnaa
open Go.RowKit

/-- A fact kept from the walk: a structure, which nothing unfolds. -/
structure Hd (p : Prop) : Prop where
  out : p

theorem block_add (a : Addr) (n : Nat) : (a.add n).block = a.block := by unfold Addr.add; split <;> rfl
theorem add_add' (a : Addr) (i j : Nat) : (a.add i).add j = a.add (i + j) := by
  unfold Addr.add
  by_cases hi : i = 0 <;> by_cases hj : j = 0 <;> simp [hi, hj, Nat.add_assoc]
theorem add_plain (g o n : Nat) : (⟨g, o, none⟩ : Addr).add n = ⟨g, o + n, none⟩ := by unfold Addr.add; split <;> simp_all

/-- The slice '.slice A n c' reads as the cells xs, 'size' of them an element. -/
def Rd (w : World) (size : Nat) (A : Option Addr) (n : Nat) (xs : List Value) : Prop :=
  xs.length = n * size ∧ (0 < n → ∃ ad, A = some ad ∧ ∀ j u, xs[j]? = some u → w.cell? (ad.add j) = some u)

/-- The slice '.slice A n c' is the call's own, in a block from base on; it reads as xs. -/
def Own (w : World) (base : Nat) (e : TypeId) (size : Nat) (A : Option Addr) (n c : Nat) (xs : List Value) : Prop :=
  xs.length = n * size ∧ n ≤ c ∧ c ≤ maxLen ∧
  (c = 0 ∨ ∃ g off cur, A = some ⟨g, off, none⟩ ∧ base ≤ g ∧ w.heap[g]? = some (.cells cur e (0, 0)) ∧ off + c * size ≤ cur.size ∧ (cur.toList.drop off).take (n * size) = xs)

/-- The block that an own slice may be written in. -/
def ownBlk (A : Option Addr) (c : Nat) : Option Nat := if c = 0 then none else A.map (·.block)

theorem cell_lt {w : World} {a : Addr} {v : Value} (h : w.cell? a = some v) : a.block < w.heap.size := World.block_lt_of_cell? w a h

section
variable {w w' : World} {size n c : Nat} {A : Option Addr} {xs : List Value} {base : Nat} {e : TypeId}

theorem Rd.nil_ : Rd w size A 0 [] := ⟨by simp, fun h => absurd h (by omega)⟩
theorem Rd.keep (h : Rd w size A n xs) (hk : ∀ p : Addr, p.block < w.heap.size → w'.cell? p = w.cell? p) : Rd w' size A n xs :=
  ⟨h.1, fun hn => by
    obtain ⟨ad, e, hc⟩ := h.2 hn
    exact ⟨ad, e, fun j u hu => (hk _ (cell_lt (hc j u hu))).trans (hc j u hu)⟩⟩
theorem Rd.below (h : Rd w size A n xs) (hb : Below w.heap.size w w') : Rd w' size A n xs := h.keep fun _ hp => hb.cell hp
theorem Rd.drew (h : Rd w size A n xs) : Rd w.drew size A n xs := h
theorem Rd.alloc (h : Rd w size A n xs) (o : Obj) : Rd (w.alloc o) size A n xs := h.below ((Below.refl _ _).alloc (Nat.le_refl _) o)
theorem Rd.at_ (h : Rd w size A n xs) {k f : Nat} (hk : k < n) (hf : f < size) : ∃ ad u, A = some ad ∧ xs[k * size + f]? = some u ∧ w.cell? ((ad.add (k * size)).add f) = some u := by
  obtain ⟨ad, e, hc⟩ := h.2 (by omega)
  have hl : k * size + f < xs.length := by
    rw [h.1]
    have : (k + 1) * size ≤ n * size := Nat.mul_le_mul_right _ hk
    rw [Nat.add_mul] at this; omega
  refine ⟨ad, xs[k * size + f], e, List.getElem?_eq_getElem hl, ?_⟩
  rw [add_add']
  exact hc _ _ (List.getElem?_eq_getElem hl)
theorem Rd.cut (h : Rd w size A n xs) {l k m : Nat} (hl : l ≤ k) (hk : k ≤ n) (hm : k ≤ m) :
    Rd w size (if m = l then A else A.map (·.add (l * size))) (k - l) ((xs.drop (l * size)).take ((k - l) * size)) := by
  have hlen : ((xs.drop (l * size)).take ((k - l) * size)).length = (k - l) * size := by
    rw [List.length_take, List.length_drop, h.1, ← Nat.sub_mul]
    exact Nat.min_eq_left (Nat.mul_le_mul_right _ (by omega))
  refine ⟨hlen, fun hn => ?_⟩
  obtain ⟨ad, rfl, hc⟩ := h.2 (by omega)
  rw [if_neg (by omega)]
  refine ⟨ad.add (l * size), rfl, fun j u hu => ?_⟩
  rw [add_add']
  rw [List.getElem?_take] at hu
  split at hu
  · exact hc _ u (by rw [← hu, List.getElem?_drop])
  · cases hu

theorem Own.nil_ (w : World) (base : Nat) (e : TypeId) (size : Nat) (A : Option Addr) : Own w base e size A 0 0 [] := ⟨by simp, Nat.le_refl _, Nat.zero_le _, .inl rfl⟩
theorem Own.le (h : Own w base e size A n c xs) : n ≤ c ∧ c ≤ maxLen := ⟨h.2.1, h.2.2.1⟩
theorem Own.mono (h : Own w base e size A n c xs) {b : Nat} (hb : b ≤ base) : Own w b e size A n c xs := by
  refine ⟨h.1, h.2.1, h.2.2.1, ?_⟩
  rcases h.2.2.2 with h0 | ⟨g, off, cur, h1, h2, h3⟩
  · exact .inl h0
  · exact .inr ⟨g, off, cur, h1, by omega, h3⟩
theorem Own.keep (h : Own w base e size A n c xs) (hk : ∀ g, ownBlk A c = some g → base ≤ g → g < w.heap.size → w'.heap[g]? = w.heap[g]?) : Own w' base e size A n c xs := by
  refine ⟨h.1, h.2.1, h.2.2.1, ?_⟩
  rcases h.2.2.2 with h0 | ⟨g, off, cur, h1, h2, h3, h4⟩
  · exact .inl h0
  · by_cases hc : c = 0
    · exact .inl hc
    · refine .inr ⟨g, off, cur, h1, h2, ?_, h4⟩
      rw [hk g (by simp [ownBlk, hc, h1]) h2 (Array.getElem?_eq_some_iff.1 h3).1]
      exact h3
theorem Own.below (h : Own w base e size A n c xs) (hb : Below w.heap.size w w') : Own w' base e size A n c xs := h.keep fun g _ _ hg => hb.block g hg
theorem Own.alloc (h : Own w base e size A n c xs) (o : Obj) : Own (w.alloc o) base e size A n c xs := h.below ((Below.refl _ _).alloc (Nat.le_refl _) o)
theorem Own.drew (h : Own w base e size A n c xs) : Own w.drew base e size A n c xs := h
theorem Own.grown (h : Own w base e size A n c xs) {row : Option Nat} (hg : w.grownBy w' row) (hne : ∀ g, ownBlk A c = some g → row ≠ some g) : Own w' base e size A n c xs :=
  h.keep fun g h1 _ hl => hg.block g hl (fun e => hne g h1 e.symm)
theorem Own.lt (h : Own w base e size A n c xs) {g : Nat} (hg : ownBlk A c = some g) : base ≤ g ∧ g < w.heap.size := by
  rcases h.2.2.2 with h0 | ⟨g', off, cur, h1, h2, h3, h4⟩
  · simp [ownBlk, h0] at hg
  · unfold ownBlk at hg
    split at hg
    · cases hg
    · simp [h1] at hg; subst hg; exact ⟨h2, (Array.getElem?_eq_some_iff.1 h3).1⟩
theorem Own.rd (h : Own w base e size A n c xs) : Rd w size A n xs := by
  refine ⟨h.1, fun hn => ?_⟩
  rcases h.2.2.2 with h0 | ⟨g, off, cur, h1, h2, h3, h4, h5⟩
  · have := h.2.1; omega
  · refine ⟨_, h1, fun j u hu => ?_⟩
    rw [add_plain, cell_of_row w g _ cur e (0, 0) h3]
    rw [← h5, List.getElem?_take] at hu
    split at hu
    · rw [List.getElem?_drop] at hu; simpa using hu
    · cases hu
theorem Own.cut (h : Own w base e size A n c xs) {l k : Nat} (hl : l ≤ k) (hk : k ≤ n) :
    Own w base e size (if c = l then A else A.map (·.add (l * size))) (k - l) (c - l) ((xs.drop (l * size)).take ((k - l) * size)) := by
  refine ⟨?_, by have := h.2.1; omega, by have := h.2.2.1; omega, ?_⟩
  · rw [List.length_take, List.length_drop, h.1, ← Nat.sub_mul]
    exact Nat.min_eq_left (Nat.mul_le_mul_right _ (by omega))
  · by_cases hc : c = l
    · exact .inl (by omega)
    rcases h.2.2.2 with h0 | ⟨g, off, cur, h1, h2, h3, h4, h5⟩
    · have := h.2.1; exact .inl (by omega)
    · refine .inr ⟨g, off + l * size, cur, by simp [hc, h1, add_plain], h2, h3, ?_, ?_⟩
      · have : (c - l) * size + l * size = c * size := by rw [← Nat.add_mul]; congr 1; have := h.2.1; omega
        omega
      · rw [← h5, List.drop_take, List.drop_drop, List.take_take]
        congr 1
        rw [← Nat.sub_mul]
        exact (Nat.min_eq_left (Nat.mul_le_mul_right _ (by omega))).symm
theorem Own.at_ (h : Own w base e size A n c xs) {j : Nat} (hj : j < n * size) : ∃ ad u, A = some ad ∧ xs[j]? = some u ∧ w.cell? (ad.add j) = some u ∧ w.frozen? (ad.add j) = false ∧ ownBlk A c = some ad.block := by
  have hn : 0 < n := by
    rcases Nat.eq_zero_or_pos n with h0 | h0
    · subst h0; simp at hj
    · exact h0
  have hx : xs[j]? = some (xs[j]'(by rw [h.1]; exact hj)) := List.getElem?_eq_getElem _
  obtain ⟨ad, hA, hc⟩ := h.rd.2 hn
  refine ⟨ad, _, hA, hx, hc j _ hx, ?_, ?_⟩
  · rcases h.2.2.2 with h0 | ⟨g, off, cur, h1, h2, h3, h4, h5⟩
    · have := h.2.1; omega
    · rw [hA] at h1; injection h1 with h1; subst h1
      rw [add_plain]
      exact frozen_of_row w g _ cur e h3
  · have := h.2.1
    simp [ownBlk, hA, show c ≠ 0 by omega]
theorem Own.set_ (h : Own w base e size A n c xs) {j : Nat} (hj : j < n * size) {ad : Addr} (hA : A = some ad) (u : Value) : Own (w.setCell (ad.add j) u) base e size A n c (xs.set j u) := by
  refine ⟨by rw [List.length_set]; exact h.1, h.2.1, h.2.2.1, ?_⟩
  rcases h.2.2.2 with h0 | ⟨g, off, cur, h1, h2, h3, h4, h5⟩
  · exact .inl h0
  · rw [hA] at h1; injection h1 with h1; subst h1
    refine .inr ⟨g, off, cur.setIfInBounds (off + j) u, hA, h2, ?_, by simpa using h4, ?_⟩
    · rw [add_plain]; exact heap_setCell_same w g (off + j) cur e u h3
    · rw [← h5]
      apply List.ext_getElem?
      intro i
      simp only [List.getElem?_take, List.getElem?_drop, List.getElem?_set, Array.getElem?_toList, Array.getElem?_setIfInBounds, List.length_take, List.length_drop, Array.length_toList]
      by_cases hi : i < n * size
      · simp only [hi, if_true]
        by_cases hij : i = j
        · subst hij
          have hcur : off + i < cur.size := by
            have : n * size ≤ c * size := Nat.mul_le_mul_right _ h.2.1
            omega
          have : i < min (n * size) (cur.size - off) := by omega
          simp [this, hcur]
        · have h1 : ¬ j = i := fun e => hij e.symm
          simp [h1]
      · simp only [hi, if_false]
        have : ¬ j = i := by omega
        simp [this]
theorem grown_set {ad : Addr} (j : Nat) (u : Value) (hc : ownBlk A c = some ad.block) : w.grownBy (w.setCell (ad.add j) u) (ownBlk A c) :=
  ⟨rfl, rfl, rfl, by simp [World.setCell], fun k _ hne => Below.heap_setCell _ _ _ _ (fun e => hne (by rw [hc, e, block_add]))⟩
theorem grown_trans {a b d : World} {row : Option Nat} (h : a.grownBy b row) (k : b.grownBy d row) : a.grownBy d row :=
  ⟨k.os.trans h.os, k.tape.trans h.tape, k.output.trans h.output, Nat.le_trans h.size k.size, fun i hi hne => (k.block i (Nat.lt_of_lt_of_le hi h.size) hne).trans (h.block i hi hne)⟩
theorem grown_of_below {a b : World} (h : Below a.heap.size a b) (row : Option Nat) : a.grownBy b row := ⟨h.os, h.tape, h.output, h.size, fun i hi _ => h.block i hi⟩
theorem Own.made (w : World) (cur : Array Value) (n c : Nat) (hb : base ≤ w.heap.size) (hn : n ≤ c) (hm : c ≤ maxLen) (hs : cur.size = c * size) :
    Own (w.alloc (.cells cur e)) base e size (some ⟨w.heap.size, 0, none⟩) n c (cur.toList.take (n * size)) := by
  refine ⟨?_, hn, hm, .inr ⟨w.heap.size, 0, cur, rfl, hb, heap_alloc_new w _, by omega, by simp⟩⟩
  rw [List.length_take, Array.length_toList, hs]
  exact Nat.min_eq_left (Nat.mul_le_mul_right _ hn)
end

section
variable {P : Program} (w : World)

theorem run_firstCells_rd (size m c : Nat) (A : Option Addr) (news : List Value) (h : Rd w size A m news) : (Builtin.firstCells size m (.slice A m c)).run P w = .ok news.toArray w := by
  rcases A with _ | ad
  · have hm : m = 0 := by
      rcases Nat.eq_zero_or_pos m with h0 | h0
      · exact h0
      · obtain ⟨ad, h, _⟩ := h.2 h0; cases h
    subst hm
    have hn : news = [] := List.eq_nil_of_length_eq_zero (by simpa using h.1)
    subst hn
    exact run_firstCells_none w size 0 0 c
  · refine run_firstCells_some (P := P) w size m ad m c news h.1 ?_
    intro j u hu
    rcases Nat.eq_zero_or_pos m with h0 | h0
    · subst h0
      have hn : news = [] := List.eq_nil_of_length_eq_zero (by simpa using h.1)
      subst hn
      simp at hu
    · obtain ⟨ad', h, hc⟩ := h.2 h0
      injection h with h
      subst h
      exact hc j u hu

/-- What an append leaves. -/
def Appended (w w' : World) (base : Nat) (e : TypeId) (size : Nat) (A : Option Addr) (c : Nat) (A' : Option Addr) (n' c' : Nat) (xs : List Value) : Prop :=
  Own w' base e size A' n' c' xs ∧ w.grownBy w' (ownBlk A c) ∧ ((A' = A ∧ c' = c ∧ n' ≤ c) ∨ A' = some ⟨w.heap.size, 0, none⟩)

theorem appended_room (base : Nat) (e : TypeId) (size : Nat) (A : Option Addr) (n c m : Nat) (xs news : List Value) (hown : Own w base e size A n c xs) (hl : news.length = m * size)
    (h1 : ∀ u ∈ news, u.oneCell' = true) (hroom : n + m ≤ c) :
    ∃ w', (match A with | some a => storeCells (a.add (n * size)) news | none => pure ()).run P w = .ok () w' ∧ Appended w w' base e size A c A (n + m) c (xs ++ news) := by
  have hlen : (xs ++ news).length = (n + m) * size := by rw [List.length_append, hown.1, hl, Nat.add_mul]
  by_cases hc : c = 0
  · have hm : m = 0 := by omega
    have hn0 : n = 0 := by omega
    subst hm; subst hn0; subst hc
    have hn : news = [] := List.eq_nil_of_length_eq_zero (by simpa using hl)
    subst hn
    refine ⟨w, ?_, ?_, World.grownBy.refl w _, .inl ⟨rfl, rfl, Nat.le_refl _⟩⟩
    · cases A <;> simp [storeCells]
    · simpa using hown
  rcases hown.2.2.2 with h0 | ⟨g, off, cur, rfl, hb, hg, hsz, htk⟩
  · exact absurd h0 hc
  · have hfit : off + n * size + news.length ≤ cur.size := by
      rw [hl, Nat.add_assoc, ← Nat.add_mul]
      exact Nat.le_trans (Nat.add_le_add_left (Nat.mul_le_mul_right _ hroom) _) hsz
    have hst := run_storeCells_at P g (off + n * size) e news 0 cur w hg (by simpa using hfit) h1
    simp only [Nat.add_zero] at hst
    refine ⟨_, by simp only [add_plain]; exact hst, ⟨hlen, hroom, hown.2.2.1, .inr ⟨g, off, _, rfl, hb, setRow_heap w g cur _ e _ hg, ?_, ?_⟩⟩, ⟨rfl, rfl, rfl, by simp, fun k _ hk => setRow_other w g k _ (fun e => hk ?_)⟩, .inl ⟨rfl, rfl, hroom⟩⟩
    · simp only [List.size_toArray, List.length_append, List.length_take, List.length_drop, Array.length_toList]
      omega
    · have hx : cur.toList.take (off + n * size) = cur.toList.take off ++ xs := by
        rw [List.take_add, htk]
      have ho : (cur.toList.take off).length = off := by rw [List.length_take, Array.length_toList]; omega
      rw [hx, List.append_assoc, List.append_assoc]
      rw [List.drop_append, ho, List.drop_of_length_le (by omega), Nat.sub_self, List.drop_zero, List.nil_append, ← hlen, ← List.append_assoc, List.take_left]
    · simp [ownBlk, hc, e]

theorem appended_grown (base : Nat) (e : TypeId) (size : Nat) (z : Value) (hzs : z.cells.size = size) (A : Option Addr) (n c m old : Nat) (xs news : List Value) (hx : xs.length = n * size) (hl : news.length = m * size)
    (h63 : n + m ≤ maxLen) (hbase : base ≤ w.heap.size) :
    Appended w (w.drew.alloc (.cells (xs.toArray ++ news.toArray ++ Builtin.zeroCells z.cells (grownCap w (n + m) old e - (n + m))) e)) base e size A c (some ⟨w.heap.size, 0, none⟩) (n + m) (grownCap w (n + m) old e) (xs ++ news) := by
  have hlen : (xs ++ news).length = (n + m) * size := by rw [List.length_append, hx, hl, Nat.add_mul]
  have hge := grownCap_ge w (n + m) old e
  refine ⟨⟨hlen, hge, grownCap_le_maxLen w (n + m) old e h63, .inr ⟨w.heap.size, 0, _, rfl, hbase, heap_alloc_new w.drew _, ?_, ?_⟩⟩, ⟨rfl, rfl, rfl, by simp, fun k hk _ => heap_alloc_old w.drew _ (by exact hk)⟩, .inr rfl⟩
  · simp only [Array.size_append, List.size_toArray, size_zeroCells, hzs, hx, hl, ← Nat.add_mul]
    rw [Nat.zero_add]
    exact Nat.mul_le_mul_right _ (by omega)
  · simp only [Array.toList_append, List.append_assoc, List.drop_zero]
    rw [← List.append_assoc, ← hlen]
    exact List.take_left

/-- append: the destination the call's own, the source a slice that reads as a list, nil or not. -/
theorem run_append_rd (base : Nat) (t ty e : TypeId) (i : TypeInfo) (z : Value) (size bytes : Nat) (ht : P.underlying t = some (.slice e)) (hi : P.info? e = some i) (hz : i.zero = some z)
    (hsize : i.size = size) (hby : i.bytes = bytes) (hzs : z.cells.size = size)
    (A : Option Addr) (n c : Nat) (xs : List Value) (hown : Own w base e size A n c xs)
    (S : Option Addr) (m cs : Nat) (news : List Value) (hr : Rd w size S m news) (h1 : ∀ u ∈ news, u.oneCell' = true)
    (h63 : n + m ≤ maxLen) (hbytes : (n + m) * bytes ≤ 140737488355328) (hbase : base ≤ w.heap.size) :
    ∃ A' c' w', (Builtin.append_ #[t, t] ty #[.slice A n c, .slice S m cs]).run P w = .ok (.slice A' (n + m) c') w' ∧ Appended w w' base e size A c A' (n + m) c' (xs ++ news) := by
  subst hsize; subst hby
  by_cases hroom : n + m ≤ c
  · obtain ⟨w', hst, hap⟩ := appended_room (P := P) w base e i.size A n c m xs news hown hr.1 h1 hroom
    refine ⟨A, c, w', ?_, hap⟩
    have hf := run_firstCells_rd (P := P) w i.size m cs S news hr
    cases A with
    | none =>
      simp only [Sem.run_pure] at hst
      injection hst with _ hst
      subst hst
      simp [Builtin.append_, run_underlying ht, sizeOf, typeInfo, hi, Builtin.lenOf, hroom, hf]
    | some a =>
      simp only at hst
      simp [Builtin.append_, run_underlying ht, sizeOf, typeInfo, hi, Builtin.lenOf, hroom, hf, hst]
  · have hf := run_firstCells_rd (P := P) w.drew i.size m cs S news hr.drew
    have ho := run_firstCells_rd (P := P) w.drew i.size n c A xs hown.rd.drew
    have hn : ¬ (n + m ≤ c) := by omega
    have h63' : ¬ (9223372036854775807 < ((n : Int) + (m : Int))) := by unfold maxLen at h63; omega
    have h48' : ¬ (281474976710656 < Builtin.nextslicecap (n + m) c * i.bytes) := by have := growslice_fits (need := n + m) (old := c) (by omega) hbytes; omega
    refine ⟨_, _, _, ?_, appended_grown w base e i.size z hzs A n c m c xs news hown.1 hr.1 h63 hbase⟩
    simp [Builtin.append_, run_underlying ht, sizeOf, typeInfo, zeroValue, hi, hz, Builtin.lenOf, hn, h63', h48', Question.forced, hf, ho, newRow, grownCap, -List.append_toArray]

/-- append of a string's bytes. -/
theorem run_append_str (base : Nat) (t u ty e : TypeId) (i : TypeInfo) (z : Value) (ht : P.underlying t = some (.slice e)) (hu : P.underlying u = some .string) (hi : P.info? e = some i) (hz : i.zero = some z)
    (hsize : i.size = 1) (hby : i.bytes = 1) (hzs : z.cells.size = 1)
    (A : Option Addr) (n c : Nat) (xs : List Value) (hown : Own w base e 1 A n c xs) (s : ByteArray)
    (hbytes : n + s.size ≤ 140737488355328) (hbase : base ≤ w.heap.size) :
    ∃ A' c' w', (Builtin.append_ #[t, u] ty #[.slice A n c, .string s]).run P w = .ok (.slice A' (n + s.size) c') w' ∧
      Appended w w' base e 1 A c A' (n + s.size) c' (xs ++ s.data.toList.map fun b => Value.int .u8 b.toNat) := by
  have hl : (s.data.toList.map fun b => Value.int .u8 b.toNat).length = s.size * 1 := by rw [List.length_map, Array.length_toList, Nat.mul_one]; rfl
  have h1 : ∀ u ∈ (s.data.toList.map fun b => Value.int .u8 b.toNat), u.oneCell' = true := by
    intro u hu; simp at hu; obtain ⟨b, _, rfl⟩ := hu; rfl
  have hf : ∀ W : World, (Builtin.firstCells i.size s.size (.string s)).run P W = .ok (s.data.toList.map fun b => Value.int .u8 b.toNat).toArray W := by
    intro W
    have e : (s.extract 0 s.size).data.map (fun b : UInt8 => Value.int .u8 b.toNat) = (s.data.toList.map fun b => Value.int .u8 b.toNat).toArray := by
      rw [ByteArray.extract_zero_size]
      apply Array.ext'
      rw [Array.toList_map]
    show Result.ok ((s.extract 0 s.size).data.map (fun b : UInt8 => Value.int .u8 b.toNat)) W = _
    rw [e]
  have hn0 : (n + s.size) * i.bytes ≤ 140737488355328 := by rw [hby]; omega
  by_cases hroom : n + s.size ≤ c
  · obtain ⟨w', hst, hap⟩ := appended_room (P := P) w base e 1 A n c s.size xs _ hown hl h1 hroom
    refine ⟨A, c, w', ?_, hap⟩
    cases A with
    | none =>
      simp only [Sem.run_pure] at hst
      injection hst with _ hst
      subst hst
      simp [Builtin.append_, run_underlying ht, run_underlying hu, sizeOf, typeInfo, hi, Builtin.lenOf, hroom, hf]
    | some a =>
      simp only at hst
      have hst' := hst
      rw [← hsize] at hst'
      simp [Builtin.append_, run_underlying ht, run_underlying hu, sizeOf, typeInfo, hi, Builtin.lenOf, hroom, hf, hst']
  · have ho := run_firstCells_rd (P := P) w.drew i.size n c A xs (by rw [hsize]; exact hown.rd.drew)
    have hn : ¬ (n + s.size ≤ c) := by omega
    have h63' : ¬ (9223372036854775807 < ((n : Int) + (s.size : Int))) := by omega
    have h48' : ¬ (281474976710656 < Builtin.nextslicecap (n + s.size) c * i.bytes) := by have := growslice_fits (need := n + s.size) (old := c) (by omega) hn0; omega
    refine ⟨_, _, _, ?_, appended_grown w base e 1 z hzs A n c s.size c xs _ hown.1 hl (by unfold maxLen; omega) hbase⟩
    simp [Builtin.append_, run_underlying ht, run_underlying hu, sizeOf, typeInfo, zeroValue, hi, hz, Builtin.lenOf, hn, h63', h48', Question.forced, hf, ho, newRow, grownCap, -List.append_toArray]

/-- append of k zero elements ('append(b, make([]T, k)...)'). -/
theorem run_append_zeros (base : Nat) (t tn ty e : TypeId) (i : TypeInfo) (z : Value) (size bytes : Nat) (kq kn : IntKind) (ht : P.underlying t = some (.slice e)) (htn : P.underlying tn = some (.int kn)) (hi : P.info? e = some i) (hz : i.zero = some z)
    (hsize : i.size = size) (hby : i.bytes = bytes) (hzs : z.cells.size = size) (hsz : 0 < size) (h1 : ∀ u ∈ (Builtin.zeroCells z.cells 1).toList, u.oneCell' = true)
    (A : Option Addr) (n c : Nat) (xs : List Value) (hown : Own w base e size A n c xs) (m : Nat)
    (h63 : n + m ≤ maxLen) (hbytes : (n + m) * bytes ≤ 140737488355328) (hbase : base ≤ w.heap.size) :
    ∃ A' c' w', (Builtin.append_ #[t, tn] ty #[.slice A n c, .int kq m]).run P w = .ok (.slice A' (n + m) c') w' ∧
      Appended w w' base e size A c A' (n + m) c' (xs ++ (Builtin.zeroCells z.cells m).toList) := by
  subst hsize; subst hby
  have hl : (Builtin.zeroCells z.cells m).toList.length = m * i.size := by rw [Array.length_toList, size_zeroCells, hzs]
  have h1' : ∀ u ∈ (Builtin.zeroCells z.cells m).toList, u.oneCell' = true := by
    intro u hu
    refine h1 u ?_
    simp only [Builtin.zeroCells, Array.toList_map, Array.toList_range, List.mem_map, List.mem_range] at hu ⊢
    obtain ⟨j, hj, rfl⟩ := hu
    rw [hzs] at hj ⊢
    exact ⟨j % i.size, by rw [Nat.one_mul]; exact Nat.mod_lt _ hsz, by rw [Nat.mod_mod]⟩
  have hw : IntKind.i64.wrap (m : Int) = m := by rw [IntKind.wrap_i64]; unfold maxLen at h63; omega
  have hneg : ¬ ((m : Int) < 0) := by omega
  have hmb : m * i.bytes ≤ 140737488355328 := Nat.le_trans (Nat.mul_le_mul_right _ (Nat.le_add_left m n)) hbytes
  have h48i : ¬ (281474976710656 < (m : Int) * (i.bytes : Int)) := by rw [← Int.natCast_mul]; omega
  by_cases hroom : n + m ≤ c
  · obtain ⟨w', hst, hap⟩ := appended_room (P := P) w base e i.size A n c m xs _ hown hl h1' hroom
    refine ⟨A, c, w', ?_, hap⟩
    by_cases hm : m = 0
    · subst hm
      have hz0 : Builtin.zeroCells z.cells 0 = #[] := by simp [Builtin.zeroCells]
      rw [hz0] at hst
      cases A with
      | none =>
        simp only [Sem.run_pure] at hst
        injection hst with _ hst
        subst hst
        simp at hw hroom
        simp [Builtin.append_, run_underlying ht, run_underlying htn, sizeOf, typeInfo, hi, asInt, asIntOf, hw, hroom]
      | some a =>
        simp at hst hw hroom
        simp [Builtin.append_, run_underlying ht, run_underlying htn, sizeOf, typeInfo, hi, asInt, asIntOf, hw, hroom, hst]
    · have hns : ¬ (m * i.size = 0) := Nat.mul_ne_zero hm (by omega)
      cases A with
      | none =>
        simp only [Sem.run_pure] at hst
        injection hst with _ hst
        subst hst
        simp [Builtin.append_, run_underlying ht, run_underlying htn, sizeOf, typeInfo, zeroValue, hz, hi, asInt, asIntOf, hw, hneg, h48i, hroom]
      | some a =>
        simp only at hst
        simp [Builtin.append_, run_underlying ht, run_underlying htn, sizeOf, typeInfo, zeroValue, hz, hi, asInt, asIntOf, hw, hneg, h48i, hns, hroom, hst]
  · have hns : ¬ (m * i.size = 0) := Nat.mul_ne_zero (by have := hown.2.1; omega) (by omega)
    have ho := run_firstCells_rd (P := P) w.drew i.size n c A xs hown.rd.drew
    have hn : ¬ (n + m ≤ c) := by omega
    have h63' : ¬ (9223372036854775807 < ((n : Int) + (m : Int))) := by unfold maxLen at h63; omega
    have h48' : ¬ (281474976710656 < Builtin.nextslicecap (n + m) c * i.bytes) := by have := growslice_fits (need := n + m) (old := c) (by omega) hbytes; omega
    refine ⟨_, _, _, ?_, appended_grown w base e i.size z hzs A n c m c xs _ hown.1 hl h63 hbase⟩
    simp [Builtin.append_, run_underlying ht, run_underlying htn, sizeOf, typeInfo, zeroValue, hi, hz, asInt, asIntOf, hw, hn, hneg, hns, h63', h48', h48i, Question.forced, ho, newRow, grownCap]

/-- One operation whose run is known. -/
theorem wpList_run {ops : Array Oper} {rest : List Oper} {o : Oper} {a : Act} {Q : Exit → Act → World → Prop} (hgd : o.guard = none) (s x : Operand) (t u : TypeId)
    (ho : o.op = .call { callee := .builtin .append, args := #[s, x], argTypes := #[t, u] }) (vs vx : Value) (hs : a.eval s = vs) (hx : a.eval x = vx)
    {R : Value → World → Prop} (hr : ∃ v w', (Builtin.append_ #[t, u] o.type #[vs, vx]).run P w = .ok v w' ∧ R v w')
    (h : ∀ v w', R v w' → wpList P ops Q rest (a.put o.dst v) w') : wpList P ops Q (o :: rest) a w := by
  obtain ⟨v, w', hr, hR⟩ := hr
  refine wpList_plain hgd fun K hK => ?_
  unfold Oper.wp execOp
  simp only [ho, resolve, invoke, builtin, Sem.run_bind, Sem.run_pure, Result.andThen_ok, List.map_toArray, List.map_cons, List.map_nil, hs, hx, hr]
  exact hK _ _ (h v w' hR)
/-- The same, in a region that draws its order. -/
theorem step_run {ops : Array Oper} {o : Oper} {a : Act} {K : Act → World → Prop} {Q : Exit → Act → World → Prop} {E : Prop} (hgd : o.guard = none) (s x : Operand) (t u : TypeId)
    (ho : o.op = .call { callee := .builtin .append, args := #[s, x], argTypes := #[t, u] }) (vs vx : Value) (hs : a.eval s = vs) (hx : a.eval x = vx)
    {R : Value → World → Prop} (hr : ∃ v w', (Builtin.append_ #[t, u] o.type #[vs, vx]).run P w = .ok v w' ∧ R v w')
    (h : ∀ v w', R v w' → K (a.put o.dst v) w') : if Region.wanted o (yielded ops a.tmps) = true then Oper.wp P o a w K Q else E := by
  obtain ⟨v, w', hr, hR⟩ := hr
  have hw : Region.wanted o (yielded ops a.tmps) = true := by simp [Region.wanted, hgd]
  rw [if_pos hw]
  unfold Oper.wp execOp
  simp only [ho, resolve, invoke, builtin, Sem.run_bind, Sem.run_pure, Result.andThen_ok, List.map_toArray, List.map_cons, List.map_nil, hs, hx, hr]
  exact h v w' hR

theorem Rd.take_ {size m : Nat} {S : Option Addr} {news : List Value} (h : Rd w size S m news) {q : Nat} (hq : q ≤ m) : Rd w size S q (news.take (q * size)) := by
  have hl := h.1
  refine ⟨by rw [List.length_take, hl]; exact Nat.min_eq_left (Nat.mul_le_mul_right _ hq), fun h0 => ?_⟩
  obtain ⟨ad, e, hc⟩ := h.2 (by omega)
  refine ⟨ad, e, fun j u hu => hc j u ?_⟩
  rw [List.getElem?_take] at hu
  split at hu
  · exact hu
  · cases hu

/-- Cells stored over the first of an own slice. -/
theorem stored_over (base : Nat) (e : TypeId) (size : Nat) (A : Option Addr) (n c q : Nat) (xs news : List Value) (hown : Own w base e size A n c xs) (hl : news.length = q * size)
    (h1 : ∀ u ∈ news, u.oneCell' = true) (hq : q ≤ n) :
    ∃ w', (match A with | some a => storeCells a news | none => pure ()).run P w = .ok () w' ∧ Own w' base e size A n c (news ++ xs.drop (q * size)) ∧ w.grownBy w' (ownBlk A c) := by
  have hqn : q * size ≤ n * size := Nat.mul_le_mul_right _ hq
  have hlen : (news ++ xs.drop (q * size)).length = n * size := by rw [List.length_append, List.length_drop, hown.1, hl]; omega
  by_cases hc : c = 0
  · have hn0 : n = 0 := by have := hown.2.1; omega
    have hq0 : q = 0 := by omega
    subst hn0; subst hc; subst hq0
    have hn : news = [] := List.eq_nil_of_length_eq_zero (by simpa using hl)
    subst hn
    refine ⟨w, ?_, by simpa using hown, World.grownBy.refl w _⟩
    cases A <;> simp [storeCells]
  rcases hown.2.2.2 with h0 | ⟨g, off, cur, rfl, hb, hg, hsz, htk⟩
  · exact absurd h0 hc
  · have hcn : n * size ≤ c * size := Nat.mul_le_mul_right _ hown.2.1
    have hfit : off + news.length ≤ cur.size := by omega
    have hst := run_storeCells_at P g off e news 0 cur w hg (by simpa using hfit) h1
    simp only [Nat.add_zero] at hst
    refine ⟨_, hst, ⟨hlen, hown.2.1, hown.2.2.1, .inr ⟨g, off, _, rfl, hb, setRow_heap w g cur _ e _ hg, ?_, ?_⟩⟩, ⟨rfl, rfl, rfl, by simp, fun k _ hk => setRow_other w g k _ (fun e => hk ?_)⟩⟩
    · simp only [List.size_toArray, List.length_append, List.length_take, List.length_drop, Array.length_toList]
      omega
    · have ho : (cur.toList.take off).length = off := by rw [List.length_take, Array.length_toList]; omega
      rw [List.append_assoc, List.drop_append, ho, List.drop_of_length_le (by omega), Nat.sub_self, List.drop_zero, List.nil_append]
      rw [List.take_append, hl, List.take_of_length_le (by omega), ← htk, List.drop_take, List.drop_drop]
    · simp [ownBlk, hc, e]

/-- copy into an own slice. -/
theorem run_copy_rd (base : Nat) (t ty e : TypeId) (i : TypeInfo) (size : Nat) (ht : P.underlying t = some (.slice e)) (hi : P.info? e = some i) (hsize : i.size = size)
    (A : Option Addr) (n c : Nat) (xs : List Value) (hown : Own w base e size A n c xs)
    (S : Option Addr) (m cs : Nat) (news : List Value) (hr : Rd w size S m news) (h1 : ∀ u ∈ news, u.oneCell' = true) :
    ∃ w', (Builtin.copy_ #[t, t] ty #[.slice A n c, .slice S m cs]).run P w = .ok (goInt (min m n : Nat)) w' ∧ Own w' base e size A n c (news.take (min m n * size) ++ xs.drop (min m n * size)) ∧ w.grownBy w' (ownBlk A c) := by
  subst hsize
  have hr' := Rd.take_ w hr (q := min m n) (by omega)
  have hf := run_firstCells_rd (P := P) w i.size (min m n) cs S _ hr'
  obtain ⟨w', hst, ho, hg⟩ := stored_over (P := P) w base e i.size A n c (min m n) xs _ hown hr'.1 (fun u hu => h1 u (List.mem_of_mem_take hu)) (by omega)
  refine ⟨w', ?_, ho, hg⟩
  have hff : (Builtin.firstCells i.size (Nat.min m n) (.slice S m cs)).run P w = .ok (news.take (min m n * i.size)).toArray w := by
    rw [show Nat.min m n = min m n from rfl]
    cases S with
    | none => exact hf
    | some a => exact hf
  cases A with
  | none =>
    simp only [Sem.run_pure] at hst
    injection hst with _ hst
    subst hst
    simp only [Builtin.copy_]
    simp [run_underlying ht, Builtin.lenOf, sizeOf, typeInfo, hi, hff]
  | some a =>
    simp only at hst
    simp only [Builtin.copy_]
    simp [run_underlying ht, Builtin.lenOf, sizeOf, typeInfo, hi, hff, hst]

/-- copy, at a list of operations and in a region that draws its order. -/
theorem wpList_copy {ops : Array Oper} {rest : List Oper} {o : Oper} {a : Act} {Q : Exit → Act → World → Prop} (hgd : o.guard = none) (s x : Operand) (t u : TypeId)
    (ho : o.op = .call { callee := .builtin .copy, args := #[s, x], argTypes := #[t, u] }) (vs vx : Value) (hs : a.eval s = vs) (hx : a.eval x = vx)
    {R : Value → World → Prop} (hr : ∃ v w', (Builtin.copy_ #[t, u] o.type #[vs, vx]).run P w = .ok v w' ∧ R v w')
    (h : ∀ v w', R v w' → wpList P ops Q rest (a.put o.dst v) w') : wpList P ops Q (o :: rest) a w := by
  obtain ⟨v, w', hr, hR⟩ := hr
  refine wpList_plain hgd fun K hK => ?_
  unfold Oper.wp execOp
  simp only [ho, resolve, invoke, builtin, Sem.run_bind, Sem.run_pure, Result.andThen_ok, List.map_toArray, List.map_cons, List.map_nil, hs, hx, hr]
  exact hK _ _ (h v w' hR)
theorem step_copy {ops : Array Oper} {o : Oper} {a : Act} {K : Act → World → Prop} {Q : Exit → Act → World → Prop} {E : Prop} (hgd : o.guard = none) (s x : Operand) (t u : TypeId)
    (ho : o.op = .call { callee := .builtin .copy, args := #[s, x], argTypes := #[t, u] }) (vs vx : Value) (hs : a.eval s = vs) (hx : a.eval x = vx)
    {R : Value → World → Prop} (hr : ∃ v w', (Builtin.copy_ #[t, u] o.type #[vs, vx]).run P w = .ok v w' ∧ R v w')
    (h : ∀ v w', R v w' → K (a.put o.dst v) w') : if Region.wanted o (yielded ops a.tmps) = true then Oper.wp P o a w K Q else E := by
  obtain ⟨v, w', hr, hR⟩ := hr
  have hw : Region.wanted o (yielded ops a.tmps) = true := by simp [Region.wanted, hgd]
  rw [if_pos hw]
  unfold Oper.wp execOp
  simp only [ho, resolve, invoke, builtin, Sem.run_bind, Sem.run_pure, Result.andThen_ok, List.map_toArray, List.map_cons, List.map_nil, hs, hx, hr]
  exact h v w' hR
end
end Go.Proofs.Ytkgdcglnkodgnaa
