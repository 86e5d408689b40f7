/-
  Trees in a book: what holds a tree; keys found in it, its leaves, its check; a tree that was checked holds. No condition.
-/
import Derived.Test.YtkgdcglnkodgnaaTreeA
namespace Go.Proofs.Ytkgdcglnkodgnaa
open Go.RowKit
/-- A node of a level: what it reads us0. -/
def NodeK (b : List UInt8) (kind : UInt8) (number : Int) (L : Nat) (l : List Kp) : Prop := l ≠ [] ∧ ∀ level : Int, (level = -1 ∨ level = L) → readK b kind number level = (0, (L : Int), l)
/-- The children of pairs, one behind the other. -/
def Ch (T : Int → List Kp → Prop) : List Kp → List Kp → Prop
  | [], xs => xs = []
  | p :: r, xs => ∃ ys zs, xs = ys ++ zs ∧ T p.2 ys ∧ ys ≠ [] ∧ headK ys = p.1 ∧ Ch T r zs
/-- A tree of a level holds pairs. -/
def Tr (b : List UInt8) (kind : UInt8) : Nat → Int → List Kp → Prop
  | 0, number, xs => NodeK b kind number 0 xs
  | L + 1, number, xs => ∃ l, NodeK b kind number (L + 1) l ∧ Ch (Tr b kind L) l xs
theorem ch_append {T : Int → List Kp → Prop} : ∀ {l k xs : List Kp}, Ch T (l ++ k) xs ↔ ∃ ys zs, xs = ys ++ zs ∧ Ch T l ys ∧ Ch T k zs
  | [], k, xs => ⟨fun h => ⟨[], xs, rfl, rfl, h⟩, fun ⟨ys, zs, e, h1, h2⟩ => by simp only [Ch] at h1; subst h1; subst e; exact h2⟩
  | p :: r, k, xs => by
    constructor
    · rintro ⟨ys, zs, e, h1, h2, h3, h4⟩
      obtain ⟨us, vs, e', h5, h6⟩ := ch_append.1 h4
      exact ⟨ys ++ us, vs, by rw [e, e', List.append_assoc], ⟨ys, us, rfl, h1, h2, h3, h5⟩, h6⟩
    · rintro ⟨us0, vs, e, ⟨ys, us, e', h1, h2, h3, h5⟩, h6⟩
      exact ⟨ys, us ++ vs, by rw [e, e', List.append_assoc], h1, h2, h3, ch_append.2 ⟨us, vs, rfl, h5, h6⟩⟩
theorem ch_head {T : Int → List Kp → Prop} {l xs : List Kp} (h : Ch T l xs) (hl : l ≠ []) : xs ≠ [] ∧ headK xs = headK l := by
  cases l with
  | nil => exact absurd rfl hl
  | cons p r =>
    obtain ⟨ys, zs, e, _, h2, h3, _⟩ := h
    cases ys with
    | nil => exact absurd rfl h2
    | cons y ys => subst e; exact ⟨by simp, h3⟩
theorem tr_head {b : List UInt8} {kind : UInt8} {L : Nat} {number : Int} {xs : List Kp} (h : Tr b kind L number xs) :
    ∃ l, NodeK b kind number L l ∧ xs ≠ [] ∧ headK xs = headK l := by
  cases L with
  | zero => exact ⟨xs, h, h.1, rfl⟩
  | succ L =>
    obtain ⟨l, h1, h2⟩ := h
    obtain ⟨h3, h4⟩ := ch_head h2 h1.1
    exact ⟨l, h1, h3, h4⟩
theorem headK_mem {l : List Kp} (h : l ≠ []) : ∃ p r, l = p :: r ∧ headK l = p.1 := by
  cases l with
  | nil => exact absurd rfl h
  | cons p r => exact ⟨p, r, rfl, rfl⟩
theorem sort_head {l : List Kp} (h : SortK l) {p : Kp} (hp : p ∈ l) : leK (headK l) p.1 = true := by
  cases l with
  | nil => cases hp
  | cons q r =>
    rcases List.mem_cons.1 hp with rfl | hp
    · exact leK_refl _
    · exact leK_of_lt ((List.pairwise_cons.1 h).1 p hp)
theorem sort_last {l : List Kp} (h : SortK l) {p : Kp} (hp : p ∈ l) : leK p.1 (lastKey l) = true := by
  have hne : l ≠ [] := fun e => by rw [e] at hp; cases hp
  obtain ⟨r, q, rfl⟩ : ∃ r q, l = r ++ [q] := snoc_of_ne hne
  rw [lastKey_snoc]
  rcases List.mem_append.1 hp with hp | hp
  · exact leK_of_lt ((List.pairwise_append.1 h).2.2 p hp q (by simp))
  · simp at hp; subst hp; exact leK_refl _
theorem sort_left {l k : List Kp} (h : SortK (l ++ k)) : SortK l := (List.pairwise_append.1 h).1
theorem sort_right {l k : List Kp} (h : SortK (l ++ k)) : SortK k := (List.pairwise_append.1 h).2.1
theorem sort_cross {l k : List Kp} (h : SortK (l ++ k)) {p q : Kp} (hp : p ∈ l) (hq : q ∈ k) : ltK p.1 q.1 = true := (List.pairwise_append.1 h).2.2 p hp q hq
theorem lastKey_append {l k : List Kp} (h : k ≠ []) : lastKey (l ++ k) = lastKey k := by
  unfold lastKey
  rw [List.getLast?_append]
  cases hk : k.getLast? with
  | none => simp at hk; exact absurd hk h
  | some q => rfl
/-! A key among pairs. -/
def lookK (xs : List Kp) (key : ByteArray) : Int × Bool := match xs.find? (fun p => p.1 = key) with | some p => (p.2, true) | none => (0, false)
theorem lookK_none {xs : List Kp} {key : ByteArray} (h : ∀ p ∈ xs, p.1 ≠ key) : lookK xs key = (0, false) := by
  unfold lookK
  rw [List.find?_eq_none.2 (by simpa using h)]
theorem lookK_left {xs ys : List Kp} {key : ByteArray} (h : ∀ p ∈ ys, p.1 ≠ key) : lookK (xs ++ ys) key = lookK xs key := by
  unfold lookK
  have hy : ys.find? (fun p => decide (p.1 = key)) = none := List.find?_eq_none.2 (by simpa using h)
  rw [List.find?_append, hy]
  simp
theorem lookK_right {xs ys : List Kp} {key : ByteArray} (h : ∀ p ∈ xs, p.1 ≠ key) : lookK (xs ++ ys) key = lookK ys key := by
  unfold lookK
  have hx : xs.find? (fun p => decide (p.1 = key)) = none := List.find?_eq_none.2 (by simpa using h)
  rw [List.find?_append, hx]
  simp
theorem lookK_one {p : Kp} {r : List Kp} : lookK (p :: r) p.1 = (p.2, true) := by
  unfold lookK
  simp
theorem lookK_sorted {xs : List Kp} (h : SortK xs) {p : Kp} (hp : p ∈ xs) : lookK xs p.1 = (p.2, true) := by
  obtain ⟨us0, bs, rfl⟩ := List.append_of_mem hp
  rw [lookK_right (fun q hq e => ?_), lookK_one]
  have := sort_cross h hq (List.mem_cons_self)
  rw [e, ltK_irrefl] at this
  cases this
theorem behindK_spec (key : ByteArray) : ∀ (l : List Kp), SortK l → (∀ p ∈ l.take (behindK key l), leK p.1 key = true) ∧ (∀ p ∈ l.drop (behindK key l), ltK key p.1 = true)
  | [], _ => by simp [behindK]
  | p :: r, h => by
    unfold behindK
    split
    · rename_i h1
      have ih := behindK_spec key r (List.pairwise_cons.1 h).2
      refine ⟨?_, by simpa using ih.2⟩
      intro q hq
      rw [List.take_succ_cons] at hq
      rcases List.mem_cons.1 hq with rfl | hq
      · exact h1
      · exact ih.1 q hq
    · rename_i h1
      refine ⟨by simp, ?_⟩
      have hk : ltK key p.1 = true := by
        rw [leK_not] at h1; simpa using h1
      intro q hq
      simp only [List.drop_zero] at hq
      rcases List.mem_cons.1 hq with rfl | hq
      · exact hk
      · exact ltK_trans hk ((List.pairwise_cons.1 h).1 q hq)
theorem behindK_zero {key : ByteArray} {l : List Kp} (h : SortK l) (h0 : behindK key l = 0) : ∀ p ∈ l, ltK key p.1 = true := by
  have := (behindK_spec key l h).2
  rw [h0] at this
  simpa using this
/-- The pair that leads to a key, what lies ahead of it, what lies behind. -/
theorem behindK_split {key : ByteArray} {l : List Kp} (h : SortK l) (h0 : behindK key l ≠ 0) :
    ∃ us0 p bs, l = us0 ++ p :: bs ∧ behindK key l = us0.length + 1 ∧ leK p.1 key = true ∧ ∀ q ∈ bs, ltK key q.1 = true := by
  have hs := behindK_spec key l h
  have hle := behindK_le key l
  obtain ⟨k, hk⟩ : ∃ k, behindK key l = k + 1 := ⟨behindK key l - 1, by omega⟩
  rw [hk] at hs hle
  have hlt : k < l.length := by omega
  have e : l = l.take k ++ l[k] :: l.drop (k + 1) := by
    rw [← List.drop_eq_getElem_cons hlt, List.take_append_drop]
  refine ⟨l.take k, l[k], l.drop (k + 1), e, ?_, ?_, ?_⟩
  · rw [hk, List.length_take]; omega
  · refine hs.1 _ ?_
    rw [List.mem_take_iff_getElem]
    exact ⟨k, by omega, rfl⟩
  · exact hs.2
theorem ne_of_ltK {a b : ByteArray} (h : ltK a b = true) : a ≠ b := fun e => by rw [e, ltK_irrefl] at h; cases h
theorem find_tr {b : List UInt8} {kind : UInt8} {key : ByteArray} : ∀ (L f : Nat) (number level : Int) (xs : List Kp), Tr b kind L number xs → SortK xs → (level = -1 ∨ level = L) → L < f →
    findK b kind key f number level = ((lookK xs key).1, (lookK xs key).2, 0)
  | 0, f + 1, number, level, xs, h, hs, hl, _ => by
    have hr := h.2 level hl
    unfold findK
    rw [hr]
    simp only [ne_eq, not_true_eq_false, if_false]
    by_cases h0 : behindK key xs = 0
    · have hno := behindK_zero hs h0
      rw [lookK_none (fun p hp e => ne_of_ltK (hno p hp) e.symm)]
      split
      · rfl
      · rw [if_pos h0]
    · obtain ⟨us0, p, bs, e, hb, hp, hbs⟩ := behindK_split hs h0
      have hg : xs[behindK key xs - 1]? = some p := by
        rw [hb, e]; simp
      rw [hg]
      simp only
      rw [if_neg h0, if_pos (show ((0 : Nat) : Int) = 0 from rfl)]
      have hsp : SortK (us0 ++ p :: bs) := by rw [← e]; exact hs
      have hbs' : ∀ q ∈ bs, q.1 ≠ key := fun q hq e => ne_of_ltK (hbs q hq) e.symm
      by_cases hk : p.1 = key
      · rw [if_pos hk, ← hk, lookK_sorted hs (by rw [e]; simp)]
      · rw [if_neg hk, lookK_none]
        intro q hq
        rw [e] at hq
        rcases List.mem_append.1 hq with hq | hq
        · have := sort_cross hsp hq (List.mem_cons_self)
          exact ne_of_ltK (lt_of_lt_le this hp)
        · rcases List.mem_cons.1 hq with rfl | hq
          · exact hk
          · exact hbs' q hq
  | L + 1, f + 1, number, level, xs, h, hs, hl, hf => by
    obtain ⟨l, hn, hc⟩ := h
    have hr := hn.2 level (by omega)
    have hsl : SortK l := (readK_ok hr).2.2.2.1
    have hk0 : ¬ (((L + 1 : Nat) : Int) = 0) := by omega
    unfold findK
    rw [hr]
    simp only [ne_eq, not_true_eq_false, if_false]
    by_cases h0 : behindK key l = 0
    · have hno := behindK_zero hsl h0
      obtain ⟨h1, h2⟩ := ch_head hc hn.1
      obtain ⟨p, r, e, hp⟩ := headK_mem hn.1
      have hkey : ltK key (headK xs) = true := by rw [h2, hp]; exact hno p (by rw [e]; simp)
      rw [lookK_none (fun q hq e => ne_of_ltK (lt_of_lt_le hkey (sort_head hs hq)) e.symm)]
      split
      · rfl
      · rw [if_pos h0]
    · obtain ⟨us0, p, bs, e, hb, hp, hbs⟩ := behindK_split hsl h0
      have hg : l[behindK key l - 1]? = some p := by
        rw [hb, e]; simp
      rw [hg]
      simp only
      rw [if_neg h0, if_neg hk0]
      rw [e] at hc
      obtain ⟨us, vs, e2, hc1, ⟨ys, zs, e3, ht, hy, hyh, hc2⟩⟩ := ch_append.1 hc
      subst e2; subst e3
      have e4 : ((L + 1 : Nat) : Int) - 1 = (L : Int) := by omega
      rw [e4, find_tr L f p.2 (L : Int) ys ht (sort_left (sort_right hs)) (.inr rfl) (by omega)]
      have hyk : ltK (headK ys) key = true ∨ headK ys = key := by
        rw [hyh]
        rcases Bool.or_eq_true _ _ ▸ (show (ltK p.1 key || (p.1.toList == key.toList)) = true from hp) with h5 | h5
        · exact .inl h5
        · exact .inr (key_ext (beq_iff_eq.1 h5))
      rw [lookK_right (xs := us), lookK_left (ys := zs)]
      · intro q hq
        cases bs with
        | nil => simp only [Ch] at hc2; subst hc2; cases hq
        | cons t bs =>
          obtain ⟨h6, h7⟩ := ch_head hc2 (by simp)
          have h8 : ltK key (headK zs) = true := by rw [h7]; exact hbs t (by simp)
          exact fun e => ne_of_ltK (lt_of_lt_le h8 (sort_head (sort_right (sort_right hs)) hq)) e.symm
      · intro q hq
        obtain ⟨t, r, e5, h6⟩ := headK_mem hy
        have h7 : ltK q.1 t.1 = true := sort_cross hs hq (by rw [e5]; simp)
        rw [← h6, hyh] at h7
        exact ne_of_ltK (lt_of_lt_le h7 hp)
/-! A tree checked. -/
theorem headLe_iff {l : List Kp} {k : ByteArray} (h : l ≠ []) : headLe l k = leK (headK l) k := by
  cases l with
  | nil => exact absurd rfl h
  | cons p r => rfl
theorem overC_tr {b : List UInt8} {kind : UInt8} {L : Nat} {g : Int → ByteArray → Wk → Wk × Nat}
    (hg : ∀ number xs (s : Wk), Tr b kind L number xs → SortK xs → (0 < s.1 → ltK s.2 (headK xs) = true) → g number (headK xs) s = ((s.1 + xs.length, lastKey xs), 0)) :
    ∀ (l xs : List Kp) (s : Wk), Ch (Tr b kind L) l xs → SortK xs → (xs ≠ [] → 0 < s.1 → ltK s.2 (headK xs) = true) → overC g l s = ((s.1 + xs.length, lastD xs s.2), 0)
  | [], xs, s, h, _, _ => by simp only [Ch] at h; subst h; simp [overC, lastD]
  | p :: r, xs, s, h, hs, hlt => by
    obtain ⟨ys, zs, e, h1, h2, h3, h4⟩ := h
    subst e
    have hh : headK (ys ++ zs) = headK ys := by
      cases ys with
      | nil => exact absurd rfl h2
      | cons y ys => rfl
    have hyz : ys ++ zs ≠ [] := by simp [h2]
    have e1 := hg p.2 ys s h1 (sort_left hs) (fun h0 => by rw [← hh]; exact hlt hyz h0)
    rw [h3] at e1
    have hl : 0 < ys.length := by
      cases ys with
      | nil => exact absurd rfl h2
      | cons _ _ => simp
    unfold overC
    rw [e1]
    simp only [ne_eq, not_true_eq_false, if_false]
    rw [overC_tr hg r zs _ h4 (sort_right hs)]
    · simp only [lastD, hyz, if_false, List.length_append]
      by_cases hz : zs = []
      · subst hz; simp [lastKey]
      · rw [if_neg hz, lastKey_append hz]
        simp only [Prod.mk.injEq, and_true]
        omega
    · intro hz _
      obtain ⟨t, q, e5, h6⟩ := headK_mem hz
      have hmem : ∃ u, u ∈ ys ∧ u.1 = lastKey ys := by
        obtain ⟨r', q', rfl⟩ : ∃ r q, ys = r ++ [q] := snoc_of_ne h2
        exact ⟨q', by simp, by rw [lastKey_snoc]⟩
      obtain ⟨u, hu, hu2⟩ := hmem
      show ltK (lastKey ys) (headK zs) = true
      rw [h6, ← hu2]
      exact sort_cross hs hu (by rw [e5]; simp)
theorem check_tr {b : List UInt8} {kind : UInt8} : ∀ (L f : Nat) (number level : Int) (first : ByteArray) (xs : List Kp) (s : Wk), Tr b kind L number xs → SortK xs → (level = -1 ∨ (level = L ∧ first = headK xs)) → L < f →
    (0 < s.1 → ltK s.2 (headK xs) = true) → checkK b kind f number level first s = ((s.1 + xs.length, lastKey xs), 0)
  | 0, f + 1, number, level, first, xs, s, h, hs, hl, _, hlt => by
    have hr := h.2 level (by omega)
    unfold checkK
    rw [hr]
    simp only [ne_eq, not_true_eq_false, if_false]
    rw [if_neg (fun hx => hl.elim (fun h3 => hx.1 h3) (fun h4 => hx.2 h4.2.symm)), if_pos (show ((0 : Nat) : Int) = 0 from rfl), if_neg]
    · simp [lastD, h.1]
    · rintro ⟨h1, h2⟩
      rw [headLe_iff h.1] at h2
      exact not_lt_le (hlt h1) h2
  | L + 1, f + 1, number, level, first, xs, s, h, hs, hl, hf, hlt => by
    obtain ⟨l, hn, hc⟩ := h
    have hr := hn.2 level (by omega)
    obtain ⟨hx, hh⟩ := ch_head hc hn.1
    unfold checkK
    rw [hr]
    simp only [ne_eq, not_true_eq_false, if_false]
    rw [if_neg (fun hx => hl.elim (fun h3 => hx.1 h3) (fun h4 => hx.2 (by rw [h4.2, hh]))), if_neg (by omega)]
    have e4 : ((L + 1 : Nat) : Int) - 1 = (L : Int) := by omega
    rw [e4, overC_tr (L := L) (b := b) (kind := kind) (fun n' xs' s' h1 h2 h3 => check_tr L f n' (L : Int) (headK xs') xs' s' h1 h2 (.inr ⟨rfl, rfl⟩) (by omega) h3) l xs s hc hs (fun _ => hlt)]
    simp [lastD, hx]
/-- What a check that ends well has seen. -/
theorem overC_inv {b : List UInt8} {kind : UInt8} {L : Nat} {g : Int → ByteArray → Wk → Wk × Nat}
    (hg : ∀ number first (s s' : Wk), g number first s = (s', 0) → ∃ xs, Tr b kind L number xs ∧ SortK xs ∧ headK xs = first ∧ s' = (s.1 + xs.length, lastKey xs) ∧ (0 < s.1 → ltK s.2 (headK xs) = true)) :
    ∀ (l : List Kp) (s s' : Wk), overC g l s = (s', 0) → ∃ xs, Ch (Tr b kind L) l xs ∧ SortK xs ∧ s' = (s.1 + xs.length, lastD xs s.2) ∧ (xs ≠ [] → 0 < s.1 → ltK s.2 (headK xs) = true)
  | [], s, s', h => ⟨[], rfl, by simp [SortK], by simp [overC] at h; simp [lastD, h], by simp⟩
  | p :: r, s, s', h => by
    obtain ⟨s1, e1, hgs⟩ : ∃ s1 e1, g p.2 p.1 s = (s1, e1) := ⟨_, _, rfl⟩
    unfold overC at h
    rw [hgs] at h
    split at h
    · rename_i h1; injection h with _ h; exact absurd h h1
    · rename_i h1
      have h0 : e1 = 0 := Decidable.byContradiction h1
      subst h0
      obtain ⟨ys, t1, t2, t3, t4, t5⟩ := hg p.2 p.1 s s1 hgs
      obtain ⟨zs, u1, u2, u3, u4⟩ := overC_inv hg r _ s' h
      subst t4
      simp only at u3 u4
      obtain ⟨_, _, hne, _⟩ := tr_head t1
      have hl : 0 < ys.length := by
        cases ys with
        | nil => exact absurd rfl hne
        | cons _ _ => simp
      have hh : headK (ys ++ zs) = headK ys := by
        cases ys with
        | nil => exact absurd rfl hne
        | cons y ys => rfl
      refine ⟨ys ++ zs, ⟨ys, zs, rfl, t1, hne, t3, u1⟩, ?_, ?_, ?_⟩
      · unfold SortK
        rw [List.pairwise_append]
        refine ⟨t2, u2, fun a ha c hc => ?_⟩
        have hz : zs ≠ [] := fun e => by rw [e] at hc; cases hc
        exact lt_of_le_lt (sort_last t2 ha) (lt_of_lt_le (u4 hz (by omega)) (sort_head u2 hc))
      · rw [u3]
        by_cases hz : zs = []
        · subst hz; simp [lastD, hne]
        · simp only [lastD, hz, if_false, List.length_append, List.append_eq_nil_iff, hne, and_false, lastKey_append hz]
          simp only [Prod.mk.injEq, and_true]
          omega
      · intro _ h6
        rw [hh]; exact t5 h6
theorem check_inv {b : List UInt8} {kind : UInt8} : ∀ (f : Nat) (number level : Int) (first : ByteArray) (s s' : Wk), checkK b kind f number level first s = (s', 0) → (level = -1 → 14 ≤ f) → (level ≠ -1 → level < (f : Int) ∧ 0 ≤ level) →
    (level = -1 ∧ readK b kind number (-1) = (0, 0, []) ∧ s'.1 = s.1) ∨
    ∃ (L : Nat) (xs : List Kp), Tr b kind L number xs ∧ SortK xs ∧ (level = -1 ∨ (level = L ∧ headK xs = first)) ∧ s' = (s.1 + xs.length, lastKey xs) ∧ (0 < s.1 → ltK s.2 (headK xs) = true) ∧ L < 13
  | 0, number, level, first, s, s', h, h1, h2 => by
    by_cases hl : level = -1
    · have := h1 hl; omega
    · have := h2 hl; omega
  | f + 1, number, level, first, s, s', h, hf1, hf2 => by
    obtain ⟨e, n, l, hr⟩ : ∃ e n l, readK b kind number level = (e, n, l) := ⟨_, _, _, rfl⟩
    unfold checkK at h
    rw [hr] at h
    simp only at h
    by_cases he : e ≠ 0
    · rw [if_pos he] at h; injection h with _ h; exact absurd h he
    rw [if_neg he] at h
    have he : e = 0 := by omega
    subst he
    obtain ⟨hn0, hn12, hlev, hsl, _, hemp, _⟩ := readK_ok hr
    by_cases hfirst : level ≠ -1 ∧ headK l ≠ first
    · rw [if_pos hfirst] at h; cases h
    rw [if_neg hfirst] at h
    obtain ⟨L, rfl⟩ := Int.eq_ofNat_of_zero_le hn0
    by_cases hlz : l = []
    · subst hlz
      obtain ⟨rfl, hL⟩ := hemp rfl
      have hL : L = 0 := by omega
      subst hL
      left
      refine ⟨rfl, hr, ?_⟩
      rw [if_pos (show ((0 : Nat) : Int) = 0 from rfl)] at h
      rw [if_neg (show ¬ (0 < s.1 ∧ headLe [] s.2 = true) from fun hx => by cases hx.2)] at h
      injection h with h _
      rw [← h]; rfl
    · right
      have hnode : NodeK b kind number L l := ⟨hlz, fun level' h' => readK_level hr hlz (by omega)⟩
      cases L with
      | zero =>
        rw [if_pos (show ((0 : Nat) : Int) = 0 from rfl)] at h
        by_cases hle : 0 < s.1 ∧ headLe l s.2 = true
        · rw [if_pos hle] at h; cases h
        · rw [if_neg hle] at h
          injection h with h _
          refine ⟨0, l, hnode, hsl, ?_, ?_, ?_, by omega⟩
          · by_cases hm : level = -1
            · exact .inl hm
            · right
              refine ⟨hlev.elim (fun h3 => absurd h3 hm) (fun h3 => h3.symm), ?_⟩
              simp only [not_and, Decidable.not_not] at hfirst
              exact hfirst hm
          · rw [← h]; simp [lastD, hlz]
          · intro h0
            rw [headLe_iff hlz] at hle
            have : ¬ leK (headK l) s.2 = true := fun e => hle ⟨h0, e⟩
            rw [leK_not] at this
            simpa using this
      | succ L =>
        rw [if_neg (by omega)] at h
        have e4 : ((L + 1 : Nat) : Int) - 1 = (L : Int) := by omega
        rw [e4] at h
        obtain ⟨xs, h1, h2, h3, h4⟩ := overC_inv (b := b) (kind := kind) (L := L) (fun n' first' t t' ht => by
          rcases check_inv f n' (L : Int) first' t t' ht (by omega) (fun _ => ⟨by
            by_cases hm : level = -1
            · have := hf1 hm; omega
            · have := hf2 hm; omega, by omega⟩) with ⟨hc, _⟩ | ⟨L', ys, c1, c2, c3, c4, c5, _⟩
          · omega
          · rcases c3 with c3 | ⟨c3, c3'⟩
            · omega
            · have : L' = L := by omega
              subst this
              exact ⟨ys, c1, c2, c3', c4, c5⟩) l s s' h
        obtain ⟨hx, hh⟩ := ch_head h1 hlz
        refine ⟨L + 1, xs, ⟨l, hnode, h1⟩, h2, ?_, ?_, h4 hx, by omega⟩
        · by_cases hm : level = -1
          · exact .inl hm
          · right
            refine ⟨hlev.elim (fun h3 => absurd h3 hm) (fun h3 => h3.symm), ?_⟩
            simp only [not_and, Decidable.not_not] at hfirst
            rw [hh]; exact hfirst hm
        · rw [h3]; simp [lastD, hx]
/-! The leaves of a tree. -/
theorem overL_tr {b : List UInt8} {kind : UInt8} {key : ByteArray} {L : Nat} {g : Int → Bool → Wk → WR}
    (hg : ∀ number edge xs (s : Wk), Tr b kind L number xs → SortK xs → (0 < s.1 → ltK s.2 (headK xs) = true) →
      ∃ Ls zs ys, g number edge s = (Ls, (s.1 + Ls.length, lastKey xs), 0) ∧ xs = zs ++ ys ∧ Ls.flatten = ys ∧ (∀ p ∈ zs, ltK p.1 key = true) ∧ (edge = false → zs = []) ∧ (∀ l ∈ Ls, l ≠ []) ∧ Ls ≠ []) :
    ∀ (l xs : List Kp) (edge : Bool) (s : Wk), Ch (Tr b kind L) l xs → SortK xs → (xs ≠ [] → 0 < s.1 → ltK s.2 (headK xs) = true) →
      ∃ Ls zs ys, overL g edge l s = (Ls, (s.1 + Ls.length, lastD xs s.2), 0) ∧ xs = zs ++ ys ∧ Ls.flatten = ys ∧ (∀ p ∈ zs, ltK p.1 key = true) ∧ (edge = false → zs = []) ∧ (∀ l ∈ Ls, l ≠ []) ∧ (l ≠ [] → Ls ≠ [])
  | [], xs, edge, s, h, _, _ => by simp only [Ch] at h; subst h; exact ⟨[], [], [], by simp [overL, lastD], rfl, rfl, by simp, by simp, by simp, by simp⟩
  | p :: r, xs, edge, s, h, hs, hlt => by
    obtain ⟨ys, zs, e, h1, h2, h3, h4⟩ := h
    subst e
    have hh : headK (ys ++ zs) = headK ys := by
      cases ys with
      | nil => exact absurd rfl h2
      | cons y ys => rfl
    have hyz : ys ++ zs ≠ [] := by simp [h2]
    obtain ⟨Ls, za, yb, e1, e2, e3, e4, e5, e6, e7⟩ := hg p.2 edge ys s h1 (sort_left hs) (fun h0 => by rw [← hh]; exact hlt hyz h0)
    have hmem : ∃ u, u ∈ ys ∧ u.1 = lastKey ys := by
      obtain ⟨r', q', rfl⟩ : ∃ r q, ys = r ++ [q] := snoc_of_ne h2
      exact ⟨q', by simp, by rw [lastKey_snoc]⟩
    obtain ⟨u, hu, hu2⟩ := hmem
    obtain ⟨Ls', zc, yd, f1, f2, f3, f4, f5, f6, f7⟩ := overL_tr hg r zs false (s.1 + Ls.length, lastKey ys) h4 (sort_right hs) (fun hz _ => by
      obtain ⟨t, q, e5, h6⟩ := headK_mem hz
      show ltK (lastKey ys) (headK zs) = true
      rw [h6, ← hu2]
      exact sort_cross hs hu (by rw [e5]; simp))
    have hzc := f5 rfl
    subst hzc
    simp only [List.nil_append] at f2
    subst f2
    refine ⟨Ls ++ Ls', za, yb ++ zs, ?_, by rw [e2, List.append_assoc], by rw [List.flatten_append, e3, f3], e4, e5, ?_, fun _ => by simp [e7]⟩
    · unfold overL
      rw [e1]
      simp only [ne_eq, not_true_eq_false, if_false]
      rw [f1]
      simp only [lastD, hyz, if_false, List.length_append]
      by_cases hz : zs = []
      · subst hz; simp [Nat.add_assoc]
      · rw [if_neg hz, lastKey_append hz]
        simp only [Prod.mk.injEq, true_and, and_true]
        omega
    · intro l hl
      rcases List.mem_append.1 hl with h | h
      · exact e6 l h
      · exact f6 l h
theorem leaves_tr {b : List UInt8} {kind : UInt8} {key : ByteArray} : ∀ (L f : Nat) (number level : Int) (edge : Bool) (xs : List Kp) (s : Wk), Tr b kind L number xs → SortK xs → (level = -1 ∨ level = L) → L < f →
    (0 < s.1 → ltK s.2 (headK xs) = true) →
    ∃ Ls zs ys, leavesK b kind key f number level edge s = (Ls, (s.1 + Ls.length, lastKey xs), 0) ∧ xs = zs ++ ys ∧ Ls.flatten = ys ∧ (∀ p ∈ zs, ltK p.1 key = true) ∧ (edge = false → zs = []) ∧ (∀ l ∈ Ls, l ≠ []) ∧ Ls ≠ []
  | 0, f + 1, number, level, edge, xs, s, h, hs, hl, _, hlt => by
    have hr := h.2 level (by omega)
    refine ⟨[xs], [], xs, ?_, rfl, by simp, by simp, by simp, by simpa using h.1, by simp⟩
    unfold leavesK
    rw [hr]
    simp only [ne_eq, not_true_eq_false, if_false]
    rw [if_pos (show ((0 : Nat) : Int) = 0 from rfl), if_neg]
    · simp [lastD, h.1]
    · rintro ⟨h1, h2⟩
      rw [headLe_iff h.1] at h2
      exact not_lt_le (hlt h1) h2
  | L + 1, f + 1, number, level, edge, xs, s, h, hs, hl, hf, hlt => by
    obtain ⟨l, hn, hc⟩ := h
    have hr := hn.2 level (by omega)
    have hsl : SortK l := (readK_ok hr).2.2.2.1
    obtain ⟨hx, hh⟩ := ch_head hc hn.1
    have e4 : ((L + 1 : Nat) : Int) - 1 = (L : Int) := by omega
    have hk0 : ¬ (((L + 1 : Nat) : Int) = 0) := by omega
    have key2 : ∀ l2 xs2 edge2, Ch (Tr b kind L) l2 xs2 → SortK xs2 → (xs2 ≠ [] → 0 < s.1 → ltK s.2 (headK xs2) = true) → _ := fun l2 xs2 edge2 =>
      overL_tr (b := b) (kind := kind) (key := key) (L := L) (g := fun n' e' s' => leavesK b kind key f n' (L : Int) e' s')
        (fun n' e' xs' s' h1 h2 h3 => leaves_tr L f n' (L : Int) e' xs' s' h1 h2 (.inr rfl) (by omega) h3) l2 xs2 edge2 s
    unfold leavesK
    rw [hr]
    simp only [ne_eq, not_true_eq_false, if_false]
    rw [if_neg hk0, e4]
    by_cases hd : edge = true ∧ behindK key l ≠ 0
    · obtain ⟨rfl, h0⟩ := hd
      obtain ⟨us0, p, bs, e, hb, hp, hbs⟩ := behindK_split hsl h0
      have hdrop : l.drop (if true = true then behindK key l - 1 else 0) = p :: bs := by
        rw [if_pos rfl, hb, e]; simp
      rw [hdrop]
      rw [e] at hc
      obtain ⟨us, vs, e2, hc1, hc2⟩ := ch_append.1 hc
      subst e2
      obtain ⟨h6, h7⟩ := ch_head hc2 (by simp)
      have hlow : ∀ q ∈ us, ltK q.1 key = true := fun q hq => by
        obtain ⟨t, r, e5, h8⟩ := headK_mem h6
        have h9 : ltK q.1 t.1 = true := sort_cross hs hq (by rw [e5]; simp)
        rw [← h8, h7] at h9
        exact lt_of_lt_le h9 hp
      obtain ⟨Ls, zs, ys, f1, f2, f3, f4, f5, f6, f7⟩ := key2 (p :: bs) vs true hc2 (sort_right hs) (fun _ h0 => by
        have h8 := hlt h0
        by_cases hu : us = []
        · subst hu; exact h8
        · obtain ⟨t, r, e5, h9⟩ := headK_mem hu
          obtain ⟨t', r', e6, h10⟩ := headK_mem h6
          have h11 : headK (us ++ vs) = t.1 := by rw [e5]; rfl
          rw [h11] at h8
          rw [h10]
          exact ltK_trans h8 (sort_cross hs (by rw [e5]; simp) (by rw [e6]; simp)))
      refine ⟨Ls, us ++ zs, ys, ?_, by rw [f2, List.append_assoc], f3, ?_, by simp, f6, f7 (by simp)⟩
      · rw [f1]; simp [lastD, h6, lastKey_append h6]
      · intro q hq
        rcases List.mem_append.1 hq with h | h
        · exact hlow q h
        · exact f4 q h
    · have hdrop : l.drop (if edge = true then behindK key l - 1 else 0) = l := by
        split
        · rename_i h1
          have : behindK key l = 0 := by
            by_cases h2 : behindK key l = 0
            · exact h2
            · exact absurd ⟨h1, h2⟩ hd
          rw [this]; rfl
        · rfl
      rw [hdrop]
      obtain ⟨Ls, zs, ys, f1, f2, f3, f4, f5, f6, f7⟩ := key2 l xs edge hc hs (fun _ => hlt)
      exact ⟨Ls, zs, ys, by rw [f1]; simp [lastD, hx], f2, f3, f4, f5, f6, f7 hn.1⟩
end Go.Proofs.Ytkgdcglnkodgnaa
