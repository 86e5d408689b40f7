/-
  The reader of layer 26, plain: its bytes; what is saved is loaded, what is loaded was saved. No condition.
-/
import Derived.Test.YtkgdcglnkodgnaaNavQ
namespace Go.Proofs.Ytkgdcglnkodgnaa
/-- A place's bytes, a list's, a reader's. -/
def putPl (p : Pl) : List UInt8 := putU p.1.toNat ++ putU p.2.toNat
def putPs : List Pl → List UInt8
  | [] => []
  | p :: r => putPl p ++ putPs r
def putL (l : List Pl) : List UInt8 := putU l.length ++ putPs l
theorem putPs_append (l m : List Pl) : putPs (l ++ m) = putPs l ++ putPs m := by
  induction l with
  | nil => rfl
  | cons p r ih => simp [putPs, ih]
def magicN : List UInt8 := [78, 65, 86, 49]
def NS.now1 (s : NS) : List Pl := if s.has then [s.now] else []
def NS.save (s : NS) : List UInt8 := magicN ++ putL s.bh ++ putL s.now1 ++ putL s.ah ++ putL s.mks
/-- What a cursor has ahead. -/
def CS.rest (s : CS) : List UInt8 := s.l.drop s.at'
theorem indexC_ok {s s' : CS} {lim v : Nat} (h : indexC s lim = (v, s')) (he : s'.err = 0) (hat : s.at' ≤ s.l.length) :
    s.err = 0 ∧ v < lim ∧ s.rest = putU v ++ s'.rest ∧ s'.l = s.l ∧ s'.at' ≤ s'.l.length := by
  obtain ⟨x, k, e, hn⟩ : ∃ x k e, numU 0 0 (s.l.drop s.at') = (x, k, e) := ⟨_, _, _, rfl⟩
  have hu : uintC s = if s.err ≠ 0 then (0, s) else if e ≠ 0 then (0, { s with err := e }) else (x, { s with at' := s.at' + k }) := by
    unfold uintC; rw [hn]
  unfold indexC at h
  rw [hu] at h
  by_cases h1 : s.err ≠ 0
  · simp only [if_pos h1] at h
    injection h with _ h; subst h; exact absurd he h1
  simp only [if_neg h1] at h
  have h1 : s.err = 0 := by omega
  by_cases h2 : e ≠ 0
  · simp only [if_pos h2] at h
    injection h with _ h; subst h; exact absurd he h2
  simp only [if_neg h2] at h
  have h2 : e = 0 := by omega
  subst h2
  simp only [h1, ne_eq, not_true_eq_false, if_false] at h
  by_cases h3 : lim ≤ x
  · rw [if_pos h3] at h
    injection h with _ h; subst h; exact absurd he (by simp)
  rw [if_neg h3] at h
  injection h with hx h
  subst hx; subst h
  obtain ⟨n, hv, hk, ht, _, hl, _⟩ := numU_ok _ 0 0 x k hn
  simp at hv hk ht
  subst hv
  rw [List.length_drop] at hl
  refine ⟨h1, by omega, ?_, rfl, by simp only; omega⟩
  unfold CS.rest
  simp only
  rw [← ht, ← List.drop_drop]
  exact (List.take_append_drop k _).symm
theorem indexC_put {s : CS} {lim v : Nat} {r : List UInt8} (he : s.err = 0) (hr : s.rest = putU v ++ r) (hat : s.at' ≤ s.l.length) (hv : v < lim) (hl : lim ≤ 4096) :
    ∃ s', indexC s lim = (v, s') ∧ s'.err = 0 ∧ s'.rest = r ∧ s'.l = s.l ∧ s'.at' ≤ s'.l.length := by
  have hn := numU_put v 0 0 r (by simp; omega) (.inl rfl)
  unfold CS.rest at hr
  rw [← hr] at hn
  simp at hn
  have hu : uintC s = (v, { s with at' := s.at' + (putU v).length }) := by
    unfold uintC
    rw [hn]
    simp [he]
  have hlen := congrArg List.length hr
  rw [List.length_drop, List.length_append] at hlen
  refine ⟨{ s with at' := s.at' + (putU v).length }, ?_, he, ?_, rfl, ?_⟩
  · unfold indexC
    rw [hu]
    simp only [he, ne_eq, not_true_eq_false, if_false]
    rw [if_neg (by omega)]
  · unfold CS.rest
    simp only
    rw [← List.drop_drop, hr]
    simp
  · simp only; omega
theorem indexC_bad {s : CS} {lim : Nat} (h : s.err ≠ 0) : indexC s lim = (0, s) := by
  unfold indexC uintC
  simp [h]
/-- A place taken; many places; a list of at most so many. -/
def takeOne (s : CS) : Pl × CS := ((((indexC s 1000).1 : Int), ((indexC (indexC s 1000).2 2000).1 : Int)), (indexC (indexC s 1000).2 2000).2)
def takeMany : Nat → CS → List Pl × CS
  | 0, s => ([], s)
  | n + 1, s => ((takeOne s).1 :: (takeMany n (takeOne s).2).1, (takeMany n (takeOne s).2).2)
def takenC (s : CS) (most : Nat) : List Pl × CS := takeMany (indexC s (most + 1)).1 (indexC s (most + 1)).2
theorem takeOne_ok {s s' : CS} {p : Pl} (h : takeOne s = (p, s')) (he : s'.err = 0) (hat : s.at' ≤ s.l.length) :
    s.err = 0 ∧ mayQ p = true ∧ s.rest = putPl p ++ s'.rest ∧ s'.l = s.l ∧ s'.at' ≤ s'.l.length := by
  obtain ⟨a, sa, ha⟩ : ∃ a sa, indexC s 1000 = (a, sa) := ⟨_, _, rfl⟩
  obtain ⟨b, sb, hb⟩ : ∃ b sb, indexC sa 2000 = (b, sb) := ⟨_, _, rfl⟩
  unfold takeOne at h
  simp only [ha, hb] at h
  injection h with h1 h2
  subst h1; subst h2
  by_cases hea : sa.err = 0
  · obtain ⟨e1, l1, r1, q1, t1⟩ := indexC_ok ha hea hat
    obtain ⟨e2, l2, r2, q2, t2⟩ := indexC_ok hb he t1
    refine ⟨e1, (mayQ_iff _).2 ⟨by simp, by simp; omega, by simp, by simp; omega⟩, ?_, q2.trans q1, t2⟩
    rw [r1, r2]
    simp [putPl]
  · rw [indexC_bad hea] at hb
    injection hb with _ hb
    subst hb
    exact absurd he hea
theorem takeOne_put {s : CS} {p : Pl} {r : List UInt8} (he : s.err = 0) (hp : mayQ p = true) (hr : s.rest = putPl p ++ r) (hat : s.at' ≤ s.l.length) :
    ∃ s', takeOne s = (p, s') ∧ s'.err = 0 ∧ s'.rest = r ∧ s'.l = s.l ∧ s'.at' ≤ s'.l.length := by
  have hm := (mayQ_iff p).1 hp
  rw [putPl, List.append_assoc] at hr
  obtain ⟨sa, ha, e1, r1, q1, t1⟩ := indexC_put (lim := 1000) he hr hat (by omega) (by omega)
  obtain ⟨sb, hb, e2, r2, q2, t2⟩ := indexC_put (lim := 2000) e1 r1 t1 (by omega) (by omega)
  refine ⟨sb, ?_, e2, r2, q2.trans q1, t2⟩
  unfold takeOne
  simp only [ha, hb]
  rw [Int.toNat_of_nonneg hm.1, Int.toNat_of_nonneg hm.2.2.1]
theorem takeOne_bad {s : CS} (h : s.err ≠ 0) : takeOne s = ((0, 0), s) := by
  unfold takeOne
  rw [indexC_bad h]
  simp only
  rw [indexC_bad h]
  rfl
theorem takeMany_bad {s : CS} (h : s.err ≠ 0) (n : Nat) : (takeMany n s).2 = s := by
  induction n generalizing s with
  | zero => rfl
  | succ n ih =>
    simp only [takeMany, takeOne_bad h]
    exact ih h
theorem takeMany_ok {n : Nat} {s s' : CS} {l : List Pl} (h : takeMany n s = (l, s')) (he : s'.err = 0) (hat : s.at' ≤ s.l.length) :
    s.err = 0 ∧ l.length = n ∧ (∀ p ∈ l, mayQ p = true) ∧ s.rest = putPs l ++ s'.rest ∧ s'.l = s.l ∧ s'.at' ≤ s'.l.length := by
  induction n generalizing s l with
  | zero =>
    simp only [takeMany] at h
    injection h with h1 h2
    subst h1; subst h2
    exact ⟨he, rfl, by simp, rfl, rfl, hat⟩
  | succ n ih =>
    obtain ⟨p, sp, hp⟩ : ∃ p sp, takeOne s = (p, sp) := ⟨_, _, rfl⟩
    obtain ⟨r, sr, hr⟩ : ∃ r sr, takeMany n sp = (r, sr) := ⟨_, _, rfl⟩
    simp only [takeMany, hp, hr] at h
    injection h with h1 h2
    subst h1; subst h2
    by_cases hep : sp.err = 0
    · obtain ⟨e1, m1, r1, q1, t1⟩ := takeOne_ok hp hep hat
      obtain ⟨_, l2, m2, r2, q2, t2⟩ := ih hr t1
      refine ⟨e1, by simp [l2], fun q hq => ?_, by rw [r1, r2]; simp [putPs], q2.trans q1, t2⟩
      rcases List.mem_cons.1 hq with rfl | hq
      · exact m1
      · exact m2 q hq
    · have := takeMany_bad hep n
      rw [hr] at this
      simp only at this
      subst this
      exact absurd he hep
theorem takeMany_put {l : List Pl} {s : CS} {r : List UInt8} (he : s.err = 0) (hp : ∀ p ∈ l, mayQ p = true) (hr : s.rest = putPs l ++ r) (hat : s.at' ≤ s.l.length) :
    ∃ s', takeMany l.length s = (l, s') ∧ s'.err = 0 ∧ s'.rest = r ∧ s'.l = s.l ∧ s'.at' ≤ s'.l.length := by
  induction l generalizing s with
  | nil => exact ⟨s, rfl, he, by simpa [putPs] using hr, rfl, hat⟩
  | cons p t ih =>
    simp only [putPs, List.append_assoc] at hr
    obtain ⟨sp, h1, e1, r1, q1, t1⟩ := takeOne_put he (hp p (by simp)) hr hat
    obtain ⟨sr, h2, e2, r2, q2, t2⟩ := ih e1 (fun q hq => hp q (by simp [hq])) r1 t1
    refine ⟨sr, ?_, e2, r2, q2.trans q1, t2⟩
    simp only [List.length_cons, takeMany, h1, h2]
theorem takenC_ok {s s' : CS} {most : Nat} {l : List Pl} (h : takenC s most = (l, s')) (he : s'.err = 0) (hat : s.at' ≤ s.l.length) :
    s.err = 0 ∧ l.length ≤ most ∧ (∀ p ∈ l, mayQ p = true) ∧ s.rest = putL l ++ s'.rest ∧ s'.l = s.l ∧ s'.at' ≤ s'.l.length := by
  obtain ⟨n, sn, hn⟩ : ∃ n sn, indexC s (most + 1) = (n, sn) := ⟨_, _, rfl⟩
  unfold takenC at h
  simp only [hn] at h
  by_cases hen : sn.err = 0
  · obtain ⟨e1, l1, r1, q1, t1⟩ := indexC_ok hn hen hat
    obtain ⟨_, l2, m2, r2, q2, t2⟩ := takeMany_ok h he t1
    refine ⟨e1, by omega, m2, ?_, q2.trans q1, t2⟩
    rw [r1, r2, putL, l2]
    simp
  · have := takeMany_bad hen n
    rw [h] at this
    simp only at this
    subst this
    exact absurd he hen
theorem takenC_put {l : List Pl} {s : CS} {most : Nat} {r : List UInt8} (he : s.err = 0) (hp : ∀ p ∈ l, mayQ p = true) (hl : l.length ≤ most) (hm : most ≤ 4095) (hr : s.rest = putL l ++ r) (hat : s.at' ≤ s.l.length) :
    ∃ s', takenC s most = (l, s') ∧ s'.err = 0 ∧ s'.rest = r ∧ s'.l = s.l ∧ s'.at' ≤ s'.l.length := by
  simp only [putL, List.append_assoc] at hr
  obtain ⟨sn, h1, e1, r1, q1, t1⟩ := indexC_put (lim := most + 1) he hr hat (by omega) (by omega)
  obtain ⟨sr, h2, e2, r2, q2, t2⟩ := takeMany_put e1 hp r1 t1
  refine ⟨sr, ?_, e2, r2, q2.trans q1, t2⟩
  unfold takenC
  simp only [h1, h2]
theorem takenC_bad {s : CS} (h : s.err ≠ 0) (most : Nat) : takenC s most = ([], s) := by
  unfold takenC
  rw [indexC_bad h]
  rfl
/-- Loaded: the lists, then what is asked of them. -/
structure Lds where
  m : List UInt8
  b : List Pl
  w : List Pl
  a : List Pl
  k : List Pl
  c : CS
def ldsN (l : List UInt8) : Lds :=
  let m := takeC ⟨l, 0, 0⟩ 4
  let b := takenC m.2 32
  let w := takenC b.2 1
  let a := takenC w.2 32
  let k := takenC a.2 16
  ⟨m.1, b.1, w.1, a.1, k.1, k.2⟩
def Lds.bad (x : Lds) : Bool := decide (endC x.c ≠ 0 ∨ x.m ≠ magicN ∨ 32 < x.b.length + x.a.length ∨ (x.w.length = 0 ∧ 0 < x.b.length + x.a.length))
def loadN (l : List UInt8) : Option NS :=
  if (ldsN l).bad = true then none else if (ldsN l).k.Nodup then some ⟨decide ((ldsN l).w.length = 1), (ldsN l).w.headD (0, 0), (ldsN l).b, (ldsN l).a, (ldsN l).k⟩ else none
theorem endC_zero {s : CS} (h : endC s = 0) : s.err = 0 ∧ s.l.length ≤ s.at' := by
  unfold endC at h
  split at h
  · rename_i h1; exact absurd h h1
  · rename_i h1
    split at h
    · cases h
    · exact ⟨by omega, by omega⟩
theorem takeC_at {s : CS} {n : Nat} (hat : s.at' ≤ s.l.length) : (takeC s (n : Int)).2.at' ≤ (takeC s (n : Int)).2.l.length := by
  unfold takeC
  split
  · exact hat
  · split
    · exact hat
    · split
      · exact hat
      · simp; omega
theorem take_magic {l r : List UInt8} (h : l = magicN ++ r) : takeC ⟨l, 0, 0⟩ 4 = (magicN, ⟨l, 4, 0⟩) ∧ (⟨l, 4, 0⟩ : CS).rest = r ∧ 4 ≤ l.length := by
  subst h
  refine ⟨?_, by simp [CS.rest, magicN], by simp [magicN]⟩
  unfold takeC
  simp only [ne_eq, not_true_eq_false, if_false]
  rw [if_neg (by omega), if_neg (by simp [magicN]; omega)]
  simp [magicN]
theorem load_save {s : NS} (h : NInv s) : loadN s.save = some s := by
  obtain ⟨l, hl⟩ : ∃ l, s.save = l := ⟨_, rfl⟩
  have hl' : l = magicN ++ (putL s.bh ++ (putL s.now1 ++ (putL s.ah ++ (putL s.mks ++ [])))) := by rw [← hl]; simp [NS.save]
  rw [hl]
  obtain ⟨hm, hr, hle4⟩ := take_magic hl'
  clear hl hl'
  have hn1 : ∀ p ∈ s.now1, mayQ p = true := by
    intro p hp
    unfold NS.now1 at hp
    split at hp
    · rename_i hh; simp at hp; subst hp; exact h.now hh
    · simp at hp
  have hl1 : s.now1.length ≤ 1 := by unfold NS.now1; split <;> simp
  have hlong := h.long
  obtain ⟨s1, h1, e1, r1, q1, t1⟩ := takenC_put (s := ⟨l, 4, 0⟩) (most := 32) rfl h.bh (by omega) (by omega) hr hle4
  obtain ⟨s2, h2, e2, r2, q2, t2⟩ := takenC_put (most := 1) e1 hn1 hl1 (by omega) r1 t1
  obtain ⟨s3, h3, e3, r3, q3, t3⟩ := takenC_put (most := 32) e2 h.ah (by omega) (by omega) r2 t2
  obtain ⟨s4, h4, e4, r4, q4, t4⟩ := takenC_put (most := 16) e3 h.mks h.marks (by omega) r3 t3
  have hx : ldsN l = ⟨magicN, s.bh, s.now1, s.ah, s.mks, s4⟩ := by
    unfold ldsN
    simp only [hm, h1, h2, h3, h4]
  have he : endC s4 = 0 := by
    unfold endC
    have : (s4.l.drop s4.at').length = 0 := by rw [show s4.l.drop s4.at' = [] from r4]; rfl
    rw [List.length_drop] at this
    rw [if_neg (by simp [e4]), if_neg (by omega)]
  have hb : (ldsN l).bad = false := by
    rw [hx]
    unfold Lds.bad
    simp only [he]
    refine decide_eq_false ?_
    rintro (h1 | h1 | h1 | ⟨h1, h2⟩)
    · exact h1 rfl
    · exact h1 rfl
    · omega
    · cases hh : s.has
      · obtain ⟨_, e2, e3⟩ := h.none hh
        simp [e2, e3] at h2
      · simp [NS.now1, hh] at h1
  have hfin : (⟨decide (s.now1.length = 1), s.now1.headD (0, 0), s.bh, s.ah, s.mks⟩ : NS) = s := by
    obtain ⟨b, n, x, y, z⟩ := s
    cases b
    · have := (h.none rfl).1
      simp only at this
      subst this
      rfl
    · rfl
  clear h1 h2 h3 h4 r1 r2 r3 r4 hr hm
  unfold loadN
  rw [hb, hx]
  simp only [Bool.false_eq_true, if_false]
  rw [if_pos h.nodup, hfin]
theorem save_load {l : List UInt8} {s : NS} (h : loadN l = some s) : s.save = l ∧ NInv s := by
  unfold loadN at h
  by_cases hb : (ldsN l).bad = true
  · rw [if_pos hb] at h; cases h
  rw [if_neg hb] at h
  by_cases hk : (ldsN l).k.Nodup
  case neg => rw [if_neg hk] at h; cases h
  rw [if_pos hk] at h
  obtain ⟨m, sm, h0⟩ : ∃ m sm, takeC ⟨l, 0, 0⟩ 4 = (m, sm) := ⟨_, _, rfl⟩
  obtain ⟨b, sb, h1⟩ : ∃ x y, takenC sm 32 = (x, y) := ⟨_, _, rfl⟩
  obtain ⟨w, sw, h2⟩ : ∃ x y, takenC sb 1 = (x, y) := ⟨_, _, rfl⟩
  obtain ⟨a, sa, h3⟩ : ∃ x y, takenC sw 32 = (x, y) := ⟨_, _, rfl⟩
  obtain ⟨k, sk, h4⟩ : ∃ x y, takenC sa 16 = (x, y) := ⟨_, _, rfl⟩
  have hx : ldsN l = ⟨m, b, w, a, k, sk⟩ := by
    unfold ldsN
    simp only [h0, h1, h2, h3, h4]
  rw [hx] at h hb hk
  injection h with h
  subst h
  simp only [Lds.bad, decide_eq_true_eq, not_or, not_and, Decidable.not_not] at hb
  obtain ⟨b1, b2, b3, b4⟩ := hb
  obtain ⟨ek, tk⟩ := endC_zero b1
  have hat0 : sm.at' ≤ sm.l.length := by have := takeC_at (s := ⟨l, 0, 0⟩) (n := 4) (by simp); rw [show ((4 : Nat) : Int) = 4 from rfl, h0] at this; exact this
  have atOk : ∀ {s s' : CS} {most : Nat} {x : List Pl}, takenC s most = (x, s') → s'.err = 0 → s.err = 0 := by
    intro s s' most x hx he
    by_cases h : s.err = 0
    · exact h
    · rw [takenC_bad h] at hx
      injection hx with _ hx
      subst hx
      exact he
  have ea := atOk h4 ek
  have ew := atOk h3 ea
  have eb := atOk h2 ew
  obtain ⟨em, l1, m1, r1, q1, t1⟩ := takenC_ok h1 eb hat0
  obtain ⟨_, l2, m2, r2, q2, t2⟩ := takenC_ok h2 ew t1
  obtain ⟨_, l3, m3, r3, q3, t3⟩ := takenC_ok h3 ea t2
  obtain ⟨_, l4, m4, r4, q4, t4⟩ := takenC_ok h4 ek t3
  have hrk : sk.rest = [] := List.drop_of_length_le tk
  have hmm : m = magicN ∧ l = magicN ++ sm.rest := by
    refine ⟨b2, ?_⟩
    unfold takeC at h0
    simp only [ne_eq, not_true_eq_false, if_false] at h0
    rw [if_neg (by omega)] at h0
    split at h0
    · injection h0 with _ h0; subst h0; cases em
    · injection h0 with h5 h6
      subst h6
      rw [← b2, ← h5]
      simp [CS.rest]
  have hs : l = magicN ++ putL b ++ putL w ++ putL a ++ putL k := by
    rw [hmm.2, r1, r2, r3, r4, hrk]
    simp
  have hw : w = [] ∨ ∃ p, w = [p] := by
    match w, l2 with
    | [], _ => exact .inl rfl
    | [p], _ => exact .inr ⟨p, rfl⟩
    | _ :: _ :: _, h => simp at h
  refine ⟨?_, ?_⟩
  · have hn : (⟨decide (w.length = 1), w.headD (0, 0), b, a, k⟩ : NS).now1 = w := by
      rcases hw with rfl | ⟨p, rfl⟩
      · rfl
      · rfl
    rw [NS.save, hn]
    exact hs.symm
  · refine ⟨fun hh => ?_, fun hh => ?_, m1, m3, m4, by simp only; omega, l4, hk⟩
    · rcases hw with rfl | ⟨p, rfl⟩
      · simp at hh
      · exact m2 p (by simp)
    · rcases hw with rfl | ⟨p, rfl⟩
      · have := b4 rfl
        have h1 : b.length = 0 := by omega
        have h2 : a.length = 0 := by omega
        exact ⟨rfl, List.eq_nil_of_length_eq_zero h1, List.eq_nil_of_length_eq_zero h2⟩
      · simp at hh
theorem save_inj {s u : NS} (hs : NInv s) (hu : NInv u) (h : s.save = u.save) : s = u := by
  have a := load_save hs
  rw [h, load_save hu] at a
  injection a with a
  exact a.symm
end Go.Proofs.Ytkgdcglnkodgnaa
