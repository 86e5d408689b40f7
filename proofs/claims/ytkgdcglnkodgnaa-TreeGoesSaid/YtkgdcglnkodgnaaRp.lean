/-
  The document's walk over a tree answers as the program's: plain laws. No condition.
-/
import Derived.Test.YtkgdcglnkodgnaaNp
namespace Go.Proofs.Ytkgdcglnkodgnaa
open Go.RowKit
theorem addR_take (q : RQ) (hw : q.whole = false) : ∀ (ps out : List Kp), (out.length : Int) ≤ q.most → addR q out ps = (out ++ ps.filter (fun p => leK q.key p.1)).take q.most.toNat
  | [], out, h => by
    rw [addR, List.filter_nil, List.append_nil, List.take_of_length_le (by omega)]
  | p :: r, out, h => by
    rw [addR]
    by_cases hl : (out.length : Int) < q.most
    · rw [if_pos hl]
      by_cases hk : leK q.key p.1 = true
      · rw [if_pos ⟨hw, hk⟩, addR_take q hw r (out ++ [p]) (by simp; omega)]
        simp [hk]
      · rw [if_neg (fun h => hk h.2), addR_take q hw r out h]
        simp [hk]
    · rw [if_neg hl, List.take_append_of_le_length (by omega), List.take_of_length_le (by omega)]
theorem addR_whole (q : RQ) (hw : q.whole = true) : ∀ (ps out : List Kp), addR q out ps = out
  | [], out => rfl
  | p :: r, out => by
    rw [addR]
    split
    · rw [if_neg (fun h => by rw [hw] at h; cases h.1), addR_whole q hw r out]
    · rfl
theorem fromL_append (key : ByteArray) (L M : List (List Kp)) : fromL key (L ++ M) = fromL key L ++ fromL key M := by
  simp [fromL]
/-- How the document's walk answers to the program's. -/
structure SimR (q : RQ) (s' : RS) (out : List Kp) (r : WR) : Prop where
  full : q.most ≤ ((out ++ fromL q.key r.1).length : Int) → s'.bad = 0 ∧ s'.out = (out ++ fromL q.key r.1).take q.most.toNat
  part : ((out ++ fromL q.key r.1).length : Int) < q.most → s'.out = out ++ fromL q.key r.1 ∧ s'.bad = r.2.2 ∧ (r.2.2 = 0 → (s'.read, s'.last) = r.2.1)
theorem simR_none {q : RQ} {s' : RS} {out : List Kp} {w : Wk} {e : Nat} (h : (out.length : Int) < q.most) (ho : s'.out = out) (he : s'.bad = e) (hw : e = 0 → (s'.read, s'.last) = w) : SimR q s' out ([], w, e) :=
  ⟨fun h1 => by simp [fromL] at h1; omega, fun _ => ⟨by simp [fromL, ho], he, hw⟩⟩
theorem leafR_sim {q : RQ} (hq : q.whole = false) {s : RS} {ps : List Kp} (hne : ps ≠ []) (hb : s.bad = 0) (ho : (s.out.length : Int) < q.most) :
    SimR q (leafR q ps s) s.out (if 0 < s.read ∧ headLe ps s.last = true then ([], (s.read, s.last), 202) else ([ps], (s.read + 1, lastD ps s.last), 0)) := by
  unfold leafR
  rw [if_neg hne]
  by_cases h : 0 < s.read ∧ headLe ps s.last = true
  · rw [if_pos h, if_pos h]
    exact simR_none ho rfl rfl (fun h => by cases h)
  · rw [if_neg h, if_neg h]
    have e : fromL q.key [ps] = ps.filter (fun p => leK q.key p.1) := by simp [fromL]
    have ha := addR_take q hq ps s.out (by omega)
    refine ⟨fun _ => ⟨hb, by simp only [e]; exact ha⟩, fun hlt => ⟨?_, hb, fun _ => by simp [lastD, hne]⟩⟩
    simp only [e] at hlt ⊢
    rw [ha, List.take_of_length_le (by omega)]
theorem overR_stop {q : RQ} {g : Int → Bool → ByteArray → RS → RS} {e : Bool} {l : List Kp} {s : RS} (h : ¬ (s.bad = 0 ∧ (s.out.length : Int) < q.most)) : overR q g e l s = s := by
  cases l with
  | nil => rfl
  | cons p r => rw [overR, if_neg h]
theorem overR_sim {q : RQ} {g : Int → Bool → ByteArray → RS → RS} {G : Int → Bool → Wk → WR}
    (hg : ∀ number e first (s : RS), s.bad = 0 → (s.out.length : Int) < q.most → SimR q (g number e first s) s.out (G number e (s.read, s.last))) :
    ∀ (l : List Kp) (e : Bool) (s : RS), s.bad = 0 → (s.out.length : Int) < q.most → SimR q (overR q g e l s) s.out (overL G e l (s.read, s.last))
  | [], e, s, hb, ho => by rw [overR, overL]; exact simR_none ho rfl hb (fun _ => rfl)
  | p :: r, e, s, hb, ho => by
    rw [overR, if_pos ⟨hb, ho⟩, overL]
    have h1 := hg p.2 e p.1 s hb ho
    obtain ⟨s1, hs1⟩ : ∃ s1, g p.2 e p.1 s = s1 := ⟨_, rfl⟩
    obtain ⟨Ls, w, er, hr1⟩ : ∃ Ls w er, G p.2 e (s.read, s.last) = (Ls, w, er) := ⟨_, _, _, rfl⟩
    rw [hs1, hr1] at h1 ⊢
    simp only
    by_cases hf : q.most ≤ ((s.out ++ fromL q.key Ls).length : Int)
    · obtain ⟨b1, o1⟩ := h1.full hf
      have o1 : s1.out = (s.out ++ fromL q.key Ls).take q.most.toNat := o1
      have hl : (s1.out.length : Int) = q.most := by rw [o1, List.length_take]; omega
      rw [overR_stop (fun h => by omega)]
      by_cases he : er ≠ 0
      · rw [if_pos he]; exact h1
      · rw [if_neg he]
        have hx : ∀ M, fromL q.key (Ls ++ M) = fromL q.key Ls ++ fromL q.key M := fromL_append _ _
        refine ⟨fun _ => ⟨b1, ?_⟩, fun h => ?_⟩
        · simp only [hx]
          rw [o1, ← List.append_assoc, List.take_append_of_le_length (l₁ := s.out ++ fromL q.key Ls) (by omega)]
        · simp only [hx, List.length_append] at h hf
          omega
    · obtain ⟨o1, b1, w1⟩ := h1.part (by simp only; omega)
      simp only at o1 b1 w1
      by_cases he : er ≠ 0
      · rw [if_pos he, overR_stop (fun h => by omega)]; exact h1
      · rw [if_neg he]
        have he : er = 0 := by omega
        have hst := overR_sim hg r false s1 (by omega) (by rw [o1]; omega)
        have hw := w1 he
        rw [hw] at hst
        rw [o1] at hst
        have hx : ∀ M, fromL q.key (Ls ++ M) = fromL q.key Ls ++ fromL q.key M := fromL_append _ _
        refine ⟨fun h => ?_, fun h => ?_⟩
        · simp only [hx, ← List.append_assoc] at h ⊢
          exact hst.full h
        · simp only [hx, ← List.append_assoc] at h ⊢
          exact hst.part h
theorem nodeR_sim {b : List UInt8} {kind : UInt8} {q : RQ} (hq : q.whole = false) : ∀ (f : Nat) (number level : Int) (e : Bool) (first : ByteArray) (s : RS), level ≠ -1 → s.bad = 0 → (s.out.length : Int) < q.most →
    SimR q (nodeR b kind q f number level e first s) s.out (leavesK b kind q.key f number level e (s.read, s.last))
  | 0, _, _, _, _, s, _, hb, ho => by rw [nodeR, leavesK]; exact simR_none ho rfl hb (fun _ => rfl)
  | f + 1, number, level, e, first, s, hlv, hb, ho => by
    obtain ⟨er, m, ps, hr⟩ : ∃ er m ps, readK b kind number level = (er, m, ps) := ⟨_, _, _, rfl⟩
    rw [leavesK, hr]
    simp only
    by_cases he : er ≠ 0
    · rw [if_pos he, nodeR_err hr he]
      exact simR_none ho rfl rfl (fun h => absurd h he)
    have he : er = 0 := by omega
    subst he
    rw [if_neg (by simp)]
    have hok := readK_ok hr
    by_cases hm : m = 0
    · subst hm
      rw [if_pos rfl, nodeR_leaf hr (fun h => by rw [hq] at h; cases h.1)]
      exact leafR_sim hq (fun hn => hlv (hok.2.2.2.2.2.1 hn).1) hb ho
    · rw [if_neg hm, nodeR_over hr (fun h => by rw [hq] at h; cases h.1) hm]
      exact overR_sim (fun n' e' f' s' hb' ho' => nodeR_sim hq f n' (m - 1) e' f' s' (by have := hok.1; omega) hb' ho') _ e s hb ho
def startR : RS := ⟨[], 0, ⟨#[]⟩, 0, 0⟩
theorem nodeR_root {b : List UInt8} {kind : UInt8} {q : RQ} (hq : q.whole = false) (hm : 0 < q.most) (root : Int) (first : ByteArray) :
    (q.most ≤ ((fromL q.key (walkP b kind root q.key).1).length : Int) → (nodeR b kind q 14 root (-1) true first startR).bad = 0 ∧ (nodeR b kind q 14 root (-1) true first startR).out = (fromL q.key (walkP b kind root q.key).1).take q.most.toNat) ∧
    (((fromL q.key (walkP b kind root q.key).1).length : Int) < q.most → (nodeR b kind q 14 root (-1) true first startR).out = fromL q.key (walkP b kind root q.key).1 ∧ (nodeR b kind q 14 root (-1) true first startR).bad = (walkP b kind root q.key).2.2) := by
  obtain ⟨er, m, ps, hr⟩ : ∃ er m ps, readK b kind root (-1) = (er, m, ps) := ⟨_, _, _, rfl⟩
  have conv : ∀ {s' : RS} {r : WR}, SimR q s' [] r → (q.most ≤ ((fromL q.key r.1).length : Int) → s'.bad = 0 ∧ s'.out = (fromL q.key r.1).take q.most.toNat) ∧ (((fromL q.key r.1).length : Int) < q.most → s'.out = fromL q.key r.1 ∧ s'.bad = r.2.2) := fun h =>
    ⟨fun h1 => by have := h.full; rw [List.nil_append] at this; exact this h1, fun h1 => by have := h.part; rw [List.nil_append] at this; exact ⟨(this h1).1, (this h1).2.1⟩⟩
  unfold walkP
  rw [leavesK, hr]
  simp only
  by_cases he : er ≠ 0
  · rw [if_pos he, nodeR_err hr he]
    exact conv (simR_none (by simp; omega) rfl rfl (fun h => absurd h he))
  have he : er = 0 := by omega
  subst he
  rw [if_neg (by simp)]
  have hok := readK_ok hr
  by_cases hmz : m = 0
  · subst hmz
    rw [if_pos rfl, nodeR_leaf hr (fun h => by rw [hq] at h; cases h.1)]
    by_cases hps : ps = []
    · subst hps
      rw [if_neg (by simp)]
      simp only [leafR, if_true, fromL, List.flatten_cons, List.flatten_nil, List.append_nil, List.filter_nil, List.take_nil, startR, List.length_nil, and_self, implies_true]
    · exact conv (leafR_sim (s := startR) hq hps rfl (by simp [startR]; omega))
  · rw [if_neg hmz, nodeR_over hr (fun h => by rw [hq] at h; cases h.1) hmz]
    exact conv (overR_sim (fun n' e' f' s' hb' ho' => nodeR_sim hq 13 n' (m - 1) e' f' s' (by have := hok.1; omega) hb' ho') _ true startR rfl (by simp [startR]; omega))
/-- What the document's From answers. -/
theorem from_plain {b : List UInt8} {kind : UInt8} {root : Int} {key : ByteArray} {most : Int} (hm : 0 < most) :
    fromP b kind root key most = if (nodeR b kind ⟨most, key, false⟩ 14 root (-1) true ⟨#[]⟩ startR).bad ≠ 0 then ([], (nodeR b kind ⟨most, key, false⟩ 14 root (-1) true ⟨#[]⟩ startR).bad) else ((nodeR b kind ⟨most, key, false⟩ 14 root (-1) true ⟨#[]⟩ startR).out, 0) := by
  obtain ⟨h1, h2⟩ := nodeR_root (b := b) (kind := kind) (q := ⟨most, key, false⟩) rfl hm root ⟨#[]⟩
  simp only at h1 h2
  unfold fromP
  rw [if_neg (by omega)]
  by_cases hf : most ≤ ((fromL key (walkP b kind root key).1).length : Int)
  · rw [if_pos hf, if_neg (by rw [(h1 hf).1]; simp), (h1 hf).2]
  · obtain ⟨o, e⟩ := h2 (by omega)
    rw [if_neg hf, o, e]
theorem lt_empty0 (a : ByteArray) : ltK a ⟨#[]⟩ = false := by
  show Op.bytesLess a.toList (ByteArray.toList ⟨#[]⟩) = false
  rw [ByteArray.toList_eq ⟨#[]⟩]
  cases a.toList <;> simp [Op.bytesLess]
theorem fromL_all (L : List (List Kp)) : fromL ⟨#[]⟩ L = L.flatten := by
  unfold fromL
  rw [List.filter_eq_self.2]
  intro p _
  rw [leK_not, lt_empty0]; rfl
/-- What the document's Each answers. -/
theorem each_plain {b : List UInt8} {kind : UInt8} {root : Int} : (nodeR b kind ⟨1099511627776, ⟨#[]⟩, false⟩ 14 root (-1) true ⟨#[]⟩ startR).out = (walkP b kind root ⟨#[]⟩).1.flatten ∧ (walkP b kind root ⟨#[]⟩).1.flatten.length ≤ 4194304 := by
  obtain ⟨h1, h2⟩ := nodeR_root (b := b) (kind := kind) (q := ⟨1099511627776, ⟨#[]⟩, false⟩) rfl (by simp) root ⟨#[]⟩
  simp only [fromL_all] at h1 h2
  have hg := nodeR_good (b := b) (kind := kind) (q := ⟨1099511627776, ⟨#[]⟩, false⟩) 14 root (-1) true ⟨#[]⟩ startR (goodR_start b kind)
  have hb := hg.mn.bound
  have ho := hg.o
  simp only at hb
  by_cases hf : (1099511627776 : Int) ≤ ((walkP b kind root ⟨#[]⟩).1.flatten.length : Int)
  · have h3 := (h1 hf).2
    rw [h3, List.length_take] at ho
    omega
  · have h3 := (h2 (by omega)).1
    exact ⟨h3, by rw [← h3]; omega⟩
/-- How the document's Check answers to the program's. -/
structure SimC (s' : RS) (r : Wk × Nat) : Prop where
  bad : s'.bad = r.2
  out : s'.out = []
  st : r.2 = 0 → (s'.many, s'.last) = r.1 ∧ (s'.read = 0 ↔ s'.many = 0)
theorem overR_simC {q : RQ} (hm : q.most = 1) {g : Int → Bool → ByteArray → RS → RS} {G : Int → ByteArray → Wk → Wk × Nat}
    (hg : ∀ number first (s : RS), s.bad = 0 → s.out = [] → (s.read = 0 ↔ s.many = 0) → SimC (g number false first s) (G number first (s.many, s.last))) :
    ∀ (l : List Kp) (s : RS), s.bad = 0 → s.out = [] → (s.read = 0 ↔ s.many = 0) → SimC (overR q g false l s) (overC G l (s.many, s.last))
  | [], s, hb, ho, hz => by rw [overR, overC]; exact ⟨hb, ho, fun _ => ⟨rfl, hz⟩⟩
  | p :: r, s, hb, ho, hz => by
    rw [overR, if_pos ⟨hb, by rw [ho, hm]; simp⟩, overC]
    have h1 := hg p.2 p.1 s hb ho hz
    obtain ⟨s1, hs1⟩ : ∃ s1, g p.2 false p.1 s = s1 := ⟨_, rfl⟩
    obtain ⟨w, er, hr1⟩ : ∃ w er, G p.2 p.1 (s.many, s.last) = (w, er) := ⟨_, _, rfl⟩
    rw [hs1, hr1] at h1 ⊢
    simp only
    by_cases he : er ≠ 0
    · rw [if_pos he, overR_stop (fun h => by have := h1.bad; simp only at this; omega)]; exact h1
    · rw [if_neg he]
      have he : er = 0 := by omega
      obtain ⟨hw, hz1⟩ := h1.st he
      have hst := overR_simC hm hg r s1 (by rw [h1.bad]; exact he) h1.out hz1
      rw [hw] at hst
      exact hst
theorem nodeR_simC {b : List UInt8} {kind : UInt8} {q : RQ} (hq : q.whole = true) (hm : q.most = 1) : ∀ (f : Nat) (number level : Int) (first : ByteArray) (s : RS), s.bad = 0 → s.out = [] → (s.read = 0 ↔ s.many = 0) →
    SimC (nodeR b kind q f number level false first s) (checkK b kind f number level first (s.many, s.last))
  | 0, _, _, _, s, hb, ho, hz => by rw [nodeR, checkK]; exact ⟨hb, ho, fun _ => ⟨rfl, hz⟩⟩
  | f + 1, number, level, first, s, hb, ho, hz => by
    obtain ⟨er, m, ps, hr⟩ : ∃ er m ps, readK b kind number level = (er, m, ps) := ⟨_, _, _, rfl⟩
    rw [checkK, hr]
    simp only
    by_cases he : er ≠ 0
    · rw [if_pos he, nodeR_err hr he]
      exact ⟨rfl, ho, fun h => absurd h he⟩
    have he : er = 0 := by omega
    subst he
    rw [if_neg (by simp)]
    by_cases hfi : level ≠ -1 ∧ headK ps ≠ first
    · rw [if_pos hfi, nodeR_first hr ⟨hq, hfi⟩]
      exact ⟨rfl, ho, fun h => by cases h⟩
    rw [if_neg hfi]
    by_cases hmz : m = 0
    · subst hmz
      rw [if_pos rfl, nodeR_leaf hr (fun h => hfi h.2)]
      unfold leafR
      by_cases hps : ps = []
      · subst hps
        rw [if_pos rfl, if_neg (by simp [headLe])]
        exact ⟨hb, ho, fun _ => ⟨by simp [lastD], hz⟩⟩
      · rw [if_neg hps]
        by_cases h : 0 < s.many ∧ headLe ps s.last = true
        · rw [if_pos h, if_pos ⟨by have h0 := h.1; rcases Nat.eq_zero_or_pos s.read with h1 | h1; (· have := hz.1 h1; omega); (· exact h1), h.2⟩]
          exact ⟨rfl, ho, fun h => by cases h⟩
        · rw [if_neg h, if_neg (fun h1 => h ⟨by have h0 := h1.1; rcases Nat.eq_zero_or_pos s.many with h2 | h2; (· have := hz.2 h2; omega); (· exact h2), h1.2⟩)]
          have hpl : 0 < ps.length := List.length_pos_iff.2 hps
          exact ⟨hb, by simp only; rw [addR_whole q hq, ho], fun _ => ⟨by simp [lastD, hps], by simp only; omega⟩⟩
    · rw [if_neg hmz, nodeR_over hr (fun h => hfi h.2) hmz]
      simp only [Bool.false_eq_true, if_false, List.drop_zero]
      exact overR_simC hm (fun n' f' s' hb' ho' hz' => nodeR_simC hq hm f n' (m - 1) f' s' hb' ho' hz') ps s hb ho hz
/-- What the document's Check answers. -/
theorem check_plain {b : List UInt8} {kind : UInt8} {root : Int} :
    checkP b kind root = if (nodeR b kind ⟨1, ⟨#[]⟩, true⟩ 14 root (-1) false ⟨#[]⟩ startR).bad ≠ 0 then (0, (nodeR b kind ⟨1, ⟨#[]⟩, true⟩ 14 root (-1) false ⟨#[]⟩ startR).bad) else (((nodeR b kind ⟨1, ⟨#[]⟩, true⟩ 14 root (-1) false ⟨#[]⟩ startR).many : Int), 0) := by
  have h := nodeR_simC (b := b) (kind := kind) (q := ⟨1, ⟨#[]⟩, true⟩) rfl rfl 14 root (-1) ⟨#[]⟩ startR rfl rfl Iff.rfl
  unfold checkP
  have e : ((startR.many, startR.last) : Wk) = (0, ⟨#[]⟩) := rfl
  rw [e] at h
  rw [h.bad]
  by_cases he : (checkK b kind 14 root (-1) ⟨#[]⟩ (0, ⟨#[]⟩)).2 ≠ 0
  · rw [if_pos he, if_pos he]
  · rw [if_neg he, if_neg he]
    have := (h.st (by omega)).1
    rw [← this]
/-- What From answers. -/
def RetFm (w : World) (r : List Kp × Nat) (e : Ending) (w' : World) : Prop :=
  ∃ O on oc, e = .returned (.tuple #[.slice O on oc, .int .i64 (r.2 : Int)]) ∧ OwnK w' w.heap.size O on oc r.1 ∧ Below w.heap.size w w'
end Go.Proofs.Ytkgdcglnkodgnaa
