/-
  A region that draws its order and ends in stores: reads are taken first under a condition S that need not be shown behind the operations Z (the stores, which wait for the reads). No condition.
-/
import Derived.Test.YtkgdcglnkodgnaaRound
namespace Go.Proofs.Ytkgdcglnkodgnaa
open Go.RowKit
section
variable {P : Program} {ops : Array Oper} {Q : Exit → Act → World → Prop} {md : Region.Mode} {S : World → Prop} {Z : List Nat}
/-- One of Z has been listed. -/
def zDone (Z : List Nat) (listed : Array Bool) : Bool := Z.any fun z => listed.getD z false
theorem zDone_other {Z : List Nat} {listed : Array Bool} {k : Nat} (h : Z.contains k = false) : zDone Z (listed.setIfInBounds k true) = zDone Z listed := by
  unfold zDone
  have h' : ∀ z ∈ Z, (listed.setIfInBounds k true).getD z false = listed.getD z false := by
    intro z hz
    have hzk : z ≠ k := by
      intro e; subst e
      rw [List.contains_iff_mem.2 hz] at h; cases h
    simp [Array.getD_eq_getD_getElem?, Ne.symm hzk]
  induction Z with
  | nil => rfl
  | cons z r ih =>
    simp only [List.any_cons]
    rw [h' z (by simp), ih (by simp at h ⊢; exact h.2) (fun x hx => h' x (by simp [hx]))]
theorem zDone_mono {Z : List Nat} {listed : Array Bool} {k : Nat} (h : zDone Z (listed.setIfInBounds k true) = false) : zDone Z listed = false := by
  unfold zDone at *
  rw [List.any_eq_false] at *
  intro z hz
  have := h z hz
  simp only [Array.getD_eq_getD_getElem?, Array.getElem?_setIfInBounds] at this ⊢
  split at this
  · split at this
    · simp at this
    · rename_i h1 h2
      subst h1
      simp [Array.getElem?_eq_none (Nat.le_of_not_lt h2)]
  · exact this
/-- Whatever order is picked from here on, and S holds behind every operation that is carried out as long as none of Z has been. -/
def wpAnyZ (P : Program) (md : Region.Mode) (ops : Array Oper) (Q : Exit → Act → World → Prop) (S : World → Prop) (Z : List Nat) : Nat → Array Bool → Act → World → Prop
  | 0, listed, a, w => Region.ready md ops listed = [] ∧ Q .normal a w
  | fuel + 1, listed, a, w =>
    (Region.ready md ops listed = [] → Q .normal a w) ∧
    ∀ i ∈ Region.ready md ops listed, wpOp P ops Q i (fun a' w' => (zDone Z (listed.setIfInBounds i true) = false → S w') ∧ wpAnyZ P md ops Q S Z fuel (listed.setIfInBounds i true) a' w') a w
theorem wpAny_of_zone : ∀ (fuel : Nat) (listed : Array Bool) (a : Act) (w : World), wpAnyZ P md ops Q S Z fuel listed a w → wpAny P md ops Q fuel listed a w
  | 0, _, _, _, h => h
  | fuel + 1, _, _, _, h => ⟨h.1, fun i hi => wpOp_mono (fun a' w' h' => wpAny_of_zone fuel _ a' w' h'.2) (h.2 i hi)⟩
/-- Every operation of Z waits for i. -/
def zoneFree (md : Region.Mode) (ops : Array Oper) (Z : List Nat) (i : Nat) : Bool :=
  Z.all fun z => z == i || match ops[z]? with
    | some oz => oz.after.any (fun e => Region.binds md e && e.on == i)
    | none => true
theorem zoneFree_spec {i : Nat} (h : zoneFree md ops Z i = true) {j : Nat} {oj : Oper} (hj : ops[j]? = some oj) (hji : j ≠ i) (hno : ∀ e ∈ oj.after, Region.binds md e = true → e.on ≠ i) : Z.contains j = false := by
  cases hz : Z.contains j
  · rfl
  · exfalso
    have hm : j ∈ Z := by simpa using hz
    have := List.all_eq_true.1 h j hm
    simp only [hj, Bool.or_eq_true, beq_iff_eq, hji, false_or, Array.any_eq_true] at this
    obtain ⟨k, hk, hb⟩ := this
    simp only [Bool.and_eq_true, beq_iff_eq] at hb
    exact hno _ (Array.getElem_mem hk) hb.1 hb.2
theorem wpAnyZ_first {S2 : World → Prop} {i : Nat} {oi : Oper} {v : Value} (hi : ops[i]? = some oi) (hiZ : Z.contains i = false) (hsel : ∀ (j : Nat) (o : Oper) cs b, ops[j]? = some o → o.op ≠ .select cs b)
    (hQ : ∀ c a w, Q (.panic c) (a.put oi.dst v) w → Q (.panic c) a w) :
    ∀ (fuel : Nat) (listed : Array Bool) (a : Act) (w : World), ((∀ w, S2 w) ∨ (S2 = S ∧ zoneFree md ops Z i = true ∧ zDone Z listed = false)) →
      (∀ j oj, ops[j]? = some oj → j ≠ i → listed.getD j true = false → (∀ e ∈ oj.after, Region.binds md e = true → e.on ≠ i) → oi.apart ops oj = true) →
      i ∈ Region.ready md ops listed → YieldsIf P ops S2 oi v a → (zDone Z listed = false → S w) →
      wpAnyZ P md ops Q S Z fuel (listed.setIfInBounds i true) (a.put oi.dst v) w → wpAnyZ P md ops Q S Z (fuel + 1) listed a w := by
  intro fuel
  induction fuel with
  | zero =>
    intro listed a w hSS _ hr hy hS H
    have hS2 : S2 w := hSS.elim (fun h => h w) (fun ⟨e, _, hz⟩ => by rw [e]; exact hS hz)
    refine ⟨fun h => (by rw [h] at hr; cases hr), fun j hj => ?_⟩
    by_cases hji : j = i
    · subst hji; exact hy.wpOp hi hS2 ⟨fun hz => hS (zDone_mono hz), H⟩
    · have := ready_mono hj hji
      rw [H.1] at this
      cases this
  | succ fuel ih =>
    intro listed a w hSS hfree hr hy hS H
    have hS2 : S2 w := hSS.elim (fun h => h w) (fun ⟨e, _, hz⟩ => by rw [e]; exact hS hz)
    refine ⟨fun h => (by rw [h] at hr; cases hr), fun j hj => ?_⟩
    by_cases hji : j = i
    · subst hji; exact hy.wpOp hi hS2 ⟨fun hz => hS (zDone_mono hz), H⟩
    · have h1 := H.2 j (ready_mono hj hji)
      obtain ⟨hjun, oj, hoj, hall⟩ := mem_ready.1 hj
      have hnot : ∀ e ∈ oj.after, Region.binds md e = true → e.on ≠ i := fun e he hb heq => by
        have h1 := hall e he hb
        have h0 := (mem_ready.1 hr).1
        rw [heq] at h1
        rcases Nat.lt_or_ge i listed.size with h' | h'
        · simp [h'] at h0 h1; rw [h0] at h1; cases h1
        · simp [Array.getElem?_eq_none h'] at h1
      have h2 := wpOp_putIf hoj (hfree j oj hoj hji hjun hnot) (fun cs b => hsel i oi cs b hi) (fun cs b => hsel j oj cs b hoj) hQ hy h1
      have hfree' : ∀ k ok, ops[k]? = some ok → k ≠ i → (listed.setIfInBounds j true).getD k true = false →
          (∀ e ∈ ok.after, Region.binds md e = true → e.on ≠ i) → oi.apart ops ok = true := fun k ok hk hki hun hno => by
        refine hfree k ok hk hki ?_ hno
        by_cases hjk : j = k
        · subst hjk; exact hjun
        · rw [getD_set_ne true hjk] at hun; exact hun
      have hzz : zDone Z ((listed.setIfInBounds i true).setIfInBounds j true) = zDone Z (listed.setIfInBounds j true) := by
        rw [Array.setIfInBounds_comm _ _ (Ne.symm hji)]
        exact zDone_other hiZ
      refine wpOp_mono (fun a' w' h3 => ⟨fun hz => h3.2.1 (hzz.trans hz), ih (listed.setIfInBounds j true) a' w' ?_ hfree' (ready_mono hr (Ne.symm hji)) h3.1 (fun hz => h3.2.1 (hzz.trans hz)) ?_⟩) h2
      · refine hSS.imp id (fun ⟨e, hz2, hz⟩ => ⟨e, hz2, ?_⟩)
        rw [zDone_other (zoneFree_spec hz2 hoj hji hnot)]
        exact hz
      · rw [Array.setIfInBounds_comm _ _ hji]
        exact h3.2.2
/-- Take number i first: a read under S. -/
theorem wpAnyZ_take {i : Nat} {oi : Oper} {v : Value} {fuel : Nat} {listed : Array Bool} {a : Act} {w : World} (hi : ops[i]? = some oi)
    (hb : (Region.noSelect ops && Region.free md ops listed i && (Region.ready md ops listed).contains i && !Z.contains i && zoneFree md ops Z i && !zDone Z listed) = true)
    (hQ : ∀ c a w, Q (.panic c) (a.put oi.dst v) w → Q (.panic c) a w) (hy : YieldsIf P ops S oi v a) (hS : S w)
    (h : wpAnyZ P md ops Q S Z fuel (listed.setIfInBounds i true) (a.put oi.dst v) w) : wpAnyZ P md ops Q S Z (fuel + 1) listed a w := by
  simp only [Bool.and_eq_true, Bool.not_eq_true'] at hb
  obtain ⟨⟨⟨⟨⟨h1, h2⟩, h3⟩, h4⟩, h5⟩, h6⟩ := hb
  exact wpAnyZ_first hi h4 (Region.noSelect_spec h1) hQ fuel listed a w (.inr ⟨rfl, h5, h6⟩) (Region.free_spec hi h2) (by simpa using h3) hy (fun _ => hS) h
/-- Take number i first: it yields whatever the world. -/
theorem wpAnyZ_take0 {i : Nat} {oi : Oper} {v : Value} {fuel : Nat} {listed : Array Bool} {a : Act} {w : World} (hi : ops[i]? = some oi)
    (hb : (Region.noSelect ops && Region.free md ops listed i && (Region.ready md ops listed).contains i && !Z.contains i) = true)
    (hQ : ∀ c a w, Q (.panic c) (a.put oi.dst v) w → Q (.panic c) a w) (hy : YieldsIf P ops (fun _ => True) oi v a) (hS : zDone Z listed = false → S w)
    (h : wpAnyZ P md ops Q S Z fuel (listed.setIfInBounds i true) (a.put oi.dst v) w) : wpAnyZ P md ops Q S Z (fuel + 1) listed a w := by
  simp only [Bool.and_eq_true, Bool.not_eq_true'] at hb
  obtain ⟨⟨⟨h1, h2⟩, h3⟩, h4⟩ := hb
  exact wpAnyZ_first hi h4 (Region.noSelect_spec h1) hQ fuel listed a w (.inl fun _ => trivial) (Region.free_spec hi h2) (by simpa using h3) hy hS h
/-- The one operation that may come up: behind it S is shown anew, or one of Z has been carried out. -/
theorem wpAnyZ_one {i : Nat} {o : Oper} {fuel : Nat} {listed : Array Bool} {a : Act} {w : World} (hi : ops[i]? = some o) (hr : Region.ready md ops listed = [i])
    (h : ∀ K' : Act → World → Prop, Shut (∀ a w, (zDone Z (listed.setIfInBounds i true) = false → S w) → wpAnyZ P md ops Q S Z fuel (listed.setIfInBounds i true) a w → K' a w) → if Region.wanted o (yielded ops a.tmps) = true then Oper.wp P o a w K' Q else K' (a.put o.dst undef) w) :
    wpAnyZ P md ops Q S Z (fuel + 1) listed a w := by
  refine ⟨fun h0 => (by rw [hr] at h0; cases h0), ?_⟩
  rw [hr]
  intro j hj
  simp only [List.mem_singleton] at hj
  subst hj
  exact wpOp_step hi (fun K' hK => h K' (fun a w hS hW => hK a w ⟨hS, hW⟩))
theorem wpAnyZ_done {fuel : Nat} {listed : Array Bool} {a : Act} {w : World} (hr : Region.ready md ops listed = []) (h : Q .normal a w) : wpAnyZ P md ops (onlyN Q) S Z fuel listed a w := by
  cases fuel with
  | zero => exact ⟨hr, h⟩
  | succ n => exact ⟨fun _ => h, by rw [hr]; simp⟩
/-- The region. -/
theorem region_zone {id : Nat} {a : Act} {w : World} (k : Nat) (ls : List Bool) (hk : ops.size = k) (hl : ls = List.replicate k false) (hm : P.follows .mixedOrders = true) (S : World → Prop) (Z : List Nat) (hS : S w.drew)
    (h : S w.drew → wpAnyZ P .any ops (onlyN Q) S Z k ls.toArray a w.drew) : (Code.region id ops true).wp P Q a w :=
  Code.wp_mono (fun _ _ _ h => onlyN_to h) (wp_region_any hm (wpAny_of_zone _ _ _ _ (by
    have e : ls.toArray = Array.replicate ops.size false := by rw [hl, hk]; simp
    rw [← e, hk]
    exact h hS)))
end
end Go.Proofs.Ytkgdcglnkodgnaa
