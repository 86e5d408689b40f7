/-
  A tree that was built holds its pairs, in a book with pages of zeros about it: plain laws. No condition but sizes.
-/
import Derived.Test.YtkgdcglnkodgnaaTreeC
import Derived.Test.YtkgdcglnkodgnaaTreeB
namespace Go.Proofs.Ytkgdcglnkodgnaa
open Go.RowKit
theorem mkNode_length (kind : UInt8) (x : Nat) (n : UInt8) (c : List Kp) (h : 1 + (pairsB c).length ≤ 246) : (mkPage kind x (n :: pairsB c)).length = 256 :=
  mkPage_length _ _ _ (by simp only [List.length_cons]; omega)
/-- A page of a book that was laid reads as its node. -/
theorem node_read {b : List UInt8} {kind : UInt8} {x L : Nat} {c : List Kp} (hm : b.length % 256 = 0) (hl : b.length ≤ 4194304) (hx : 256 * x + 256 ≤ b.length) (hp : (b.drop (256 * x)).take 256 = mkPage kind x (UInt8.ofNat L :: pairsB c))
    (hr : 1 + (pairsB c).length ≤ 246) (hL : L ≤ 12) (hs : SortK c) (ho : ∀ p ∈ c, OkP p) {level : Int} (hlev : level = -1 ∨ level = L) (hne : c ≠ [] ∨ (level = -1 ∧ L = 0)) : readK b kind (x : Int) level = (0, (L : Int), c) := by
  have hc : count b.length = (b.length / 256, 0) := by
    unfold count
    rw [if_neg (by omega), if_pos hm]
  have hrd := read_make kind x (UInt8.ofNat L :: pairsB c) (by omega) (by simp only [List.length_cons]; omega) (x : Int)
  rw [if_pos rfl] at hrd
  have ha : atP b (x : Int) kind = (UInt8.ofNat L :: pairsB c, 0) := by
    unfold atP
    rw [hc, if_neg (by simp), if_neg (by simp only; omega), Int.toNat_natCast, hp, hrd, if_neg (by simp), if_neg (by simp)]
  unfold readK
  rw [ha, if_neg (by simp)]
  exact readN_put L c level hL hs ho hlev hne
theorem take_page {pre page post : List UInt8} {x : Nat} (h1 : pre.length = 256 * x) (h2 : page.length = 256) : ((pre ++ page ++ post).drop (256 * x)).take 256 = page := by
  rw [List.append_assoc, ← h1, List.drop_left, ← h2, List.take_left]
/-- What the pairs of a level cover. -/
def Cov (b : List UInt8) (kind : UInt8) (L : Nat) (l xs : List Kp) : Prop := (L = 0 ∧ l = xs) ∨ ∃ L0, L = L0 + 1 ∧ Ch (Tr b kind L0) l xs
theorem cov_append {b : List UInt8} {kind : UInt8} {L : Nat} {l k xs : List Kp} (h : Cov b kind L (l ++ k) xs) : ∃ ys zs, xs = ys ++ zs ∧ Cov b kind L l ys ∧ Cov b kind L k zs := by
  rcases h with ⟨h0, h⟩ | ⟨L0, h0, h⟩
  · exact ⟨l, k, h.symm, .inl ⟨h0, rfl⟩, .inl ⟨h0, rfl⟩⟩
  · obtain ⟨ys, zs, e, h1, h2⟩ := ch_append.1 h
    exact ⟨ys, zs, e, .inr ⟨L0, h0, h1⟩, .inr ⟨L0, h0, h2⟩⟩
theorem cov_node {b : List UInt8} {kind : UInt8} {L : Nat} {number : Int} {c xs : List Kp} (hn : NodeK b kind number L c) (h : Cov b kind L c xs) : Tr b kind L number xs ∧ xs ≠ [] ∧ headK xs = headK c := by
  rcases h with ⟨rfl, rfl⟩ | ⟨L0, rfl, h⟩
  · exact ⟨hn, hn.1, rfl⟩
  · obtain ⟨h1, h2⟩ := ch_head h hn.1
    exact ⟨⟨c, hn, h⟩, h1, h2⟩
/-- A page below a node, or the node's. -/
def Vis (b : List UInt8) (kind : UInt8) : Nat → Int → Nat → Prop
  | 0, number, q => (q : Int) = number
  | L + 1, number, q => (q : Int) = number ∨ ∃ l p, NodeK b kind number (L + 1) l ∧ p ∈ l ∧ Vis b kind L p.2 q
theorem vis_self (b : List UInt8) (kind : UInt8) (L : Nat) (q : Nat) : Vis b kind L (q : Int) q := by
  cases L with
  | zero => rfl
  | succ L => exact .inl rfl
theorem lay_ch {b : List UInt8} {kind : UInt8} {L : Nat} (hm : b.length % 256 = 0) (hl : b.length ≤ 4194304) (hL : L ≤ 12) :
    ∀ (cs : List (List Kp)) (next : Nat) (xs : List Kp) (X1 : List UInt8) (X2 : List Kp) (pre post : List UInt8), layK kind (UInt8.ofNat L) (next : Int) cs = (X1, X2, 0) → b = pre ++ X1 ++ post → pre.length = 256 * next →
      (∀ c ∈ cs, c ≠ [] ∧ (∀ p ∈ c, OkP p) ∧ SortK c ∧ 1 + (pairsB c).length ≤ 246) → Cov b kind L cs.flatten xs →
      Ch (Tr b kind L) X2 xs ∧ (∀ c ∈ cs, ∃ p ∈ X2, NodeK b kind p.2 L c) ∧ (∀ q, next ≤ q → q < next + cs.length → ∃ p ∈ X2, p.2 = (q : Int)) ∧ X1.length = 256 * cs.length ∧ X2.length = cs.length
  | [], next, xs, X1, X2, pre, post, h, _, _, _, hc => by
    simp only [layK, Prod.mk.injEq] at h
    obtain ⟨rfl, rfl, _⟩ := h
    have : xs = [] := by
      rcases hc with ⟨_, h⟩ | ⟨L0, _, h⟩
      · simpa using h.symm
      · exact h
    subst this
    exact ⟨rfl, by simp, fun q h1 h2 => by simp at h2; omega, by simp, by simp⟩
  | c :: r, next, xs, X1, X2, pre, post, h, hb, hpre, hok, hc => by
    by_cases hbad : (next : Int) < 0 ∨ 16384 ≤ (next : Int)
    · rw [layK, if_pos hbad] at h
      injection h with _ h
      injection h with _ h
      cases h
    · rw [layK, if_neg hbad] at h
      obtain ⟨Y1, Y2, er, hY⟩ : ∃ Y1 Y2 er, layK kind (UInt8.ofNat L) ((next : Int) + 1) r = (Y1, Y2, er) := ⟨_, _, _, rfl⟩
      rw [hY, Int.toNat_natCast] at h
      injection h with h1 h
      injection h with h2 h3
      simp only at h1 h2 h3
      subst h3
      obtain ⟨hc1, hc2, hc3, hc4⟩ := hok c (by simp)
      have hpl := mkNode_length kind next (UInt8.ofNat L) c hc4
      rw [List.flatten_cons] at hc
      obtain ⟨ys, zs, e, hcy, hcz⟩ := cov_append hc
      have hpg : (b.drop (256 * next)).take 256 = mkPage kind next (UInt8.ofNat L :: pairsB c) := by
        rw [hb, ← h1, ← List.append_assoc, List.append_assoc (pre ++ _)]
        exact take_page hpre hpl
      have hlen : 256 * next + 256 ≤ b.length := by
        rw [hb, ← h1]
        simp only [List.length_append, hpl, hpre]
        omega
      have hnode : NodeK b kind (next : Int) L c := ⟨hc1, fun level hlev => node_read hm hl hlen hpg hc4 hL hc3 hc2 hlev (.inl hc1)⟩
      obtain ⟨t1, t2, t3⟩ := cov_node hnode hcy
      have ih := lay_ch hm hl hL r (next + 1) zs Y1 Y2 (pre ++ mkPage kind next (UInt8.ofNat L :: pairsB c)) post (by rw [show ((next + 1 : Nat) : Int) = (next : Int) + 1 by omega]; exact hY)
        (by rw [hb, ← h1]; simp) (by rw [List.length_append, hpl, hpre]; omega) (fun c hc => hok c (by simp [hc])) hcz
      obtain ⟨i1, i2, i3, i4, i5⟩ := ih
      subst h2
      refine ⟨⟨ys, zs, e, t1, t2, t3, i1⟩, ?_, ?_, ?_, ?_⟩
      · intro c' hc'
        rcases List.mem_cons.1 hc' with rfl | hc'
        · exact ⟨_, List.mem_cons_self, hnode⟩
        · obtain ⟨p, hp, hn⟩ := i2 c' hc'
          exact ⟨p, List.mem_cons_of_mem _ hp, hn⟩
      · intro q hq1 hq2
        by_cases hq : q = next
        · subst hq; exact ⟨_, List.mem_cons_self, rfl⟩
        · obtain ⟨p, hp, hn⟩ := i3 q (by omega) (by simp only [List.length_cons] at hq2; omega)
          exact ⟨p, List.mem_cons_of_mem _ hp, hn⟩
      · rw [← h1, List.length_append, hpl, i4, List.length_cons]; omega
      · simp only [List.length_cons, i5]
theorem sort_flatten {cs : List (List Kp)} (h : SortK cs.flatten) : ∀ c ∈ cs, SortK c := by
  intro c hc
  obtain ⟨us, vs, rfl⟩ := List.append_of_mem hc
  rw [List.flatten_append, List.flatten_cons] at h
  exact sort_left (sort_right h)
theorem ch_keys {T : Int → List Kp → Prop} : ∀ {l xs : List Kp}, Ch T l xs → SortK xs → SortK l
  | [], _, _, _ => by simp [SortK]
  | p :: r, xs, h, hs => by
    obtain ⟨ys, zs, e, h1, h2, h3, h4⟩ := h
    subst e
    have ih := ch_keys h4 (sort_right hs)
    unfold SortK
    rw [List.pairwise_cons]
    refine ⟨fun q hq => ?_, ih⟩
    have hz := ch_head h4 (fun e => by rw [e] at hq; cases hq)
    obtain ⟨y, r', ey, hy⟩ : ∃ y r', ys = y :: r' ∧ headK ys = y.1 := headK_mem h2
    obtain ⟨z, r2, ez, hz'⟩ : ∃ z r', zs = z :: r' ∧ headK zs = z.1 := headK_mem hz.1
    have h5 : ltK y.1 z.1 = true := sort_cross hs (by rw [ey]; simp) (by rw [ez]; simp)
    rw [← h3, hy]
    refine lt_of_lt_le h5 ?_
    rw [← hz', hz.2]
    exact sort_head ih hq
/-- What levels laid hold. -/
theorem up_tr {b : List UInt8} {kind : UInt8} (hm : b.length % 256 = 0) (hl : b.length ≤ 4194304) (a : Nat) (pre post : List UInt8) (hpre : pre.length = 256 * a) (xs : List Kp) (hxs : SortK xs) :
    ∀ (f next L k : Nat) (l : List Kp) (acc P : List UInt8) (nx : Int), upK kind f (next : Int) L l acc = (P, nx, 0) → b = pre ++ P ++ post → a ≤ next → acc.length = 256 * (next - a) → l ≠ [] → (∀ p ∈ l, OkP p) →
      Cov b kind L l xs → (∀ q, a ≤ q → q < next → ∃ L0, L = L0 + 1 ∧ ∃ p ∈ l, Vis b kind L0 p.2 q) → l.length ≤ 3 ^ k → L + k ≤ 12 →
      ∃ (L' root : Nat), nx = (root : Int) + 1 ∧ L ≤ L' ∧ L' ≤ L + k ∧ next ≤ root ∧ Tr b kind L' (root : Int) xs ∧ (∀ q, a ≤ q → q ≤ root → Vis b kind L' (root : Int) q) ∧ P.length = 256 * (root + 1 - a)
  | 0, next, L, k, l, acc, P, nx, h, _, _, _, _, _, _, _, _, _ => by
    simp only [upK, Prod.mk.injEq] at h
    obtain ⟨_, _, h⟩ := h
    cases h
  | f + 1, next, L, k, l, acc, P, nx, h, hb, ha, hacc, hne, hok, hcov, hvis, hk, hLk => by
    obtain ⟨X1, X2, er, hX⟩ : ∃ X1 X2 er, layK kind (UInt8.ofNat L) (next : Int) (chunks l) = (X1, X2, er) := ⟨_, _, _, rfl⟩
    rw [upK, hX] at h
    simp only at h
    by_cases he : er ≠ 0
    · rw [if_pos he] at h
      injection h with _ h
      injection h with _ h
      exact absurd h he
    rw [if_neg he] at h
    have he : er = 0 := by omega
    subst he
    have hflat : (chunks l).flatten = l := by have := chunkK_flat 1 [] l; simpa [chunks] using this
    have hsl : SortK l := by
      rcases hcov with ⟨_, e⟩ | ⟨L0, _, e⟩
      · rw [e]; exact hxs
      · exact ch_keys e hxs
    have hchunk : ∀ c ∈ chunks l, c ≠ [] ∧ (∀ p ∈ c, OkP p) ∧ SortK c ∧ 1 + (pairsB c).length ≤ 246 := fun c hc =>
      ⟨chunkK_ne 1 [] l (.inr hne) c hc, fun p hp => hok p (by rw [← hflat]; exact List.mem_flatten.2 ⟨c, hc, hp⟩), sort_flatten (by rw [hflat]; exact hsl) c hc, chunkK_room 1 [] l (by simp [pairsB]) (by omega) hok c hc⟩
    have hfew : 3 * (chunks l).length ≤ l.length + 2 := by
      have := chunkK_few 1 [] l (by simp [pairsB]) (by simp) hok (.inr hne)
      simpa [chunks] using this
    have hpos : 0 < (chunks l).length := chunkK_pos 1 [] l
    have hcov' : Cov b kind L (chunks l).flatten xs := by rw [hflat]; exact hcov
    by_cases h2 : (chunks l).length < 2
    · rw [if_pos h2] at h
      injection h with h3 h4
      injection h4 with h4 _
      have hone : (chunks l).length = 1 := by omega
      obtain ⟨c, hc⟩ : ∃ c, chunks l = [c] := List.length_eq_one_iff.1 hone
      obtain ⟨i1, i2, i3, i4, i5⟩ := lay_ch hm hl (by omega) (chunks l) next xs X1 X2 (pre ++ acc) post hX (by rw [hb, ← h3]; simp) (by rw [List.length_append, hpre, hacc]; omega) hchunk hcov'
      obtain ⟨p, hp⟩ : ∃ p, X2 = [p] := List.length_eq_one_iff.1 (by omega)
      have hpn : p.2 = (next : Int) := by
        obtain ⟨p', hp', e⟩ := i3 next (Nat.le_refl _) (by omega)
        rw [hp] at hp'; simp at hp'; subst hp'; exact e
      rw [hp] at i1
      obtain ⟨ys, zs, e, t1, t2, t3, t4⟩ := i1
      simp only [Ch] at t4
      subst t4
      rw [List.append_nil] at e
      subst e
      rw [hpn] at t1
      refine ⟨L, next, by rw [← h4, hone]; rfl, Nat.le_refl _, by omega, Nat.le_refl _, t1, ?_, ?_⟩
      · intro q hq1 hq2
        by_cases hq : q = next
        · subst hq; exact vis_self _ _ _ _
        · obtain ⟨L0, e0, p0, hp0, hv⟩ := hvis q hq1 (by omega)
          subst e0
          have hmem : c ∈ chunks l := by rw [hc]; simp
          obtain ⟨p1, hp1, hn⟩ := i2 c hmem
          rw [hp] at hp1; simp at hp1; subst hp1
          rw [hpn] at hn
          refine .inr ⟨c, p0, hn, ?_, hv⟩
          rw [← hflat, hc] at hp0
          simpa using hp0
      · rw [← h3, List.length_append, hacc, i4, hone]; omega
    · rw [if_neg h2] at h
      have hk1 : 1 ≤ k := by
        rcases Nat.eq_zero_or_pos k with h0 | h0
        · subst h0; simp at hk; omega
        · exact h0
      obtain ⟨k, rfl⟩ : ∃ k', k = k' + 1 := ⟨k - 1, by omega⟩
      have hpx : ∃ rest, P = acc ++ X1 ++ rest := by
        have : ∀ (f : Nat) (nx' : Int) (L' : Nat) (l' : List Kp) (acc' P' : List UInt8) (nx2 : Int), upK kind f nx' L' l' acc' = (P', nx2, 0) → ∃ rest, P' = acc' ++ rest := by
          intro f
          induction f with
          | zero => intro nx' L' l' acc' P' nx2 h; simp only [upK, Prod.mk.injEq] at h; obtain ⟨_, _, h⟩ := h; cases h
          | succ f ih =>
            intro nx' L' l' acc' P' nx2 h
            rw [upK] at h
            split at h
            · rename_i h1
              injection h with _ h
              injection h with _ h
              exact absurd h h1
            · split at h
              · injection h with h _
                exact ⟨_, h.symm⟩
              · obtain ⟨rest, e⟩ := ih _ _ _ _ _ _ h
                exact ⟨_, by rw [e, List.append_assoc]⟩
        exact this _ _ _ _ _ _ _ h
      obtain ⟨rest, hrest⟩ := hpx
      obtain ⟨i1, i2, i3, i4, i5⟩ := lay_ch hm hl (by omega) (chunks l) next xs X1 X2 (pre ++ acc) (rest ++ post) hX (by rw [hb, hrest]; simp) (by rw [List.length_append, hpre, hacc]; omega) hchunk hcov'
      have hokx : ∀ p ∈ X2, OkP p := by
        have : ∀ (cs : List (List Kp)) (nx : Int) (Y1 : List UInt8) (Y2 : List Kp), layK kind (UInt8.ofNat L) nx cs = (Y1, Y2, 0) → (∀ c ∈ cs, c ≠ [] ∧ ∀ p ∈ c, OkP p) → ∀ p ∈ Y2, OkP p := by
          intro cs
          induction cs with
          | nil => intro nx Y1 Y2 h _ p hp; simp only [layK, Prod.mk.injEq] at h; rw [← h.2.1] at hp; cases hp
          | cons c r ih =>
            intro nx Y1 Y2 h hok p hp
            by_cases hbad : nx < 0 ∨ 16384 ≤ nx
            · rw [layK, if_pos hbad] at h
              injection h with _ h
              injection h with _ h
              cases h
            · rw [layK, if_neg hbad] at h
              injection h with _ h
              injection h with h4 h5
              rw [← h4] at hp
              rcases List.mem_cons.1 hp with rfl | hp
              · obtain ⟨h1, h2⟩ := hok c (by simp)
                cases c with
                | nil => exact absurd rfl h1
                | cons q c => exact ⟨(h2 q (by simp)).1, by simp only; omega, by simp only; omega⟩
              · exact ih (nx + 1) _ _ (Prod.ext rfl (Prod.ext rfl h5)) (fun c hc => hok c (by simp [hc])) p hp
        exact this _ _ _ _ hX (fun c hc => ⟨(hchunk c hc).1, (hchunk c hc).2.1⟩)
      have hk3 : (chunks l).length ≤ 3 ^ k := by
        have e : 3 ^ (k + 1) = 3 ^ k * 3 := Nat.pow_succ ..
        rw [e] at hk
        omega
      have hx2 : X2 ≠ [] := fun e => by rw [e] at i5; simp at i5; omega
      have ih := up_tr hm hl a pre post hpre xs hxs f (next + (chunks l).length) (L + 1) k X2 (acc ++ X1) P nx (by rw [show ((next + (chunks l).length : Nat) : Int) = (next : Int) + ((chunks l).length : Int) by omega]; exact h) hb (by omega)
        (by rw [List.length_append, hacc, i4]; omega) hx2 hokx (.inr ⟨L, rfl, i1⟩) (fun q hq1 hq2 => ⟨L, rfl, by
          by_cases hq : q < next
          · obtain ⟨L0, e0, p0, hp0, hv⟩ := hvis q hq1 hq
            subst e0
            rw [← hflat] at hp0
            obtain ⟨c, hc, hpc⟩ := List.mem_flatten.1 hp0
            obtain ⟨p1, hp1, hn⟩ := i2 c hc
            exact ⟨p1, hp1, .inr ⟨c, p0, hn, hpc, hv⟩⟩
          · obtain ⟨p1, hp1, e⟩ := i3 q (by omega) (by omega)
            exact ⟨p1, hp1, by rw [e]; exact vis_self _ _ _ _⟩⟩) (by rw [i5]; exact hk3) (by omega)
      obtain ⟨L', root, r1, r2, r3, r4, r5, r6, r7⟩ := ih
      exact ⟨L', root, r1, by omega, by omega, by omega, r5, r6, r7⟩
end Go.Proofs.Ytkgdcglnkodgnaa
