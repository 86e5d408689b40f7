/-
  What a tree that was built answers: plain laws. No condition but sizes.
-/
import Derived.Test.YtkgdcglnkodgnaaTreeE
import Derived.Test.YtkgdcglnkodgnaaBu
namespace Go.Proofs.Ytkgdcglnkodgnaa
open Go.RowKit
/-- How many pages levels take. -/
theorem up_few {kind : UInt8} : ∀ (f : Nat) (next : Int) (L : Nat) (l : List Kp) (acc P : List UInt8) (nx : Int), upK kind f next L l acc = (P, nx, 0) → l ≠ [] → (∀ p ∈ l, OkP p) →
    ∃ c : Nat, nx = next + c ∧ 1 ≤ c ∧ P.length = acc.length + 256 * c ∧ 3 * c ≤ 2 * l.length + 1 ∧ (l.length ≤ 3 → c = 1) ∧ 0 ≤ next
  | 0, next, L, l, acc, P, nx, h, _, _ => by simp only [upK, Prod.mk.injEq] at h; obtain ⟨_, _, h⟩ := h; cases h
  | f + 1, next, L, l, acc, P, nx, h, hne, hok => by
    have hfew := chunks_few hok hne
    have hpos := chunks_pos l
    have hcne : chunks l ≠ [] := fun e => by rw [e] at hpos; simp at hpos
    by_cases he : (layK kind (UInt8.ofNat L) next (chunks l)).2.2 = 0
    · obtain ⟨h1, h2, h3⟩ := layK_len he (chunks_room hok)
      have h4 := h3 hcne
      by_cases h5 : (chunks l).length < 2
      · rw [upK_end he h5] at h
        injection h with h6 h
        injection h with h7 _
        have h8 : (chunks l).length = 1 := by omega
        have hl : 0 < l.length := by
          cases l with
          | nil => exact absurd rfl hne
          | cons _ _ => simp
        exact ⟨1, by rw [← h7, h8], Nat.le_refl _, by rw [← h6, List.length_append, h2, h8], by omega, fun _ => rfl, h4.1⟩
      · rw [upK_step he h5] at h
        have hx : (layK kind (UInt8.ofNat L) next (chunks l)).2.1 ≠ [] := fun e => by rw [e] at h1; simp at h1; omega
        obtain ⟨c, e1, e2, e3, e4, e5, _⟩ := up_few f _ _ _ _ _ _ h hx (layK_pairs (chunks_ok hok hne))
        refine ⟨(chunks l).length + c, by rw [e1]; omega, by omega, by rw [e3, List.length_append, h2]; omega, ?_, fun h6 => by omega, h4.1⟩
        rw [h1] at e4 e5
        by_cases h6 : (chunks l).length ≤ 3
        · have := e5 h6; omega
        · omega
    · rw [upK_err he] at h
      injection h with _ h
      injection h with _ h
      exact absurd h he
/-- A tree in a book. -/
structure Held (b : List UInt8) (kind : UInt8) (root : Int) (l : List Kp) : Prop where
  sort : SortK l
  ok : ∀ p ∈ l, OkP p
  tree : (l = [] ∧ readK b kind root (-1) = (0, 0, [])) ∨ (l ≠ [] ∧ ∃ L, L ≤ 11 ∧ Tr b kind L root l ∧ ∀ k, l.length ≤ 3 ^ k → k ≤ 11 → L ≤ k)
theorem node_level {b : List UInt8} {kind : UInt8} {number : Int} {L L' : Nat} {l l' : List Kp} (h : NodeK b kind number L l) (h' : NodeK b kind number L' l') : L = L' := by
  have h1 := h.2 (-1) (.inl rfl)
  have h2 := h'.2 (-1) (.inl rfl)
  rw [h1] at h2
  injection h2 with _ h2
  injection h2 with h2 _
  omega
theorem tr_level {b : List UInt8} {kind : UInt8} {number : Int} {L L' : Nat} {l l' : List Kp} (h : Tr b kind L number l) (h' : Tr b kind L' number l') : L = L' := by
  obtain ⟨_, h1, _⟩ := tr_head h
  obtain ⟨_, h2, _⟩ := tr_head h'
  exact node_level h1 h2
/-- What was built, in a book with pages of zeros ahead and behind. -/
theorem built {kind : UInt8} {first : Int} {l : List Kp} {P : List UInt8} {root n : Int} (h : buildK kind first l = (P, root, n, 0)) (z : Nat) (hz : z ≤ 4) (hf : first ≤ 4) :
    0 ≤ first ∧ 1 ≤ n ∧ P.length = 256 * n.toNat ∧ first + n ≤ 16000 ∧ root = first + n - 1 ∧ Held (zeros (256 * first.toNat) ++ P ++ zeros (256 * z)) kind root l ∧
      (∀ L, Tr (zeros (256 * first.toNat) ++ P ++ zeros (256 * z)) kind L root l → ∀ q : Nat, first ≤ q → (q : Int) ≤ root → Vis (zeros (256 * first.toNat) ++ P ++ zeros (256 * z)) kind L root q) := by
  unfold buildK at h
  by_cases hlong : 20000 < l.length
  · rw [if_pos hlong] at h
    injection h with _ h
    injection h with _ h
    injection h with _ h
    cases h
  rw [if_neg hlong] at h
  by_cases hbad : badK none l ≠ 0
  · rw [if_pos hbad] at h
    injection h with _ h
    injection h with _ h
    injection h with _ h
    exact absurd h hbad
  rw [if_neg hbad] at h
  obtain ⟨hsort, hok, _⟩ := badK_ok none l (by omega)
  by_cases he : (upK kind (l.length + 1) first 0 l []).2.2 ≠ 0
  · rw [if_pos he] at h
    injection h with _ h
    injection h with _ h
    injection h with _ h
    exact absurd h he
  rw [if_neg he] at h
  obtain ⟨P', nx, er, hup⟩ : ∃ P' nx er, upK kind (l.length + 1) first 0 l [] = (P', nx, er) := ⟨_, _, _, rfl⟩
  rw [hup] at h he
  have he : er = 0 := by simpa using he
  subst he
  simp only [Prod.mk.injEq, and_true] at h
  obtain ⟨rfl, rfl, rfl⟩ := h
  by_cases hne : l = []
  · subst hne
    have hch : chunks ([] : List Kp) = [[]] := rfl
    rw [upK, hch] at hup
    by_cases hb : first < 0 ∨ 16384 ≤ first
    · rw [layK_bad hb] at hup
      injection hup with _ hup
      injection hup with _ hup
      cases hup
    · rw [layK_ok hb] at hup
      simp only [layK, ne_eq, not_true_eq_false, if_false, List.nil_append, List.append_nil, List.length_cons, List.length_nil] at hup
      rw [if_pos (by omega)] at hup
      injection hup with h1 hup
      injection hup with h2 _
      have hpl := mkNode_length kind first.toNat (UInt8.ofNat 0) [] (by simp [pairsB])
      have hP : P'.length = 256 := by rw [← h1]; exact hpl
      have hn : nx - first = 1 := by rw [← h2]; simp; omega
      obtain ⟨a, rfl⟩ := Int.eq_ofNat_of_zero_le (show 0 ≤ first by omega)
      have hroot : nx - 1 = (a : Int) := by omega
      refine ⟨by omega, by omega, by rw [hn, hP]; rfl, by omega, by omega, ⟨by simp [SortK], by simp, .inl ⟨rfl, ?_⟩⟩, ?_⟩
      · rw [hroot, Int.toNat_natCast]
        refine node_read (L := 0) (c := []) ?_ ?_ ?_ ?_ (by simp [pairsB]) (by omega) (by simp [SortK]) (by simp) (.inl rfl) (.inr ⟨rfl, rfl⟩)
        · simp only [List.length_append, zeros_length, hP]; omega
        · simp only [List.length_append, zeros_length, hP]; omega
        · simp only [List.length_append, zeros_length, hP]; omega
        · rw [take_page (zeros_length _) hP, ← h1]; rfl
      · intro L ht
        obtain ⟨_, _, h3, _⟩ := tr_head ht
        exact absurd rfl h3
  · obtain ⟨c, e1, e2, e3, e4, _, e6⟩ := up_few _ _ _ _ _ _ _ hup hne hok
    obtain ⟨a, rfl⟩ := Int.eq_ofNat_of_zero_le e6
    have hn : nx - (a : Int) = c := by omega
    have hPl : P'.length = 256 * c := by rw [e3]; simp
    have hm : (zeros (256 * a) ++ P' ++ zeros (256 * z)).length % 256 = 0 := by simp only [List.length_append, zeros_length, hPl]; omega
    have hl : (zeros (256 * a) ++ P' ++ zeros (256 * z)).length ≤ 4194304 := by simp only [List.length_append, zeros_length, hPl]; omega
    have key : ∀ k, l.length ≤ 3 ^ k → k ≤ 11 → _ := fun k hk hk11 => up_tr (kind := kind) hm hl a (zeros (256 * a)) (zeros (256 * z)) (zeros_length _) l hsort (l.length + 1) a 0 k l [] P' nx hup rfl (Nat.le_refl _) (by simp) hne hok (.inl ⟨rfl, rfl⟩) (fun q h1 h2 => by omega) hk (by omega)
    have hk10 : l.length ≤ 3 ^ 10 := by
      have e : (3 : Nat) ^ 10 = 59049 := by decide
      omega
    obtain ⟨L, root, r1, r2, r3, r4, r5, r6, r7⟩ := key 10 hk10 (by omega)
    have hroot : nx - 1 = (root : Int) := by omega
    rw [Int.toNat_natCast, hroot]
    refine ⟨by omega, by omega, by rw [hPl]; congr 1; omega, by omega, by omega, ⟨hsort, hok, .inr ⟨hne, L, by omega, r5, fun k hk hk11 => ?_⟩⟩, fun L' ht q h1 h2 => ?_⟩
    · obtain ⟨L2, root2, s1, s2, s3, s4, s5, _⟩ := key k hk hk11
      have : root2 = root := by omega
      subst this
      have := tr_level s5 r5
      omega
    · have := tr_level ht r5
      subst this
      exact r6 q (by omega) (by omega)
section
variable {b : List UInt8} {kind : UInt8} {root : Int} {l : List Kp}
theorem Held.check (h : Held b kind root l) : checkP b kind root = ((l.length : Int), 0) := by
  unfold checkP
  rcases h.tree with ⟨h1, h2⟩ | ⟨h1, L, h2, h3, _⟩
  · subst h1
    have e : checkK b kind 14 root (-1) ⟨#[]⟩ (0, ⟨#[]⟩) = ((0, ⟨#[]⟩), 0) := by
      rw [checkK, h2, if_neg (by simp), if_neg (by simp)]
      simp [headLe, lastD]
    rw [e]; simp
  · rw [check_tr L 14 root (-1) ⟨#[]⟩ l (0, ⟨#[]⟩) h3 h.sort (.inl rfl) (by omega) (by simp)]
    simp
theorem Held.find (h : Held b kind root l) (key : ByteArray) : findP b kind root key = ((lookK l key).1, (lookK l key).2, 0) := by
  unfold findP
  rcases h.tree with ⟨h1, h2⟩ | ⟨h1, L, h2, h3, _⟩
  · subst h1
    rw [findK, h2, if_neg (by simp)]
    simp [lookK]
  · exact find_tr L 14 root (-1) l h3 h.sort (.inl rfl) (by omega)
theorem Held.walk (h : Held b kind root l) (key : ByteArray) : ∃ Ls s zs, walkP b kind root key = (Ls, s, 0) ∧ l = zs ++ Ls.flatten ∧ ∀ p ∈ zs, ltK p.1 key = true := by
  unfold walkP
  rcases h.tree with ⟨h1, h2⟩ | ⟨h1, L, h2, h3, _⟩
  · subst h1
    refine ⟨[[]], (1, ⟨#[]⟩), [], ?_, rfl, by simp⟩
    rw [leavesK, h2, if_neg (by simp)]
    simp [headLe, lastD]
  · obtain ⟨Ls, zs, ys, e1, e2, e3, e4, _⟩ := leaves_tr (key := key) L 14 root (-1) true l (0, ⟨#[]⟩) h3 h.sort (.inl rfl) (by omega) (by simp)
    exact ⟨Ls, _, zs, e1, by rw [e2, e3], e4⟩
theorem Held.depth (h : Held b kind root l) : ∃ d : Nat, depthP b kind root = ((d : Int), 0) ∧ 1 ≤ d ∧ d ≤ 12 ∧ ∀ k, l.length ≤ 3 ^ k → k ≤ 11 → d ≤ 1 + k := by
  unfold depthP
  rcases h.tree with ⟨h1, h2⟩ | ⟨h1, L, h2, h3, h4⟩
  · rw [h2]; exact ⟨1, by simp, Nat.le_refl _, by omega, fun k _ _ => by omega⟩
  · obtain ⟨_, hn, _⟩ := tr_head h3
    rw [hn.2 (-1) (.inl rfl)]
    refine ⟨L + 1, ?_, by omega, by omega, fun k hk hk11 => by have := h4 k hk hk11; omega⟩
    simp
end
end Go.Proofs.Ytkgdcglnkodgnaa
