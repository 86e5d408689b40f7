/-
  A book of pages that were made, two exchanged: plain laws. No condition but sizes.
-/
import Derived.Test.YtkgdcglnkodgnaaEach
namespace Go.Proofs.Ytkgdcglnkodgnaa
/-- Pages that were made. -/
def pgs (ks : List UInt8) (ds : List (List UInt8)) (m : Nat) : List UInt8 := (List.range m).flatMap fun j => mkPage (ks.getD j 0) j ((ds.getD j []).take 246)
theorem pgs_succ (ks : List UInt8) (ds : List (List UInt8)) (m : Nat) : pgs ks ds (m + 1) = pgs ks ds m ++ mkPage (ks.getD m 0) m ((ds.getD m []).take 246) := by
  simp [pgs, List.range_succ, List.flatMap_append]
theorem pgs_length (ks : List UInt8) (ds : List (List UInt8)) : ∀ m, (pgs ks ds m).length = 256 * m
  | 0 => rfl
  | m + 1 => by rw [pgs_succ, List.length_append, pgs_length ks ds m, mkPage_length _ _ _ (by rw [List.length_take]; omega)]; omega
/-- A page of a book. -/
def blk (L : List UInt8) (i : Nat) : List UInt8 := (L.drop (256 * i)).take 256
theorem blk_length (L : List UInt8) (i : Nat) (h : 256 * i + 256 ≤ L.length) : (blk L i).length = 256 := by
  unfold blk; rw [List.length_take, List.length_drop]; omega
theorem pgs_blk (ks : List UInt8) (ds : List (List UInt8)) (i : Nat) : ∀ m, i < m → blk (pgs ks ds m) i = mkPage (ks.getD i 0) i ((ds.getD i []).take 246)
  | 0, h => absurd h (by omega)
  | m + 1, h => by
    have hl := pgs_length ks ds m
    have hp : (mkPage (ks.getD m 0) m ((ds.getD m []).take 246)).length = 256 := mkPage_length _ _ _ (by rw [List.length_take]; omega)
    rw [pgs_succ]
    unfold blk
    by_cases hi : i = m
    · subst hi
      rw [List.drop_append_of_le_length (by omega), List.drop_eq_nil_of_le (by omega), List.nil_append, List.take_of_length_le (by omega)]
    · rw [List.drop_append_of_le_length (by omega), List.take_append_of_le_length (by rw [List.length_drop]; omega)]
      exact pgs_blk ks ds i m (by omega)
/-- A page laid over another. -/
def laid (L : List UInt8) (a : Nat) (P : List UInt8) : List UInt8 := L.take (256 * a) ++ P ++ L.drop (256 * a + 256)
theorem laid_length (L : List UInt8) (a : Nat) (P : List UInt8) (hP : P.length = 256) (h : 256 * a + 256 ≤ L.length) : (laid L a P).length = L.length := by
  simp only [laid, List.length_append, List.length_take, List.length_drop]; omega
theorem laid_blk (L : List UInt8) (a : Nat) (P : List UInt8) (hP : P.length = 256) (h : 256 * a + 256 ≤ L.length) (i : Nat) : blk (laid L a P) i = if i = a then P else blk L i := by
  have ht : (L.take (256 * a)).length = 256 * a := by rw [List.length_take]; omega
  unfold laid blk
  by_cases hi : i = a
  · subst hi
    rw [if_pos rfl, List.append_assoc, List.drop_left' ht, List.take_left' hP]
  · rw [if_neg hi]
    by_cases hlt : i < a
    · rw [List.append_assoc, List.drop_append_of_le_length (by omega), List.take_append_of_le_length (by rw [List.length_drop]; omega), List.drop_take, List.take_take, Nat.min_eq_left (by omega)]
    · have hl : (L.take (256 * a) ++ P).length = 256 * a + 256 := by rw [List.length_append]; omega
      rw [List.drop_append, List.drop_eq_nil_of_le (by omega), List.nil_append, List.drop_drop, hl, show 256 * a + 256 + (256 * i - (256 * a + 256)) = 256 * i by omega]
/-- Two pages exchanged. -/
def swp (L : List UInt8) (a b : Nat) : List UInt8 := laid (laid L a (blk L b)) b (blk L a)
/-- What is told of a page. -/
def errK (a b k : Nat) : Nat := if (if k = b then a else if k = a then b else k) = k then 0 else 192
theorem swp_told (ks : List UInt8) (ds : List (List UInt8)) (m a b : Nat) (hm : m ≤ 16384) (ha : a < m) (hb : b < m) : told (swp (pgs ks ds m) a b) = (List.range m).map fun (k : Nat) => ⟨(k : Int), errK a b k⟩ := by
  have hl := pgs_length ks ds m
  have h1 := laid_length (pgs ks ds m) a (blk (pgs ks ds m) b) (blk_length _ _ (by omega)) (by omega)
  have h2 := laid_length (laid (pgs ks ds m) a (blk (pgs ks ds m) b)) b (blk (pgs ks ds m) a) (blk_length _ _ (by omega)) (by omega)
  have hc : count (256 * m) = (m, 0) := by
    unfold count
    rw [if_neg (by omega), if_pos (by omega)]
    congr 1
    omega
  have hlen : (swp (pgs ks ds m) a b).length = 256 * m := by unfold swp; omega
  unfold told
  rw [hlen, hc, if_neg (by simp)]
  refine List.map_congr_left fun k hk => ?_
  rw [List.mem_range] at hk
  unfold tellP
  congr 1
  show (readP (blk (swp (pgs ks ds m) a b) k) (k : Int)).2.2 = errK a b k
  unfold swp
  rw [laid_blk _ _ _ (blk_length _ _ (by omega)) (by omega), laid_blk _ _ _ (blk_length _ _ (by omega)) (by omega)]
  unfold errK
  have hr : ∀ x, x < m → (readP (blk (pgs ks ds m) x) (k : Int)).2.2 = if x = k then 0 else 192 := fun x hx => by
    rw [pgs_blk ks ds x m hx, read_make _ _ _ (by omega) (by rw [List.length_take]; omega)]
    by_cases h : x = k
    · rw [if_pos (by omega), if_pos h]
    · rw [if_neg (by omega), if_neg h]
  by_cases h1 : k = b
  · rw [if_pos h1, if_pos h1]; exact hr a ha
  · rw [if_neg h1, if_neg h1]
    by_cases h2 : k = a
    · rw [if_pos h2, if_pos h2]; exact hr b hb
    · rw [if_neg h2, if_neg h2]; exact hr k hk
end Go.Proofs.Ytkgdcglnkodgnaa
