/-
  What is spread is gathered: plain laws. No condition but sizes.
-/
import Derived.Test.YtkgdcglnkodgnaaGather2
namespace Go.Proofs.Ytkgdcglnkodgnaa
theorem spr_slice (kind : UInt8) (x : Nat) (data : List UInt8) (i : Nat) : ∀ m, i < m → ((spr kind x data m).drop (256 * i)).take 256 = mkPage kind (x + i) ((data.drop (246 * i)).take 246)
  | 0, h => absurd h (by omega)
  | m + 1, h => by
    have hl := spr_length kind x data m
    have hp : (mkPage kind (x + m) ((data.drop (246 * m)).take 246)).length = 256 := mkPage_length _ _ _ (by rw [List.length_take]; omega)
    rw [spr_succ]
    by_cases hi : i = m
    · subst hi
      rw [List.drop_append_of_le_length (by omega), List.drop_eq_nil_of_le (by omega), List.nil_append, List.take_of_length_le (by omega)]
    · rw [List.drop_append_of_le_length (by omega), List.take_append_of_le_length (by rw [List.length_drop]; omega)]
      exact spr_slice kind x data i m (by omega)
/-- Pages of zeros, what was spread, pages of zeros. -/
def book (kind : UInt8) (a : Nat) (data : List UInt8) (z : Nat) : List UInt8 := zeros (256 * a) ++ spr kind a data (npages data.length) ++ zeros (256 * z)
theorem book_length (kind : UInt8) (a : Nat) (data : List UInt8) (z : Nat) : (book kind a data z).length = 256 * (a + npages data.length + z) := by
  simp only [book, List.length_append, zeros_length, spr_length]; omega
theorem book_slice (kind : UInt8) (a : Nat) (data : List UInt8) (z i : Nat) (hi : i < npages data.length) : ((book kind a data z).drop (256 * (a + i))).take 256 = mkPage kind (a + i) ((data.drop (246 * i)).take 246) := by
  have hl := spr_length kind a data (npages data.length)
  have h0 := zeros_length (256 * a)
  unfold book
  rw [List.append_assoc, List.drop_append, h0, List.drop_eq_nil_of_le (by omega), List.nil_append, show 256 * (a + i) - 256 * a = 256 * i by omega,
    List.drop_append_of_le_length (by omega), List.take_append_of_le_length (by rw [List.length_drop]; omega)]
  exact spr_slice kind a data i _ hi
theorem book_at (kind : UInt8) (a : Nat) (data : List UInt8) (z i : Nat) (hi : i < npages data.length) (hs : a + npages data.length + z ≤ 16384) (k : UInt8) :
    atP (book kind a data z) ((a : Int) + (i : Int)) k = if kind = k then ((data.drop (246 * i)).take 246, 0) else ([], 191) := by
  have hc : count (256 * (a + npages data.length + z)) = (a + npages data.length + z, 0) := by
    unfold count
    rw [if_neg (by omega), if_pos (by omega)]
    congr 1
    omega
  have hr := read_make kind (a + i) ((data.drop (246 * i)).take 246) (by omega) (by rw [List.length_take]; omega) ((a : Int) + (i : Int))
  rw [if_pos (by omega)] at hr
  unfold atP
  rw [book_length, hc, if_neg (by simp), if_neg (by simp only; omega), show ((a : Int) + (i : Int)).toNat = a + i by omega, book_slice kind a data z i hi, hr, if_neg (by simp)]
  by_cases h : kind = k
  · rw [if_pos h, if_neg (by simpa using h)]
  · rw [if_neg h, if_pos (by simpa using h)]
theorem book_gat (kind : UInt8) (a : Nat) (data : List UInt8) (z : Nat) (hs : a + npages data.length + z ≤ 16384) : ∀ k, k ≤ npages data.length → gat (book kind a data z) kind a data.length (List.range k) = (data.take (246 * k), 0)
  | 0, _ => by simp [gat]
  | k + 1, h => by
    have hp : npages data.length = (data.length + 245) / 246 := rfl
    rw [List.range_succ, gat_snoc, book_gat kind a data z hs k (by omega)]
    unfold gstep
    rw [if_neg (by simp), book_at kind a data z k (by omega) hs, if_pos rfl, if_neg (by simp), if_neg (by simp only [List.length_take, List.length_drop]; omega)]
    rw [show 246 * (k + 1) = 246 * k + 246 by omega, List.take_add]
theorem book_gather (kind : UInt8) (a : Nat) (data : List UInt8) (z : Nat) (hs : a + npages data.length + z ≤ 16384) : gatherP (book kind a data z) kind a data.length = (data, 0) := by
  have hc : count (256 * (a + npages data.length + z)) = (a + npages data.length + z, 0) := by
    unfold count
    rw [if_neg (by omega), if_pos (by omega)]
    congr 1
    omega
  have hp : npages data.length = (data.length + 245) / 246 := rfl
  unfold gatherP
  rw [book_length, hc, pages_nat, if_neg (by simp), if_neg (by simp only; omega), Int.toNat_natCast, Int.toNat_natCast, book_gat kind a data z hs _ (Nat.le_refl _), List.take_of_length_le (by omega)]
end Go.Proofs.Ytkgdcglnkodgnaa
