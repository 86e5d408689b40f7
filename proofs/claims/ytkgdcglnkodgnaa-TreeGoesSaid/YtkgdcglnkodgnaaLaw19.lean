/-
  What was made reads; what reads is what would be made: plain laws of layer 19. No condition.
-/
import Derived.Test.YtkgdcglnkodgnaaRead
import Derived.Test.YtkgdcglnkodgnaaSpread
namespace Go.Proofs.Ytkgdcglnkodgnaa
open Go.RowKit
theorem leN_low4 (x : Nat) (h : x < 4294967296) : leN (low4 x) = x := by
  simp only [low4, leN, UInt8.toNat_ofNat']
  omega
theorem body_parts (kind : UInt8) (x : Nat) (d : List UInt8) : body kind x d = kind :: (low4 x ++ UInt8.ofNat d.length :: (d ++ zeros (246 - d.length))) := by
  simp [body]
theorem getD_mk0 (kind : UInt8) (x : Nat) (d : List UInt8) : (mkPage kind x d).getD 0 0 = kind := by
  simp [mkPage, body]
theorem getD_mk5 (kind : UInt8) (x : Nat) (d : List UInt8) : (mkPage kind x d).getD 5 0 = UInt8.ofNat d.length := by
  simp [mkPage, body, low4]
/-- What was made reads. -/
theorem read_make (kind : UInt8) (x : Nat) (d : List UInt8) (hx : x < 16384) (hd : d.length ≤ 246) (number : Int) :
    readP (mkPage kind x d) number = if number = x then (kind, d, 0) else (0, [], 192) := by
  have hl := mkPage_length kind x d hd
  have hb := body_length kind x d hd
  have h1 : (mkPage kind x d).drop 252 = low4 (crc (body kind x d)) := by rw [mkPage, List.drop_left' hb]
  have h2 : (mkPage kind x d).take 252 = body kind x d := by rw [mkPage, List.take_left' hb]
  have h3 : ((mkPage kind x d).drop 1).take 4 = low4 x := by
    rw [mkPage, body_parts]
    simp [low4]
  have h5 : ((mkPage kind x d).getD 5 0).toNat = d.length := by rw [getD_mk5]; simp; omega
  have h6 : (mkPage kind x d).drop 6 = d ++ (zeros (246 - d.length) ++ low4 (crc (body kind x d))) := by
    rw [mkPage, body_parts]
    simp [low4]
  have h7 : ((mkPage kind x d).drop (6 + d.length)).take (246 - d.length) = zeros (246 - d.length) := by
    rw [← List.drop_drop, h6, List.drop_left' rfl, List.take_left' (by simp [zeros])]
  unfold readP
  rw [if_neg (by omega), h1, h2, leN_low4 _ (crc_lt _), if_neg (by simp), h3, leN_low4 _ (by omega), h5, h7]
  by_cases hn : number = x
  · rw [if_neg (by omega), if_neg (by simp [zeros]), if_pos hn, getD_mk0, h6, List.take_left' rfl]
  · rw [if_pos (by omega), if_neg hn]
theorem low4_leN (l : List UInt8) (h : l.length = 4) : low4 (leN l) = l := by
  match l, h with
  | [a, b, c, d], _ =>
    have ha := byte_lt a; have hb := byte_lt b; have hc := byte_lt c; have hd := byte_lt d
    simp only [low4, leN]
    congr 1
    · rw [← UInt8.toNat_inj]; simp
    · congr 1
      · rw [← UInt8.toNat_inj]; simp; omega
      · congr 1
        · rw [← UInt8.toNat_inj]; simp; omega
        · congr 1
          rw [← UInt8.toNat_inj]; simp; omega
/-- What reads is what would be made. -/
theorem make_read (b : List UInt8) (number : Int) (k : UInt8) (d : List UInt8) (h : readP b number = (k, d, 0)) : 0 ≤ number ∧ number < 4294967296 ∧ d.length ≤ 246 ∧ b = mkPage k number.toNat d := by
  unfold readP at h
  by_cases h1 : b.length ≠ 256
  · rw [if_pos h1] at h; cases h
  rw [if_neg h1] at h
  by_cases h2 : leN (b.drop 252) ≠ crc (b.take 252)
  · rw [if_pos h2] at h; cases h
  rw [if_neg h2] at h
  by_cases h3 : number < 0 ∨ (leN ((b.drop 1).take 4) : Int) ≠ number ∨ 246 < (b.getD 5 0).toNat
  · rw [if_pos h3] at h; cases h
  rw [if_neg h3] at h
  by_cases h4 : ((b.drop (6 + (b.getD 5 0).toNat)).take (246 - (b.getD 5 0).toNat)).all (· == 0) = false
  · rw [if_pos h4] at h; cases h
  rw [if_neg h4] at h
  injection h with hk h
  injection h with hd _
  have hl : b.length = 256 := by omega
  have hn0 : 0 ≤ number := by omega
  have htold : (leN ((b.drop 1).take 4) : Int) = number := by omega
  have hlong : (b.getD 5 0).toNat ≤ 246 := by omega
  have hs : leN (b.drop 252) = crc (b.take 252) := by omega
  have h4len : ((b.drop 1).take 4).length = 4 := by rw [List.length_take, List.length_drop]; omega
  have hlt : leN ((b.drop 1).take 4) < 4294967296 := by have := leN_lt ((b.drop 1).take 4); rw [h4len] at this; exact this
  have hdl : d.length = (b.getD 5 0).toNat := by rw [← hd, List.length_take, List.length_drop]; omega
  refine ⟨hn0, by omega, by omega, ?_⟩
  have hz : (b.drop (6 + d.length)).take (246 - d.length) = zeros (246 - d.length) := by
    rw [hdl]
    have h4' : ((b.drop (6 + (b.getD 5 0).toNat)).take (246 - (b.getD 5 0).toNat)).all (· == 0) = true := by simpa using h4
    rw [List.all_eq_true] at h4'
    refine List.eq_replicate_iff.2 ⟨by rw [List.length_take, List.length_drop]; omega, fun x hx => by simpa using h4' x hx⟩
  have hto : number.toNat = leN ((b.drop 1).take 4) := by omega
  have hbody : b.take 252 = body k number.toNat d := by
    rw [body_parts, hto, low4_leN _ h4len]
    have e0 : b = b.getD 0 0 :: b.drop 1 := by
      rw [List.getD_eq_getElem?_getD, List.getElem?_eq_getElem (by omega)]
      have := List.drop_eq_getElem_cons (l := b) (i := 0) (by omega)
      simpa using this
    have e5 : b.drop 5 = b.getD 5 0 :: b.drop 6 := by
      rw [List.getD_eq_getElem?_getD, List.getElem?_eq_getElem (by omega)]
      have := List.drop_eq_getElem_cons (l := b) (i := 5) (by omega)
      simp
    have e1 : (b.drop 1).take 251 = (b.drop 1).take 4 ++ ((b.drop 5).take 247) := by
      have := List.take_add (l := b.drop 1) (i := 4) (j := 247)
      rw [List.drop_drop] at this
      exact this
    have e6 : (b.drop 6).take 246 = d ++ zeros (246 - d.length) := by
      rw [← hz, ← List.drop_drop]
      have := List.take_add (l := b.drop 6) (i := d.length) (j := 246 - d.length)
      rw [show d.length + (246 - d.length) = 246 by omega] at this
      rw [this]
      congr 1
      rw [hdl]; exact hd
    have hof : UInt8.ofNat d.length = b.getD 5 0 := by rw [hdl]; simp
    rw [hof, ← e6]
    have e52 : (b.drop 5).take 247 = b.getD 5 0 :: (b.drop 6).take 246 := by rw [e5]; rfl
    rw [← e52, ← e1, ← hk]
    have : b.take 252 = (b.getD 0 0 :: b.drop 1).take 252 := by rw [← e0]
    rw [this]; rfl
  have hsum : b.drop 252 = low4 (crc (body k number.toNat d)) := by
    rw [← hbody, ← hs, low4_leN _ (by rw [List.length_drop]; omega)]
  have := (List.take_append_drop 252 b).symm
  rw [this, mkPage, hbody, hsum]
end Go.Proofs.Ytkgdcglnkodgnaa
