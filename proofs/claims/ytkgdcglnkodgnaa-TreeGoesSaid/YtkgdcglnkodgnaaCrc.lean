/-
  The CRC that both Sums compute, in plain Lean: its step, that a change of at most four bytes side by side (the stored sum's four among them) is seen. No condition.
-/
namespace Go.Proofs.Ytkgdcglnkodgnaa

/-- One bit's step. -/
def crcT (s : Nat) : Nat := if s % 2 = 1 then (s / 2) ^^^ 3988292384 else s / 2
/-- n steps. -/
def crcN : Nat → Nat → Nat
  | 0, s => s
  | n + 1, s => crcN n (crcT s)
/-- A byte's eight. -/
def crcB (s : Nat) (b : UInt8) : Nat := crcN 8 (s ^^^ b.toNat)
def crcRaw (s : Nat) (l : List UInt8) : Nat := l.foldl crcB s
def crc (l : List UInt8) : Nat := crcRaw 4294967295 l ^^^ 4294967295

theorem crcT_bit (s i : Nat) : (crcT s).testBit i = (s.testBit (i + 1) ^^ (s.testBit 0 && Nat.testBit 3988292384 i)) := by
  unfold crcT
  by_cases h : s % 2 = 1
  · simp [h, Nat.testBit_xor, Nat.testBit_succ, Nat.testBit_zero]
  · simp [h, Nat.testBit_succ, Nat.testBit_zero]

theorem crcT_xor (a b : Nat) : crcT (a ^^^ b) = crcT a ^^^ crcT b := by
  apply Nat.eq_of_testBit_eq
  intro i
  simp only [crcT_bit, Nat.testBit_xor]
  cases a.testBit (i + 1) <;> cases b.testBit (i + 1) <;> cases a.testBit 0 <;> cases b.testBit 0 <;> cases Nat.testBit 3988292384 i <;> rfl

theorem crcT_lt {s : Nat} (h : s < 4294967296) : crcT s < 4294967296 := by
  unfold crcT
  split
  · exact Nat.xor_lt_two_pow (n := 32) (by omega) (by omega)
  · omega

theorem crcT_zero {s : Nat} (h : s < 4294967296) (h0 : crcT s = 0) : s = 0 := by
  have hb : (crcT s).testBit 31 = false := by rw [h0]; exact Nat.zero_testBit 31
  rw [crcT_bit] at hb
  have h32 : s.testBit 32 = false := Nat.testBit_lt_two_pow (by omega)
  have hp : Nat.testBit 3988292384 31 = true := by decide
  rw [h32, hp] at hb
  have hs : s.testBit 0 = false := by simpa using hb
  rw [Nat.testBit_zero] at hs
  have hm : ¬ s % 2 = 1 := by simpa using hs
  unfold crcT at h0
  rw [if_neg hm] at h0
  omega

theorem crcN_xor : ∀ (n a b : Nat), crcN n (a ^^^ b) = crcN n a ^^^ crcN n b
  | 0, _, _ => rfl
  | n + 1, a, b => by simp only [crcN]; rw [crcT_xor, crcN_xor]
theorem crcN_lt : ∀ (n : Nat) {s : Nat}, s < 4294967296 → crcN n s < 4294967296
  | 0, _, h => h
  | n + 1, _, h => crcN_lt n (crcT_lt h)
theorem crcN_zero : ∀ (n : Nat) {s : Nat}, s < 4294967296 → crcN n s = 0 → s = 0
  | 0, _, _, h => h
  | n + 1, _, h, h0 => crcT_zero h (crcN_zero n (crcT_lt h) h0)
theorem crcN_add : ∀ (m n s : Nat), crcN (m + n) s = crcN n (crcN m s)
  | 0, n, s => by rw [Nat.zero_add]; rfl
  | m + 1, n, s => by rw [Nat.succ_add]; exact crcN_add m n (crcT s)
theorem crcN_snoc (n s : Nat) : crcN (n + 1) s = crcT (crcN n s) := crcN_add n 1 s

theorem crcT_even (s : Nat) : crcT (2 * s) = s := by
  unfold crcT
  rw [if_neg (by omega)]
  omega
theorem crcN_shift : ∀ (n s : Nat), crcN n (2 ^ n * s) = s
  | 0, s => by simp [crcN]
  | n + 1, s => by
    have e : 2 ^ (n + 1) * s = 2 * (2 ^ n * s) := by rw [Nat.pow_succ]; simp [Nat.mul_comm, Nat.mul_left_comm]
    simp only [crcN]
    rw [e, crcT_even, crcN_shift n]

theorem byte_lt (b : UInt8) : b.toNat < 256 := b.toNat_lt

theorem crcB_lt {s : Nat} (h : s < 4294967296) (b : UInt8) : crcB s b < 4294967296 :=
  crcN_lt 8 (Nat.xor_lt_two_pow (n := 32) (by omega) (by have := byte_lt b; omega))
theorem crcRaw_lt : ∀ (l : List UInt8) {s : Nat}, s < 4294967296 → crcRaw s l < 4294967296
  | [], _, h => h
  | b :: l, _, h => crcRaw_lt l (crcB_lt h b)
theorem crc_lt (l : List UInt8) : crc l < 4294967296 := Nat.xor_lt_two_pow (n := 32) (crcRaw_lt l (by omega)) (by omega)
theorem crcRaw_append (s : Nat) (l m : List UInt8) : crcRaw s (l ++ m) = crcRaw (crcRaw s l) m := by simp [crcRaw]
theorem crcRaw_nil (s : Nat) : crcRaw s [] = s := rfl
theorem crcRaw_cons (s : Nat) (b : UInt8) (l : List UInt8) : crcRaw s (b :: l) = crcRaw (crcB s b) l := rfl

/-- Two lists, byte by byte. -/
def xorL : List UInt8 → List UInt8 → List UInt8
  | a :: l, b :: m => (a ^^^ b) :: xorL l m
  | l, [] => l
  | [], _ => []
theorem crcB_xor (s t : Nat) (a b : UInt8) : crcB (s ^^^ t) (a ^^^ b) = crcB s a ^^^ crcB t b := by
  unfold crcB
  rw [← crcN_xor, UInt8.toNat_xor]
  congr 1
  simp only [Nat.xor_assoc]
  congr 1
  rw [← Nat.xor_assoc, ← Nat.xor_assoc, Nat.xor_comm t]
theorem crcRaw_xor : ∀ (l m : List UInt8) (s t : Nat), l.length = m.length → crcRaw (s ^^^ t) (xorL l m) = crcRaw s l ^^^ crcRaw t m
  | [], [], _, _, _ => rfl
  | a :: l, b :: m, s, t, h => by
    simp only [xorL, crcRaw_cons, crcB_xor]
    exact crcRaw_xor l m _ _ (by simpa using h)

/-- The number of bytes, the lowest ahead. -/
def leN : List UInt8 → Nat
  | [] => 0
  | b :: l => b.toNat + 256 * leN l
theorem leN_lt : ∀ (l : List UInt8), leN l < 256 ^ l.length
  | [] => by simp [leN]
  | b :: l => by
    have := leN_lt l
    have := byte_lt b
    simp only [leN, List.length_cons, Nat.pow_succ]
    omega
theorem add_xor (x y : Nat) (hx : x < 256) : x + 256 * y = x ^^^ (256 * y) := by
  apply Nat.eq_of_testBit_eq
  intro i
  have h1 : x + 256 * y = 2 ^ 8 * y + x := by omega
  rw [Nat.testBit_xor, h1, Nat.testBit_two_pow_mul_add _ (by omega), show 256 * y = 2 ^ 8 * y from rfl, Nat.testBit_two_pow_mul]
  by_cases hi : i < 8
  · have h8 : ¬ 8 ≤ i := by omega
    simp [hi, h8]
  · simp only [hi, if_false]
    rw [Nat.testBit_lt_two_pow (x := x) (i := i)]
    · have h8 : 8 ≤ i := by omega
      simp [h8]
    · exact Nat.lt_of_lt_of_le hx (by have : 2 ^ 8 ≤ 2 ^ i := Nat.pow_le_pow_right (by omega) (by omega); omega)
theorem leN_cons (b : UInt8) (l : List UInt8) : leN (b :: l) = b.toNat ^^^ (256 * leN l) := add_xor _ _ (byte_lt b)
theorem leN_xor : ∀ (l m : List UInt8), l.length = m.length → leN (xorL l m) = leN l ^^^ leN m
  | [], [], _ => by simp [xorL, leN]
  | a :: l, b :: m, h => by
    have ih := leN_xor l m (by simpa using h)
    simp only [xorL]
    rw [leN_cons, leN_cons, leN_cons, ih, UInt8.toNat_xor]
    have e : 256 * (leN l ^^^ leN m) = (256 * leN l) ^^^ (256 * leN m) := by
      apply Nat.eq_of_testBit_eq
      intro i
      rw [show (256 : Nat) = 2 ^ 8 from rfl, Nat.testBit_xor, Nat.testBit_two_pow_mul, Nat.testBit_two_pow_mul, Nat.testBit_two_pow_mul, Nat.testBit_xor]
      cases decide (i ≥ 8) <;> simp
    rw [e]
    simp only [Nat.xor_assoc]
    congr 1
    rw [← Nat.xor_assoc, ← Nat.xor_assoc, Nat.xor_comm b.toNat]

/-- So many zero bytes. -/
def zeros (n : Nat) : List UInt8 := List.replicate n 0
theorem leN_zeros : ∀ n, leN (zeros n) = 0
  | 0 => rfl
  | n + 1 => by
    show leN (0 :: zeros n) = 0
    simp [leN, leN_zeros n]
theorem leN_append_zeros : ∀ (l : List UInt8) (n : Nat), leN (l ++ zeros n) = leN l
  | [], n => by simp [leN_zeros, leN]
  | b :: l, n => by simp only [List.cons_append, leN]; rw [leN_append_zeros l n]
theorem crcRaw_zeros : ∀ (n s : Nat), crcRaw s (zeros n) = crcN (8 * n) s
  | 0, _ => rfl
  | n + 1, s => by
    show crcRaw (crcB s 0) (zeros n) = _
    rw [crcRaw_zeros n, show 8 * (n + 1) = 8 + 8 * n by omega, crcN_add]
    simp [crcB]
/-- A register that took bytes is the register with them laid in. -/
theorem crc_take : ∀ (d l : List UInt8) (s : Nat), crcN (8 * d.length) (s ^^^ leN (d ++ l)) = crcRaw s d ^^^ leN l
  | [], l, s => by simp [crcN, crcRaw]
  | b :: d, l, s => by
    simp only [List.cons_append, List.length_cons]
    rw [leN_cons, ← Nat.xor_assoc, show 8 * (d.length + 1) = 8 + 8 * d.length by omega, crcN_add, crcN_xor 8, show (256 : Nat) = 2 ^ 8 from rfl, crcN_shift, crcRaw_cons]
    exact crc_take d l (crcB s b)

theorem leN_zero : ∀ (l : List UInt8), leN l = 0 → l = zeros l.length
  | [], _ => rfl
  | b :: l, h => by
    simp only [leN] at h
    have hb : b.toNat = 0 := by omega
    have hl : leN l = 0 := by omega
    have hb' : b = 0 := by rw [← UInt8.toNat_inj]; simpa using hb
    rw [leN_zero l hl, hb']
    simp [zeros, List.replicate_succ]

/-- THE BURST: m bytes and their sum's four; over both a change of four bytes side by side that is not nothing: the sum no longer fits. -/
theorem crc_burst (m : List UInt8) (c d : List UInt8) (a z : Nat) (hc : c.length = 4) (hd : d.length = 4) (hne : d ≠ [0, 0, 0, 0]) (haz : a + 4 + z = m.length + 4) (hs : leN c = crc m) :
    leN ((xorL (m ++ c) (zeros a ++ d ++ zeros z)).drop m.length) ≠ crc ((xorL (m ++ c) (zeros a ++ d ++ zeros z)).take m.length) := by
  have hz : ∀ n, (zeros n).length = n := fun n => by simp [zeros]
  have hle : leN d ≠ 0 := by
    intro h
    have := leN_zero d h
    rw [hd] at this
    exact hne this
  have hlt : leN d < 4294967296 := by have := leN_lt d; rw [hd] at this; exact this
  -- the change, cut where the message ends
  have key : ∀ (x y : List UInt8), zeros a ++ d ++ zeros z = x ++ y → x.length = m.length → crcRaw 0 x ^^^ leN y ≠ 0 := by
    intro x y he hx
    have hx' : x = (zeros a ++ d ++ zeros z).take m.length := by rw [he, ← hx, List.take_left]
    have hy' : y = (zeros a ++ d ++ zeros z).drop m.length := by rw [he, ← hx, List.drop_left]
    have h0 : crcRaw 0 (zeros a) = 0 := by
      rw [crcRaw_zeros]
      have : ∀ n, crcN n 0 = 0 := fun n => by induction n with | zero => rfl | succ n ih => simp only [crcN]; exact ih
      exact this _
    by_cases h : z < 4
    · have e1 : x = zeros a ++ d.take z := by
        rw [hx', List.append_assoc, List.take_append, hz, List.take_of_length_le (by rw [hz]; omega), List.take_append_of_le_length (by omega)]
        congr 2; omega
      have e2 : y = d.drop z ++ zeros z := by
        rw [hy', List.append_assoc, List.drop_append, hz, List.drop_of_length_le (by rw [hz]; omega), List.nil_append, List.drop_append_of_le_length (by omega)]
        congr 2; omega
      rw [e1, e2, crcRaw_append, h0, leN_append_zeros]
      have := crc_take (d.take z) (d.drop z) 0
      rw [List.take_append_drop] at this
      rw [← this]
      intro hh
      rw [Nat.zero_xor] at hh
      exact hle (crcN_zero _ hlt hh)
    · have e1 : x = zeros a ++ d ++ zeros (z - 4) := by
        rw [hx', List.take_append, List.take_of_length_le (by rw [List.length_append, hz]; omega)]
        congr 1
        simp only [zeros, List.take_replicate, List.length_append, List.length_replicate]
        congr 1; omega
      have e2 : y = zeros 4 := by
        rw [hy', List.drop_append, List.drop_of_length_le (by rw [List.length_append, hz]; omega), List.nil_append]
        simp only [zeros, List.drop_replicate, List.length_append, List.length_replicate]
        congr 1; omega
      rw [e1, e2, crcRaw_append, crcRaw_append, h0, leN_zeros, Nat.xor_zero, crcRaw_zeros]
      have := crc_take d [] 0
      rw [List.append_nil, Nat.zero_xor] at this
      simp only [leN, Nat.xor_zero] at this
      rw [← this]
      intro hh
      exact hle (crcN_zero _ hlt (crcN_zero _ (crcN_lt _ hlt) hh))
  have hD : (zeros a ++ d ++ zeros z).length = m.length + c.length := by simp only [List.length_append, hz]; omega
  generalize hDD : zeros a ++ d ++ zeros z = D at *
  have cut : ∀ (l x k y : List UInt8), l.length = x.length → xorL (l ++ k) (x ++ y) = xorL l x ++ xorL k y := by
    intro l
    induction l with
    | nil => intro x k y h; cases x with | nil => rfl | cons _ _ => simp at h
    | cons b l ih => intro x k y h; cases x with | nil => simp at h | cons q x => simp only [List.cons_append, xorL]; rw [ih x k y (by simpa using h)]
  have len : ∀ (l x : List UInt8), l.length = x.length → (xorL l x).length = l.length := by
    intro l
    induction l with
    | nil => intro x h; cases x with | nil => rfl | cons _ _ => simp at h
    | cons b l ih => intro x h; cases x with | nil => simp at h | cons q x => simp only [xorL, List.length_cons]; rw [ih x (by simpa using h)]
  have hDs : D = D.take m.length ++ D.drop m.length := (List.take_append_drop _ _).symm
  have hx : (D.take m.length).length = m.length := by rw [List.length_take]; omega
  have hy : (D.drop m.length).length = c.length := by rw [List.length_drop]; omega
  have hk := key (D.take m.length) (D.drop m.length) hDs hx
  rw [hDs, cut _ _ _ _ hx.symm]
  have hlx := len m _ hx.symm
  rw [List.take_left' hlx, List.drop_left' hlx]
  intro hcon
  rw [leN_xor _ _ hy.symm, hs] at hcon
  have hr := crcRaw_xor m (D.take m.length) 4294967295 0 hx.symm
  rw [Nat.xor_zero] at hr
  unfold crc at hcon
  rw [hr] at hcon
  apply hk
  generalize crcRaw 4294967295 m = p at hcon
  generalize crcRaw 0 (D.take m.length) = q at hcon ⊢
  generalize leN (D.drop m.length) = r at hcon ⊢
  apply Nat.eq_of_testBit_eq
  intro i
  have := congrArg (fun n => Nat.testBit n i) hcon
  simp only [Nat.testBit_xor] at this
  rw [Nat.testBit_xor, Nat.zero_testBit]
  revert this
  cases p.testBit i <;> cases q.testBit i <;> cases r.testBit i <;> cases Nat.testBit 4294967295 i <;> simp
end Go.Proofs.Ytkgdcglnkodgnaa
