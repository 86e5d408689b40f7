/-
  The laws of layer 20: their own small functions (twin, bytes, at), the chapter's first example. No condition but sizes.
-/
import Derived.Test.YtkgdcglnkodgnaaTreeF
import Derived.Test.YtkgdcglnkodgnaaCk2
import Derived.Test.YtkgdcglnkodgnaaAwake
namespace Go.Proofs.Ytkgdcglnkodgnaa
open Go.RowKit
/-- A call that answers pairs in new memory. -/
def RetK (w : World) (l : List Kp) (e : Ending) (w' : World) : Prop := ∃ A n c, e = .returned (.slice A n c) ∧ OwnK w' w.heap.size A n c l ∧ Below w.heap.size w w'
section
variable {w : World} {ops : Array Oper} {rest : List Oper} {o : Oper} {a : Act} {Q : Exit → Act → World → Prop}
theorem wl_appK2 (hgd : o.guard = none) (s x : Operand) (ho : o.op = .call { callee := .builtin .append, args := #[s, x], argTypes := #[84, 84] })
    {base : Nat} {A S : Option Addr} {n c m cs : Nat} {l k : List Kp} (hs : a.eval s = .slice A n c) (hx : a.eval x = .slice S m cs)
    (hown : OwnK w base A n c l) (hr : RdK w S m k) (hb : (n + m) * 24 ≤ 140737488355328) (hbase : base ≤ w.heap.size)
    (h : ∀ v w', AppK w base A c (n + m) (l ++ k) v w' → wpList Try.prog ops Q rest (a.put o.dst v) w') : wpList Try.prog ops Q (o :: rest) a w := by
  obtain ⟨i0, hi, hz0, hz1, hz2⟩ := info_parts info113
  obtain ⟨A', c', w', hrun, hap⟩ := run_append_rd (P := Try.prog) w base 84 o.type 113 i0 _ 2 24 Try.underlying84 hi hz0 hz1 hz2 rfl A n c (kc l) hown S m cs (kc k) hr (kc_one k) (by unfold maxLen; omega) hb hbase
  refine wpList_run w hgd s x 84 84 ho _ _ hs hx (R := AppK w base A c (n + m) (l ++ k)) ⟨_, w', hrun, A', c', rfl, ?_, hap.2⟩ h
  have := hap.1
  rw [← kc_append] at this
  exact this
end
set_option maxRecDepth 100000 in
set_option maxHeartbeats 400000 in
theorem twin62 (A : Option Addr) (n c : Nat) (l : List Kp) (w : World) (h : RdK w A n l) (hn : n ≤ 5864062014805) : Calls Try.prog 62 #[.slice A n c] w (RetK w l) := by
  go_enter Try.func62, Try.ntmps62
  go_wp2_with (first | (at_builtin; refine wl_appK2 rfl (.tmp 3) (.tmp 4) rfl rfl rfl (OwnK.nil_ _ w.heap.size _) (Rd.below h ((Below.refl _ _).alloc (Nat.le_refl _) _)) (by omega) (by simp) ?_; rintro v w1 ⟨A', c', rfl, hown, hg, _⟩))
  go_ret
  simp only [Nat.zero_add, List.nil_append] at hown ⊢
  exact ⟨_, _, _, rfl, hown, below_appK ((Below.refl _ _).alloc (Nat.le_refl _) _) (by simp) (OwnK.nil_ _ _ _) hg⟩
set_option maxRecDepth 100000 in
set_option maxHeartbeats 400000 in
theorem bytes66 (A : Option Addr) (n c : Nat) (l : List UInt8) (w : World) (h : Rd8 w A n l) (hn : n ≤ 140737488355328) : Calls Try.prog 66 #[.slice A n c] w (Ret8 w l) := by
  go_enter Try.func66, Try.ntmps66
  go_wp2_with (first | (at_builtin; refine wl_app8 rfl (.tmp 3) (.tmp 4) rfl rfl rfl (Own8.nil_ _ w.heap.size _) (Rd8.below h ((Below.refl _ _).alloc (Nat.le_refl _) _)) (by omega) (by simp) ?_; rintro v w1 ⟨A', c', rfl, hown, hg, _⟩))
  go_ret
  simp only [Nat.zero_add, List.nil_append] at hown ⊢
  exact ⟨_, _, _, rfl, hown, below_app ((Below.refl _ _).alloc (Nat.le_refl _) _) (by simp) (Own8.nil_ _ _ _) hg⟩
theorem lookK_skip {p : Kp} {r : List Kp} {key : ByteArray} (h : p.1 ≠ key) : lookK (p :: r) key = lookK r key := lookK_right (xs := [p]) (by simpa using h)
set_option maxRecDepth 100000 in
set_option maxHeartbeats 1000000 in
theorem at69 (A : Option Addr) (n c : Nat) (l : List Kp) (key : ByteArray) (w : World) (h : RdK w A n l) (hn : n ≤ 5864062014805) :
    Calls Try.prog 69 #[.slice A n c, .string key] w fun e w' => e = .returned (.tuple #[.int .i64 (lookK l key).1, .bool (lookK l key).2]) ∧ w' = w := by
  have HL := Hd.mk h.len
  have HR := Hd.mk h
  go_enter Try.func69, Try.ntmps69
  go_wp2_with fail
  go_loopw [6] (fun i wr => ∃ j : Nat, i = .int .i64 (j : Int) ∧ j ≤ n ∧ wr = w ∧ Hd (lookK (l.drop j) key = lookK l key))
    (fun i _ => n - (intOf i).toNat)
  case atStart => exact ⟨0, rfl, by omega, rfl, ⟨rfl⟩⟩
  case round =>
    obtain ⟨j, rfl, hj, rfl, hb⟩ := hrel
    by_cases hlt : j < n
    · obtain ⟨p, hp⟩ : ∃ p, Hd (l[j]? = some p) := ⟨l[j]'(by have := HL.out; omega), ⟨List.getElem?_eq_getElem _⟩⟩
      have hd : Hd (l.drop j = p :: l.drop (j + 1)) := ⟨by
        obtain ⟨hk, e⟩ := List.getElem?_eq_some_iff.1 hp.out
        rw [← e]; exact List.drop_eq_getElem_cons hk⟩
      obtain ⟨ad, rfl, q0, q1⟩ := RdK.get HR.out hp.out
      have hji : (j : Int) < (n : Int) := by omega
      have hj0 : (0 : Int) ≤ (j : Int) := by omega
      by_cases hk : p.1 = key
      · have k2 : (p.1.toList == key.toList) = true := by simp [hk]
        have hr : Hd (lookK l key = (p.2, true)) := ⟨by rw [← hb.out, hd.out, ← hk, lookK_one]⟩
        clear hk hb
        go_wp2_with fail
        go_ret2
        rw [hr.out]
        exact ⟨rfl, rfl⟩
      · have k2 : (p.1.toList == key.toList) = false := by rw [beq_eq_false_iff_ne]; exact fun e => hk (key_ext e)
        have hr : Hd (lookK (l.drop (j + 1)) key = lookK l key) := ⟨by rw [← hb.out, hd.out, lookK_skip hk]⟩
        clear hk hb
        go_wp2_with fail
        go_roundw
        case rel => exact ⟨j + 1, by go_num, by omega, trivial, hr⟩
        case measure => simp [intOf]; omega
    · obtain rfl : j = n := by omega
      have hji : ¬ ((j : Int) < (j : Int)) := by omega
      have hr : Hd (lookK l key = (0, false)) := ⟨by rw [← hb.out, List.drop_of_length_le (by rw [HL.out]; exact Nat.le_refl _)]; rfl⟩
      clear hb
      go_wp2_with fail
      go_ret2
      rw [hr.out]
      exact ⟨rfl, rfl⟩
def kA : ByteArray := ⟨#[97]⟩
def kB : ByteArray := ⟨#[98]⟩
def exL : List Kp := [(kA, 1), (kB, 2)]
theorem ex_lt : ltK kA kB = true := by
  show Op.bytesLess kA.toList kB.toList = true
  rw [ByteArray.toList_eq, ByteArray.toList_eq]
  rfl
theorem ex_bytes : pairsB exL = [1, 97, 1, 1, 98, 2] := by
  simp [pairsB, exL, pairB, putU, kA, kB, ByteArray.size]
theorem ex_len (p : Kp) (hp : p ∈ exL) : (pairB p).length = 3 := by
  simp only [exL, List.mem_cons, List.not_mem_nil, or_false] at hp
  rcases hp with rfl | rfl <;> simp [pairB, putU, kA, kB, ByteArray.size]
theorem ex_chunks : chunks exL = [exL] := by
  have h1 := ex_len (kA, 1) (by simp [exL])
  have h2 := ex_len (kB, 2) (by simp [exL])
  unfold chunks exL
  rw [chunkK, if_neg (by simp), chunkK, if_neg (by rw [h1, h2]; simp), chunkK]
  rfl
theorem ex_build : buildK 5 0 exL = (mkPage 5 0 [0, 1, 97, 1, 1, 98, 2], 0, 1, 0) := by
  have hbad : badK none exL = 0 := by
    unfold exL
    rw [badK, if_neg (by simp [notAhead, kA, ByteArray.size]), if_neg (by simp), badK, if_neg, if_neg (by simp)]
    · rfl
    · simp only [notAhead, not_or]
      refine ⟨by simp [kB, ByteArray.size], ?_⟩
      rw [leK_not, ex_lt]; simp
  have hlay : layK 5 (UInt8.ofNat 0) 0 (chunks exL) = (mkPage 5 0 [0, 1, 97, 1, 1, 98, 2], [(kA, 0)], 0) := by
    rw [ex_chunks, layK_ok (by omega), ex_bytes]
    simp [layK, headK, exL]
  have hup : upK 5 (exL.length + 1) 0 0 exL [] = (mkPage 5 0 [0, 1, 97, 1, 1, 98, 2], 1, 0) := by
    rw [upK_end (by rw [hlay]) (by rw [ex_chunks]; simp), hlay, ex_chunks]
    simp
  unfold buildK
  rw [if_neg (by simp [exL]), if_neg (by rw [hbad]; simp), hup]
  simp
theorem ex_held : Held (mkPage 5 0 [0, 1, 97, 1, 1, 98, 2]) 5 0 exL := by
  have h := (built ex_build 0 (by omega) (by omega)).2.2.2.2.2.1
  simpa [zeros] using h
theorem ex_find : findP (mkPage 5 0 [0, 1, 97, 1, 1, 98, 2]) 5 0 kB = (2, true, 0) := by
  rw [ex_held.find]
  have : lookK exL kB = (2, true) := by
    unfold exL
    rw [lookK_skip (by intro e; have := ex_lt; rw [show (kA, (1 : Int)).1 = kA from rfl] at e; rw [e, ltK_irrefl] at this; cases this)]
    exact lookK_one (p := (kB, 2))
  rw [this]
theorem ex_check : checkP (mkPage 5 0 [0, 1, 97, 1, 1, 98, 2]) 5 0 = (2, 0) := by
  rw [ex_held.check]; rfl
set_option maxRecDepth 100000 in
set_option maxHeartbeats 1000000 in
theorem awake64 (w : World) : Calls Try.prog 64 #[] w fun e w' => e = .returned (.bool true) ∧ Below w.heap.size w w' := by
  have HX := Hd.mk ex_build
  have HF := Hd.mk ex_find
  have HC := Hd.mk ex_check
  have G6 := Hd.mk (show (mkPage 5 0 [0, 1, 97, 1, 1, 98, 2]).getD 6 0 = 0 by simp [mkPage, body, low4])
  have G7 := Hd.mk (show (mkPage 5 0 [0, 1, 97, 1, 1, 98, 2]).getD 7 0 = 1 by simp [mkPage, body, low4])
  have G8 := Hd.mk (show (mkPage 5 0 [0, 1, 97, 1, 1, 98, 2]).getD 8 0 = 97 by simp [mkPage, body, low4])
  have HL := Hd.mk (mkPage_length 5 0 [0, 1, 97, 1, 1, 98, 2] (by simp))
  generalize mkPage 5 0 [0, 1, 97, 1, 1, 98, 2] = pg at *
  have H1 := Hd.mk (build61 5 0 (some ⟨w.heap.size, 0, none⟩) 2 2 exL (w.alloc (.cells #[.string kA, .int .i64 1, .string kB, .int .i64 2] 113)) (RdK.newAt w exL rfl rfl rfl) (fun _ ad e => by injection e with e; subst e; simp) (by omega) (by omega) (by omega)
    (fun p hp => by simp only [exL, List.mem_cons, List.not_mem_nil, or_false] at hp; rcases hp with rfl | rfl <;> simp [kA, kB, ByteArray.size]))
  rw [HX.out] at H1
  have B1 := Hd.mk (show Below w.heap.size w (w.alloc (.cells #[.string kA, .int .i64 1, .string kB, .int .i64 2] 113)) from (Below.refl _ _).alloc (Nat.le_refl _) _)
  go_enter Try.func64, Try.ntmps64
  go_wp2_with fail
  refine H1.out.mono ?_
  rintro e w1 ⟨A1, n1, c1, rfl, ho, hb⟩
  have HB1 := Hd.mk (B1.out.trans (hb.mono B1.out.size))
  have HO1 := Hd.mk (Own8.mono ho B1.out.size)
  obtain rfl : n1 = 256 := by rw [← Own8.len ho]; exact HL.out
  obtain ⟨ad, rfl⟩ := Own8.nsome HO1.out (by omega)
  have hr := Own8.rd HO1.out
  obtain ⟨_, hA, c6⟩ := hr.getD (k := 6) (by omega)
  injection hA with hA; subst hA
  obtain ⟨_, hA, c7⟩ := hr.getD (k := 7) (by omega)
  injection hA with hA; subst hA
  obtain ⟨_, hA, c8⟩ := hr.getD (k := 8) (by omega)
  injection hA with hA; subst hA
  simp only at c6 c7 c8
  rw [G6.out] at c6
  rw [G7.out] at c7
  rw [G8.out] at c8
  have C6 := Hd.mk c6
  have C7 := Hd.mk c7
  have C8 := Hd.mk c8
  have hnc := (Own8.le HO1.out).1
  clear c6 c7 c8 ho hb hr H1 B1
  have HF1 := Hd.mk (find68 (some ad) 256 c1 pg 5 0 kB w1 (Own8.rd HO1.out) (by omega) hnc (by omega) (by omega))
  rw [HF.out] at HF1
  go_wp2_with fail
  refine HF1.out.mono ?_
  rintro e w2 ⟨rfl, hb2⟩
  have HB2 := Hd.mk (HB1.out.trans (hb2.mono HB1.out.size))
  have HO2 := Hd.mk (Own8.below HO1.out hb2)
  have HC1 := Hd.mk (check67 (some ad) 256 c1 pg 5 0 w2 (Own8.rd HO2.out) (by omega) hnc (fun ad' e => by
    injection e with e; subst e
    exact (Own8.lt HO2.out (g := ad.block) (by simp [ownBlk]; omega)).2) (by omega) (by omega))
  rw [HC.out] at HC1
  have D6 := Hd.mk ((hb2.cell (cell_lt C6.out)).trans C6.out)
  have D7 := Hd.mk ((hb2.cell (cell_lt C7.out)).trans C7.out)
  have D8 := Hd.mk ((hb2.cell (cell_lt C8.out)).trans C8.out)
  clear hb2
  go_wp2_with fail
  refine HC1.out.mono ?_
  rintro e w3 ⟨rfl, hb3⟩
  have HB3 := Hd.mk (HB2.out.trans (hb3.mono HB2.out.size))
  have e6 := (hb3.cell (cell_lt D6.out)).trans D6.out
  have e7 := (hb3.cell (cell_lt D7.out)).trans D7.out
  have e8 := (hb3.cell (cell_lt D8.out)).trans D8.out
  simp [Addr.add] at e6 e7 e8
  clear hb3
  go_wp2_with fail
  go_ret
  exact ⟨rfl, HB3.out⟩
end Go.Proofs.Ytkgdcglnkodgnaa
