/-
  The statement TreeFound: whatever the input, the law returns true and leaves its arguments as they were. No condition beyond the row's own.
-/
import Derived.Test.YtkgdcglnkodgnaaCk
import Derived.Test.YtkgdcglnkodgnaaTreeF
import Derived.Test.YtkgdcglnkodgnaaAwake
import Derived.Test.YtkgdcglnkodgnaaOps
import Derived.Test.YtkgdcglnkodgnaaLf
import Derived.Test.YtkgdcglnkodgnaaRng
import Derived.Shelf.Abstract
import Derived.Test.YtkgdcglnkodgnaaRp
import Derived.Test.YtkgdcglnkodgnaaPr
import Derived.Sort.CutIn
import Derived.ProofKit
import Derived.SizedLaws
import Derived.OpenShut
import Derived.ShutString
import Derived.Test.YtkgdcglnkodgnaaKps
import Derived.Deep.Slices
import Derived.Test.YtkgdcglnkodgnaaRows
namespace Go.Proofs.Ytkgdcglnkodgnaa
open Go.RowKit
set_option maxRecDepth 100000 in
set_option maxHeartbeats 1000000 in
theorem check67 (A : Option Addr) (n c : Nat) (l : List UInt8) (kind : UInt8) (root : Int) (w : World) (h : Rd8 w A n l) (hn : n ≤ 140737488355328) (hnc : n ≤ c) (hA : ∀ ad, A = some ad → ad.block < w.heap.size) (hlo : -9223372036854775808 ≤ root) (hhi : root ≤ 9223372036854775807) :
    Calls Try.prog 67 #[.slice A n c, .int .u8 (kind.toNat : Int), .int .i64 root] w fun e w' => e = .returned (.tuple #[.int .i64 (checkP l kind root).1, .int .i64 ((checkP l kind root).2 : Int)]) ∧ Below w.heap.size w w' := by
  obtain ⟨s', er, hk⟩ : ∃ s' er, Hd (checkK l kind 14 root (-1) ⟨#[]⟩ (0, ⟨#[]⟩) = (s', er)) := ⟨_, _, ⟨rfl⟩⟩
  have hcp : Hd (checkP l kind root = if er ≠ 0 then (0, er) else ((s'.1 : Int), 0)) := ⟨by unfold checkP; rw [hk.out]⟩
  obtain ⟨V, hV⟩ : ∃ V, Hd (w.alloc (.cells #[.slice A n c, .int .u8 (kind.toNat : Int), .int .i64 0, .string ⟨#[]⟩] 161) = V) := ⟨_, ⟨rfl⟩⟩
  have HB : Below w.heap.size w V := by rw [← hV.out]; exact (Below.refl _ _).alloc (Nat.le_refl _) _
  have HX : V.heap[w.heap.size]? = some (.cells #[.slice A n c, .int .u8 (kind.toNat : Int), .int .i64 0, .string ⟨#[]⟩] 161 (0, 0)) := by rw [← hV.out]; exact heap_alloc_new w _
  have HN := Hd.mk (node111 w.heap.size A n c l kind hn hnc (fun ad e => by have := hA ad e; omega) 14 root (-1) ⟨#[]⟩ (0, ⟨#[]⟩) V HX (h.below HB) (goodW_start _ _) hlo hhi (.inl ⟨rfl, rfl⟩))
  rw [hk.out] at HN
  have HB' := Hd.mk HB
  clear h HX HB
  go_enter Try.func67, Try.ntmps67
  go_wp2_with fail
  rw [hV.out]
  refine HN.out.mono ?_
  rintro e w1 ⟨rfl, C1, G1⟩
  have HB1 := Hd.mk (HB'.out.grown G1 HB'.out.size (fun k e => by injection e with e; omega))
  obtain ⟨z0, z1, z2, z3⟩ := chk_load C1
  by_cases he : er = 0
  · subst he
    have hr : Hd (checkP l kind root = ((s'.1 : Int), 0)) := ⟨by rw [hcp.out, if_neg (by simp)]⟩
    clear hcp
    go_wp2_with fail
    go_ret2
    rw [hr.out]
    exact ⟨rfl, HB1.out⟩
  · have hr : Hd (checkP l kind root = (0, er)) := ⟨by rw [hcp.out, if_pos he]⟩
    have e1 : ((er : Int) != 0) = true := by simp; omega
    clear hcp he
    go_wp2_with fail
    go_ret2
    rw [hr.out]
    exact ⟨rfl, HB1.out⟩
end Go.Proofs.Ytkgdcglnkodgnaa
namespace Go.Proofs.Ytkgdcglnkodgnaa
open Go.RowKit
/-- A call that answers pairs in new memory. -/
def RetK (w : World) (l : List Kp) (e : Ending) (w' : World) : Prop := ∃ A n c, e = .returned (.slice A n c) ∧ OwnK w' w.heap.size A n c l ∧ Below w.heap.size w w'
section
variable {w : World} {ops : Array Oper} {rest : List Oper} {o : Oper} {a : Act} {Q : Exit → Act → World → Prop}
theorem wl_appK2 (hgd : o.guard = none) (s x : Operand) (ho : o.op = .call { callee := .builtin .append, args := #[s, x], argTypes := #[84, 84] })
    {base : Nat} {A S : Option Addr} {n c m cs : Nat} {l k : List Kp} (hs : a.eval s = .slice A n c) (hx : a.eval x = .slice S m cs)
    (hown : OwnK w base A n c l) (hr : RdK w S m k) (hb : (n + m) * 24 ≤ 140737488355328) (hbase : base ≤ w.heap.size)
    (h : ∀ v w', AppK w base A c (n + m) (l ++ k) v w' → wpList Try.prog ops Q rest (a.put o.dst v) w') : wpList Try.prog ops Q (o :: rest) a w := by
  obtain ⟨i0, hi, hz0, hz1, hz2⟩ := info_parts info113
  obtain ⟨A', c', w', hrun, hap⟩ := run_append_rd (P := Try.prog) w base 84 o.type 113 i0 _ 2 24 Try.underlying84 hi hz0 hz1 hz2 rfl A n c (kc l) hown S m cs (kc k) hr (kc_one k) (by unfold maxLen; omega) hb hbase
  refine wpList_run w hgd s x 84 84 ho _ _ hs hx (R := AppK w base A c (n + m) (l ++ k)) ⟨_, w', hrun, A', c', rfl, ?_, hap.2⟩ h
  have := hap.1
  rw [← kc_append] at this
  exact this
end
set_option maxRecDepth 100000 in
set_option maxHeartbeats 400000 in
theorem twin62 (A : Option Addr) (n c : Nat) (l : List Kp) (w : World) (h : RdK w A n l) (hn : n ≤ 5864062014805) : Calls Try.prog 62 #[.slice A n c] w (RetK w l) := by
  go_enter Try.func62, Try.ntmps62
  go_wp2_with (first | (at_builtin; refine wl_appK2 rfl (.tmp 3) (.tmp 4) rfl rfl rfl (OwnK.nil_ _ w.heap.size _) (Rd.below h ((Below.refl _ _).alloc (Nat.le_refl _) _)) (by omega) (by simp) ?_; rintro v w1 ⟨A', c', rfl, hown, hg, _⟩))
  go_ret
  simp only [Nat.zero_add, List.nil_append] at hown ⊢
  exact ⟨_, _, _, rfl, hown, below_appK ((Below.refl _ _).alloc (Nat.le_refl _) _) (by simp) (OwnK.nil_ _ _ _) hg⟩
set_option maxRecDepth 100000 in
set_option maxHeartbeats 400000 in
theorem bytes66 (A : Option Addr) (n c : Nat) (l : List UInt8) (w : World) (h : Rd8 w A n l) (hn : n ≤ 140737488355328) : Calls Try.prog 66 #[.slice A n c] w (Ret8 w l) := by
  go_enter Try.func66, Try.ntmps66
  go_wp2_with (first | (at_builtin; refine wl_app8 rfl (.tmp 3) (.tmp 4) rfl rfl rfl (Own8.nil_ _ w.heap.size _) (Rd8.below h ((Below.refl _ _).alloc (Nat.le_refl _) _)) (by omega) (by simp) ?_; rintro v w1 ⟨A', c', rfl, hown, hg, _⟩))
  go_ret
  simp only [Nat.zero_add, List.nil_append] at hown ⊢
  exact ⟨_, _, _, rfl, hown, below_app ((Below.refl _ _).alloc (Nat.le_refl _) _) (by simp) (Own8.nil_ _ _ _) hg⟩
theorem lookK_skip {p : Kp} {r : List Kp} {key : ByteArray} (h : p.1 ≠ key) : lookK (p :: r) key = lookK r key := lookK_right (xs := [p]) (by simpa using h)
set_option maxRecDepth 100000 in
set_option maxHeartbeats 1000000 in
theorem at69 (A : Option Addr) (n c : Nat) (l : List Kp) (key : ByteArray) (w : World) (h : RdK w A n l) (hn : n ≤ 5864062014805) :
    Calls Try.prog 69 #[.slice A n c, .string key] w fun e w' => e = .returned (.tuple #[.int .i64 (lookK l key).1, .bool (lookK l key).2]) ∧ w' = w := by
  have HL := Hd.mk h.len
  have HR := Hd.mk h
  go_enter Try.func69, Try.ntmps69
  go_wp2_with fail
  go_loopw [6] (fun i wr => ∃ j : Nat, i = .int .i64 (j : Int) ∧ j ≤ n ∧ wr = w ∧ Hd (lookK (l.drop j) key = lookK l key))
    (fun i _ => n - (intOf i).toNat)
  case atStart => exact ⟨0, rfl, by omega, rfl, ⟨rfl⟩⟩
  case round =>
    obtain ⟨j, rfl, hj, rfl, hb⟩ := hrel
    by_cases hlt : j < n
    · obtain ⟨p, hp⟩ : ∃ p, Hd (l[j]? = some p) := ⟨l[j]'(by have := HL.out; omega), ⟨List.getElem?_eq_getElem _⟩⟩
      have hd : Hd (l.drop j = p :: l.drop (j + 1)) := ⟨by
        obtain ⟨hk, e⟩ := List.getElem?_eq_some_iff.1 hp.out
        rw [← e]; exact List.drop_eq_getElem_cons hk⟩
      obtain ⟨ad, rfl, q0, q1⟩ := RdK.get HR.out hp.out
      have hji : (j : Int) < (n : Int) := by omega
      have hj0 : (0 : Int) ≤ (j : Int) := by omega
      by_cases hk : p.1 = key
      · have k2 : (p.1.toList == key.toList) = true := by simp [hk]
        have hr : Hd (lookK l key = (p.2, true)) := ⟨by rw [← hb.out, hd.out, ← hk, lookK_one]⟩
        clear hk hb
        go_wp2_with fail
        go_ret2
        rw [hr.out]
        exact ⟨rfl, rfl⟩
      · have k2 : (p.1.toList == key.toList) = false := by rw [beq_eq_false_iff_ne]; exact fun e => hk (key_ext e)
        have hr : Hd (lookK (l.drop (j + 1)) key = lookK l key) := ⟨by rw [← hb.out, hd.out, lookK_skip hk]⟩
        clear hk hb
        go_wp2_with fail
        go_roundw
        case rel => exact ⟨j + 1, by go_num, by omega, trivial, hr⟩
        case measure => simp [intOf]; omega
    · obtain rfl : j = n := by omega
      have hji : ¬ ((j : Int) < (j : Int)) := by omega
      have hr : Hd (lookK l key = (0, false)) := ⟨by rw [← hb.out, List.drop_of_length_le (by rw [HL.out]; exact Nat.le_refl _)]; rfl⟩
      clear hb
      go_wp2_with fail
      go_ret2
      rw [hr.out]
      exact ⟨rfl, rfl⟩
def kA : ByteArray := ⟨#[97]⟩
def kB : ByteArray := ⟨#[98]⟩
def exL : List Kp := [(kA, 1), (kB, 2)]
theorem ex_lt : ltK kA kB = true := by
  show Op.bytesLess kA.toList kB.toList = true
  rw [ByteArray.toList_eq, ByteArray.toList_eq]
  rfl
theorem ex_bytes : pairsB exL = [1, 97, 1, 1, 98, 2] := by
  simp [pairsB, exL, pairB, putU, kA, kB, ByteArray.size]
theorem ex_len (p : Kp) (hp : p ∈ exL) : (pairB p).length = 3 := by
  simp only [exL, List.mem_cons, List.not_mem_nil, or_false] at hp
  rcases hp with rfl | rfl <;> simp [pairB, putU, kA, kB, ByteArray.size]
theorem ex_chunks : chunks exL = [exL] := by
  have h1 := ex_len (kA, 1) (by simp [exL])
  have h2 := ex_len (kB, 2) (by simp [exL])
  unfold chunks exL
  rw [chunkK, if_neg (by simp), chunkK, if_neg (by rw [h1, h2]; simp), chunkK]
  rfl
theorem ex_build : buildK 5 0 exL = (mkPage 5 0 [0, 1, 97, 1, 1, 98, 2], 0, 1, 0) := by
  have hbad : badK none exL = 0 := by
    unfold exL
    rw [badK, if_neg (by simp [notAhead, kA, ByteArray.size]), if_neg (by simp), badK, if_neg, if_neg (by simp)]
    · rfl
    · simp only [notAhead, not_or]
      refine ⟨by simp [kB, ByteArray.size], ?_⟩
      rw [leK_not, ex_lt]; simp
  have hlay : layK 5 (UInt8.ofNat 0) 0 (chunks exL) = (mkPage 5 0 [0, 1, 97, 1, 1, 98, 2], [(kA, 0)], 0) := by
    rw [ex_chunks, layK_ok (by omega), ex_bytes]
    simp [layK, headK, exL]
  have hup : upK 5 (exL.length + 1) 0 0 exL [] = (mkPage 5 0 [0, 1, 97, 1, 1, 98, 2], 1, 0) := by
    rw [upK_end (by rw [hlay]) (by rw [ex_chunks]; simp), hlay, ex_chunks]
    simp
  unfold buildK
  rw [if_neg (by simp [exL]), if_neg (by rw [hbad]; simp), hup]
  simp
theorem ex_held : Held (mkPage 5 0 [0, 1, 97, 1, 1, 98, 2]) 5 0 exL := by
  have h := (built ex_build 0 (by omega) (by omega)).2.2.2.2.2.1
  simpa [zeros] using h
theorem ex_find : findP (mkPage 5 0 [0, 1, 97, 1, 1, 98, 2]) 5 0 kB = (2, true, 0) := by
  rw [ex_held.find]
  have : lookK exL kB = (2, true) := by
    unfold exL
    rw [lookK_skip (by intro e; have := ex_lt; rw [show (kA, (1 : Int)).1 = kA from rfl] at e; rw [e, ltK_irrefl] at this; cases this)]
    exact lookK_one (p := (kB, 2))
  rw [this]
theorem ex_check : checkP (mkPage 5 0 [0, 1, 97, 1, 1, 98, 2]) 5 0 = (2, 0) := by
  rw [ex_held.check]; rfl
set_option maxRecDepth 100000 in
set_option maxHeartbeats 1000000 in
theorem awake64 (w : World) : Calls Try.prog 64 #[] w fun e w' => e = .returned (.bool true) ∧ Below w.heap.size w w' := by
  have HX := Hd.mk ex_build
  have HF := Hd.mk ex_find
  have HC := Hd.mk ex_check
  have G6 := Hd.mk (show (mkPage 5 0 [0, 1, 97, 1, 1, 98, 2]).getD 6 0 = 0 by simp [mkPage, body, low4])
  have G7 := Hd.mk (show (mkPage 5 0 [0, 1, 97, 1, 1, 98, 2]).getD 7 0 = 1 by simp [mkPage, body, low4])
  have G8 := Hd.mk (show (mkPage 5 0 [0, 1, 97, 1, 1, 98, 2]).getD 8 0 = 97 by simp [mkPage, body, low4])
  have HL := Hd.mk (mkPage_length 5 0 [0, 1, 97, 1, 1, 98, 2] (by simp))
  generalize mkPage 5 0 [0, 1, 97, 1, 1, 98, 2] = pg at *
  have H1 := Hd.mk (build61 5 0 (some ⟨w.heap.size, 0, none⟩) 2 2 exL (w.alloc (.cells #[.string kA, .int .i64 1, .string kB, .int .i64 2] 113)) (RdK.newAt w exL rfl rfl rfl) (fun _ ad e => by injection e with e; subst e; simp) (by omega) (by omega) (by omega)
    (fun p hp => by simp only [exL, List.mem_cons, List.not_mem_nil, or_false] at hp; rcases hp with rfl | rfl <;> simp [kA, kB, ByteArray.size]))
  rw [HX.out] at H1
  have B1 := Hd.mk (show Below w.heap.size w (w.alloc (.cells #[.string kA, .int .i64 1, .string kB, .int .i64 2] 113)) from (Below.refl _ _).alloc (Nat.le_refl _) _)
  go_enter Try.func64, Try.ntmps64
  go_wp2_with fail
  refine H1.out.mono ?_
  rintro e w1 ⟨A1, n1, c1, rfl, ho, hb⟩
  have HB1 := Hd.mk (B1.out.trans (hb.mono B1.out.size))
  have HO1 := Hd.mk (Own8.mono ho B1.out.size)
  obtain rfl : n1 = 256 := by rw [← Own8.len ho]; exact HL.out
  obtain ⟨ad, rfl⟩ := Own8.nsome HO1.out (by omega)
  have hr := Own8.rd HO1.out
  obtain ⟨_, hA, c6⟩ := hr.getD (k := 6) (by omega)
  injection hA with hA; subst hA
  obtain ⟨_, hA, c7⟩ := hr.getD (k := 7) (by omega)
  injection hA with hA; subst hA
  obtain ⟨_, hA, c8⟩ := hr.getD (k := 8) (by omega)
  injection hA with hA; subst hA
  simp only at c6 c7 c8
  rw [G6.out] at c6
  rw [G7.out] at c7
  rw [G8.out] at c8
  have C6 := Hd.mk c6
  have C7 := Hd.mk c7
  have C8 := Hd.mk c8
  have hnc := (Own8.le HO1.out).1
  clear c6 c7 c8 ho hb hr H1 B1
  have HF1 := Hd.mk (find68 (some ad) 256 c1 pg 5 0 kB w1 (Own8.rd HO1.out) (by omega) hnc (by omega) (by omega))
  rw [HF.out] at HF1
  go_wp2_with fail
  refine HF1.out.mono ?_
  rintro e w2 ⟨rfl, hb2⟩
  have HB2 := Hd.mk (HB1.out.trans (hb2.mono HB1.out.size))
  have HO2 := Hd.mk (Own8.below HO1.out hb2)
  have HC1 := Hd.mk (check67 (some ad) 256 c1 pg 5 0 w2 (Own8.rd HO2.out) (by omega) hnc (fun ad' e => by
    injection e with e; subst e
    exact (Own8.lt HO2.out (g := ad.block) (by simp [ownBlk]; omega)).2) (by omega) (by omega))
  rw [HC.out] at HC1
  have D6 := Hd.mk ((hb2.cell (cell_lt C6.out)).trans C6.out)
  have D7 := Hd.mk ((hb2.cell (cell_lt C7.out)).trans C7.out)
  have D8 := Hd.mk ((hb2.cell (cell_lt C8.out)).trans C8.out)
  clear hb2
  go_wp2_with fail
  refine HC1.out.mono ?_
  rintro e w3 ⟨rfl, hb3⟩
  have HB3 := Hd.mk (HB2.out.trans (hb3.mono HB2.out.size))
  have e6 := (hb3.cell (cell_lt D6.out)).trans D6.out
  have e7 := (hb3.cell (cell_lt D7.out)).trans D7.out
  have e8 := (hb3.cell (cell_lt D8.out)).trans D8.out
  simp [Addr.add] at e6 e7 e8
  clear hb3
  go_wp2_with fail
  go_ret
  exact ⟨rfl, HB3.out⟩
end Go.Proofs.Ytkgdcglnkodgnaa
namespace Go.Proofs.Ytkgdcglnkodgnaa
open Go.RowKit
def m5 (a : Int) : Int := Int.tmod (Int.tmod a 5 + 5) 5
theorem m5_bound (a : Int) : 0 ≤ m5 a ∧ m5 a ≤ 4 := by
  unfold m5
  have h1 : -5 < Int.tmod a 5 := Int.lt_tmod_of_pos a (by omega)
  have h2 := Int.tmod_nonneg (a := Int.tmod a 5 + 5) 5 (by omega)
  have h3 := Int.tmod_lt_of_pos (Int.tmod a 5 + 5) (show (0 : Int) < 5 by omega)
  omega
/-- A book laid. -/
def laidP (kind : UInt8) (l : List Kp) (a z : Int) : List UInt8 × Int × Int × Bool :=
  if (buildK kind (m5 a) l).2.2.2 ≠ 0 then ([], 0, 0, false)
  else (zeros (256 * (m5 a).toNat) ++ (buildK kind (m5 a) l).1 ++ zeros (256 * (m5 z).toNat), (buildK kind (m5 a) l).2.1, (buildK kind (m5 a) l).2.2.1, true)
def RetLd (w : World) (r : List UInt8 × Int × Int × Bool) (e : Ending) (w' : World) : Prop :=
  ∃ A n c, e = .returned (.tuple #[.slice A n c, .int .i64 r.2.1, .int .i64 r.2.2.1, .bool r.2.2.2]) ∧ Own8 w' w.heap.size A n c r.1 ∧ Below w.heap.size w w'
set_option maxRecDepth 100000 in
set_option maxHeartbeats 1000000 in
theorem laid65 (kind : UInt8) (a z : Int) (A : Option Addr) (n c : Nat) (l : List Kp) (w : World) (h : RdK w A n l) (hn : n ≤ 5864062014805)
    (hsz : ∀ p ∈ l, p.1.size ≤ 9223372036854775807) :
    Calls Try.prog 65 #[.int .u8 (kind.toNat : Int), .slice A n c, .int .i64 a, .int .i64 z] w (RetLd w (laidP kind l a z)) := by
  obtain ⟨p, hp⟩ : ∃ p : Nat, Hd (m5 a = (p : Int)) := ⟨(m5 a).toNat, ⟨by have := m5_bound a; omega⟩⟩
  obtain ⟨q, hq⟩ : ∃ q : Nat, Hd (m5 z = (q : Int)) := ⟨(m5 z).toNat, ⟨by have := m5_bound z; omega⟩⟩
  have hp4 : p ≤ 4 := by have := m5_bound a; have := hp.out; omega
  have hq4 : q ≤ 4 := by have := m5_bound z; have := hq.out; omega
  have hwp : (wrap64 (a.tmod 5 + 5)).tmod 5 = (p : Int) := by
    have h1 : -5 < Int.tmod a 5 := Int.lt_tmod_of_pos a (by omega)
    have h2 : Int.tmod a 5 < 5 := Int.tmod_lt_of_pos a (by omega)
    rw [show wrap64 (a.tmod 5 + 5) = a.tmod 5 + 5 by unfold wrap64; omega]
    exact hp.out
  have hwq : (wrap64 (z.tmod 5 + 5)).tmod 5 = (q : Int) := by
    have h1 : -5 < Int.tmod z 5 := Int.lt_tmod_of_pos z (by omega)
    have h2 : Int.tmod z 5 < 5 := Int.tmod_lt_of_pos z (by omega)
    rw [show wrap64 (z.tmod 5 + 5) = z.tmod 5 + 5 by unfold wrap64; omega]
    exact hq.out
  obtain ⟨P, root, m, er, hX⟩ : ∃ P root m er, Hd (buildK kind (p : Int) l = (P, root, m, er)) := ⟨_, _, _, _, ⟨rfl⟩⟩
  have hres : Hd (laidP kind l a z = if er ≠ 0 then ([], 0, 0, false) else (zeros (256 * p) ++ P ++ zeros (256 * q), root, m, true)) := ⟨by unfold laidP; rw [hp.out, hq.out, hX.out]; simp⟩
  have HT := Hd.mk (twin62 A n c l w h (by omega))
  have HB : ∀ A1 n1 c1 w1, OwnK w1 w.heap.size A1 n1 c1 l → Hd (Calls Try.prog 61 #[.int .u8 (kind.toNat : Int), .int .i64 (p : Int), .slice A1 n1 c1] w1 (RetB w1 (P, root, m, er))) := fun A1 n1 c1 w1 ho => ⟨by
    have hl := OwnK.len ho
    have hl' := RdK.len h
    have := build61 kind (p : Int) A1 n1 c1 l w1 (Own.rd ho) (fun h0 ad e => ?_) (by omega) (by omega) (by omega) hsz
    · rw [hX.out] at this; exact this
    · have hc : c1 ≠ 0 := by have := ho.2.1; omega
      exact (Own.lt ho (g := ad.block) (by simp [ownBlk, hc, e])).2⟩
  go_enter Try.func65, Try.ntmps65
  go_wp2_with fail
  refine HT.out.mono ?_
  rintro e w1 ⟨A1, n1, c1, rfl, ho, hb⟩
  have HB1 := Hd.mk hb
  have HC := HB A1 n1 c1 w1 ho
  clear ho hb HT HB
  go_wp2_with fail
  refine HC.out.mono ?_
  rintro e w2 ⟨A2, n2, c2, rfl, ho2, hb2⟩
  have HB2 := Hd.mk (HB1.out.trans (hb2.mono HB1.out.size))
  have HO2 := Hd.mk (Own8.mono ho2 HB1.out.size)
  clear ho2 hb2 HC
  simp only at HO2
  by_cases he : er ≠ 0
  · have e1 : ((er : Int) != 0) = true := by simp; omega
    have hr1 : Hd (laidP kind l a z = ([], 0, 0, false)) := ⟨by rw [hres.out, if_pos he]⟩
    clear he hres
    go_wp2_with fail
    ((try simp only [Exit.inBlock, Exit.then]); refine bodyPost_ret (results_tmp4 rfl _ _ _) rfl ?_)
    rw [hr1.out]
    exact ⟨_, _, _, rfl, Own8.nil_ _ _ _, HB2.out⟩
  · have he0 : er = 0 := by omega
    subst he0
    have hr1 : Hd (laidP kind l a z = (zeros (256 * p) ++ P ++ zeros (256 * q), root, m, true)) := ⟨by rw [hres.out, if_neg (by simp)]⟩
    have hbt := built hX.out q hq4 (by omega)
    have hn2 : n2 ≤ 4096000 := by have h1 := Own8.len HO2.out; rw [hbt.2.2.1] at h1; have := hbt.2.2.2.1; omega
    clear he hres hbt
    go_wp2_with (first
      | (at_make; refine wl_make8 rfl _ _ rfl rfl rfl (n := 256 * p) (c := 256 * p) (by omega) (by omega) (Nat.le_refl _) (by omega) (base := w.heap.size) HB2.out.size ?_; intro w4 ho4 hb4; have HB4 := Hd.mk (HB2.out.trans (hb4.mono HB2.out.size)); have HO4 := Hd.mk (Own8.below HO2.out hb4))
      | (at_builtin; first
          | (refine wl_app8 rfl (.tmp 39) (.tmp 40) rfl rfl rfl ho4 (Own8.rd HO4.out) (by omega) HB4.out.size ?_; rintro v w5 ⟨A5, c5, rfl, ho5, hg5, _⟩; have HB5 := Hd.mk (below_app HB4.out HB4.out.size ho4 hg5))
          | (refine wl_appz8 (m := 256 * q) rfl (.tmp 42) (.tmp 44) rfl rfl rfl (by omega) ho5 (by omega) HB5.out.size ?_; rintro v w6 ⟨A6, c6, rfl, ho6, hg6, _⟩; have HB6 := Hd.mk (below_app HB5.out HB5.out.size ho5 hg6))))
    ((try simp only [Exit.inBlock, Exit.then]); refine bodyPost_ret (results_tmp4 rfl _ _ _) rfl ?_)
    rw [hr1.out]
    exact ⟨_, _, _, rfl, ho6, HB6.out⟩
end Go.Proofs.Ytkgdcglnkodgnaa
namespace Go.Proofs.Ytkgdcglnkodgnaa
open Go.RowKit
/-- What was laid is held. -/
theorem laid_held {kind : UInt8} {l : List Kp} {a z : Int} {b : List UInt8} {root m : Int} (h : laidP kind l a z = (b, root, m, true)) :
    Held b kind root l ∧ 1 ≤ m ∧ 0 ≤ root ∧ root ≤ 16000 ∧ b.length ≤ 4194304 ∧ l.length ≤ 20000 ∧ 256 ≤ b.length := by
  unfold laidP at h
  by_cases he : (buildK kind (m5 a) l).2.2.2 ≠ 0
  · rw [if_pos he] at h; cases h
  · rw [if_neg he] at h
    obtain ⟨P, r, n, er, hX⟩ : ∃ P r n er, buildK kind (m5 a) l = (P, r, n, er) := ⟨_, _, _, _, rfl⟩
    rw [hX] at h he
    have he : er = 0 := by simpa using he
    subst he
    simp only [Prod.mk.injEq, and_true] at h
    obtain ⟨h1, h2, h3⟩ := h
    have ha := m5_bound a
    have hz := m5_bound z
    have hb := built hX (m5 z).toNat (by omega) (by omega)
    rw [h1, h2, h3] at hb
    obtain ⟨b1, b2, b3, b4, b5, b6, _⟩ := hb
    refine ⟨b6, b2, by omega, by omega, ?_, ?_, ?_⟩
    · rw [← h1]; simp only [List.length_append, zeros_length, b3]; omega
    · unfold buildK at hX
      by_cases hl : 20000 < l.length
      · rw [if_pos hl] at hX
        injection hX with _ hX
        injection hX with _ hX
        injection hX with _ hX
        cases hX
      · omega
    · rw [← h1]; simp only [List.length_append, zeros_length, b3]; omega
theorem laid_none {kind : UInt8} {l : List Kp} {a z : Int} {b : List UInt8} {root m : Int} (h : laidP kind l a z = (b, root, m, false)) : b = [] ∧ root = 0 := by
  unfold laidP at h
  by_cases he : (buildK kind (m5 a) l).2.2.2 ≠ 0
  · rw [if_pos he] at h; cases h; exact ⟨rfl, rfl⟩
  · rw [if_neg he] at h; cases h
set_option maxRecDepth 100000 in
set_option maxHeartbeats 1000000 in
theorem treeLow15 (kind : UInt8) (A : Option Addr) (n c : Nat) (l : List Kp) (w : World) (h : RdK w A n l) (hn : n ≤ 5864062014805) (hsz : ∀ p ∈ l, p.1.size ≤ 9223372036854775807) :
    Calls Try.prog 15 #[.int .u8 (kind.toNat : Int), .slice A n c] w fun e w' => e = .returned (.bool true) ∧ Below w.heap.size w w' := by
  have HL := Hd.mk h.len
  have HR := Hd.mk h
  have HS := Hd.mk hsz
  obtain ⟨b, root, m, ok, hX⟩ : ∃ b root m ok, Hd (laidP kind l 0 0 = (b, root, m, ok)) := ⟨_, _, _, _, ⟨rfl⟩⟩
  clear h hsz
  go_enter Try.func15, Try.ntmps15
  go_wp2_with fail
  refine (awake64 w).mono ?_
  rintro e w1 ⟨rfl, hb1⟩
  have HB1 := Hd.mk hb1
  have HLd := Hd.mk (laid65 kind 0 0 A n c l w1 (Rd.below HR.out hb1) hn HS.out)
  rw [hX.out] at HLd
  clear hb1
  go_wp2_with fail
  refine HLd.out.mono ?_
  rintro e w2 ⟨A2, n2, c2, rfl, ho2, hb2⟩
  have HB2 := Hd.mk (HB1.out.trans (hb2.mono HB1.out.size))
  have HO2 := Hd.mk ho2
  clear ho2 hb2 HLd
  simp only at HO2
  cases ok
  · go_wp2_with fail
    go_ret
    exact ⟨rfl, HB2.out⟩
  · have hh := laid_held hX.out
    have HH := Hd.mk hh.1
    obtain ⟨d, hd1, hd2, hd3, hd4⟩ := hh.1.depth
    have hr0 := hh.2.2.1
    have hr1 := hh.2.2.2.1
    have hn2 : n2 ≤ 4194304 := by have := Own8.len HO2.out; have := hh.2.2.2.2.1; omega
    have hl2 : n ≤ 20000 := by have := HL.out; have := hh.2.2.2.2.2.1; omega
    have HD := Hd.mk hd1
    have HD4 := Hd.mk hd4
    clear hh hd1 hd4
    have HBy := Hd.mk (bytes66 A2 n2 c2 b w2 (Own8.rd HO2.out) (by omega))
    go_wp2_with fail
    refine HBy.out.mono ?_
    rintro e w3 ⟨A3, n3, c3, rfl, ho3, hb3⟩
    have HB3 := Hd.mk (HB2.out.trans (hb3.mono HB2.out.size))
    have HDp := Hd.mk (depth70 A3 n3 c3 b kind root w3 (Own8.rd ho3) (by have := Own8.len ho3; have := Own8.len HO2.out; omega) (Own8.le ho3).1 (by omega) (by omega))
    rw [HD.out] at HDp
    clear ho3 hb3 HBy
    go_wp2_with fail
    refine HDp.out.mono ?_
    rintro e w4 ⟨rfl, hb4⟩
    have HB4 := Hd.mk (HB3.out.trans (hb4.mono HB3.out.size))
    clear hb4 HDp
    go_wp2_with fail
    go_loopw [11, 12] (fun kv qv wr => ∃ (k q : Nat), kv = .int .i64 (k : Int) ∧ qv = .int .i64 (q : Int) ∧ Hd (q = 3 ^ k) ∧ k ≤ 10 ∧ q ≤ 60000 ∧ 1 ≤ q ∧ wr = w4) (fun _ qv _ => n - (intOf qv).toNat)
    case atStart => exact ⟨0, 1, rfl, rfl, ⟨rfl⟩, by omega, by omega, by omega, rfl⟩
    case round =>
      obtain ⟨k, q, rfl, rfl, hq, hk, hq6, hq1, rfl⟩ := hrel
      by_cases hlt : q < n
      · have hk9 : k ≤ 9 := by
          rcases Nat.lt_or_ge 9 k with h1 | h1
          · have h2 : (3 : Nat) ^ 10 ≤ 3 ^ k := Nat.pow_le_pow_right (by omega) h1
            have h3 : (3 : Nat) ^ 10 = 59049 := by decide
            have := hq.out
            omega
          · exact h1
        have e1 : (q : Int) < (n : Int) := by omega
        have e2 : IntKind.i64.wrap ((q : Int) * 3) = (q : Int) * 3 := by rw [IntKind.wrap_i64]; omega
        have hq3 : Hd (q * 3 = 3 ^ (k + 1)) := ⟨by rw [Nat.pow_succ, hq.out]⟩
        go_wp2_with fail
        go_roundw
        case rel => exact ⟨k + 1, q * 3, by go_num, by go_num, hq3, by omega, by omega, by omega, trivial⟩
        case measure => simp [intOf]; omega
      · have e1 : ¬ ((q : Int) < (n : Int)) := by omega
        have hdk : d ≤ 1 + k := HD4.out k (by rw [HL.out, ← hq.out]; omega) (by omega)
        have e2 : (d : Int) ≥ 1 := by omega
        have e3 : (d : Int) ≤ 1 + (k : Int) := by omega
        have e4 : (d : Int) ≤ 12 := by omega
        have e5 : IntKind.i64.wrap (1 + (k : Int)) = 1 + (k : Int) := by rw [IntKind.wrap_i64]; omega
        go_wp2_with fail
        go_ret
        exact ⟨rfl, HB4.out⟩
end Go.Proofs.Ytkgdcglnkodgnaa
namespace Go.Proofs.Ytkgdcglnkodgnaa
open Go.RowKit
/-- append: there is room; the answer lies where the destination lay. -/
theorem run_append_stay {P : Program} {w : World} (base : Nat) (t ty e : TypeId) (i : TypeInfo) (size : Nat) (ht : P.underlying t = some (.slice e)) (hi : P.info? e = some i) (hsize : i.size = size)
    (A : Option Addr) (n c : Nat) (xs : List Value) (hown : Own w base e size A n c xs)
    (S : Option Addr) (m cs : Nat) (news : List Value) (hr : Rd w size S m news) (h1 : ∀ u ∈ news, u.oneCell' = true) (hroom : n + m ≤ c) :
    ∃ w', (Builtin.append_ #[t, t] ty #[.slice A n c, .slice S m cs]).run P w = .ok (.slice A (n + m) c) w' ∧ Appended w w' base e size A c A (n + m) c (xs ++ news) := by
  subst hsize
  obtain ⟨w', hst, hap⟩ := appended_room (P := P) w base e i.size A n c m xs news hown hr.1 h1 hroom
  refine ⟨w', ?_, hap⟩
  have hf := run_firstCells_rd (P := P) w i.size m cs S news hr
  cases A with
  | none =>
    simp only [Sem.run_pure] at hst
    injection hst with _ hst
    subst hst
    simp [Builtin.append_, run_underlying ht, sizeOf, typeInfo, hi, Builtin.lenOf, hroom, hf]
  | some a =>
    simp only at hst
    simp [Builtin.append_, run_underlying ht, sizeOf, typeInfo, hi, Builtin.lenOf, hroom, hf, hst]
section
variable {w : World} {ops : Array Oper} {rest : List Oper} {o : Oper} {a : Act} {Q : Exit → Act → World → Prop}
theorem wl_app8_stay (hgd : o.guard = none) (s x : Operand) (ho : o.op = .call { callee := .builtin .append, args := #[s, x], argTypes := #[22, 22] })
    {base : Nat} {A S : Option Addr} {n c m cs : Nat} {l k : List UInt8} (hs : a.eval s = .slice A n c) (hx : a.eval x = .slice S m cs)
    (hown : Own8 w base A n c l) (hr : Rd8 w S m k) (hroom : n + m ≤ c)
    (h : ∀ v w', (v = .slice A (n + m) c ∧ Own8 w' base A (n + m) c (l ++ k) ∧ w.grownBy w' (ownBlk A c)) → wpList Try.prog ops Q rest (a.put o.dst v) w') : wpList Try.prog ops Q (o :: rest) a w := by
  obtain ⟨i0, hi, hz0, hz1, hz2⟩ := info_parts info5
  obtain ⟨w', hrun, hap⟩ := run_append_stay (P := Try.prog) base 22 o.type 5 i0 1 Try.underlying22 hi hz1 A n c (bc l) hown S m cs (bc k) hr (bc_one k) hroom
  refine wpList_run w hgd s x 22 22 ho _ _ hs hx (R := fun v w' => v = .slice A (n + m) c ∧ Own8 w' base A (n + m) c (l ++ k) ∧ w.grownBy w' (ownBlk A c)) ⟨_, w', hrun, rfl, ?_, hap.2.1⟩ h
  have := hap.1
  rw [← bc_append] at this
  exact this
end
/-- Bytes in new memory, of which the address is known. -/
def Ret8w (w0 : World) (l : List UInt8) (e : Ending) (w' : World) : Prop :=
  ∃ A n c, e = .returned (.slice A n c) ∧ Own8 w' w0.heap.size A n c l ∧ Below w0.heap.size w0 w' ∧ ∀ ad, A = some ad → w0.heap.size ≤ ad.block ∧ ad.block < w'.heap.size
set_option maxRecDepth 100000 in
set_option maxHeartbeats 400000 in
theorem bytes66w (A : Option Addr) (n c : Nat) (l : List UInt8) (w : World) (h : Rd8 w A n l) (hn : n ≤ 140737488355328) : Calls Try.prog 66 #[.slice A n c] w (Ret8w w l) := by
  by_cases hz : n = 0
  · subst hz
    go_enter Try.func66, Try.ntmps66
    go_wp2_with (first | (at_builtin; refine wl_app8_stay rfl (.tmp 3) (.tmp 4) rfl rfl rfl (Own8.nil_ _ w.heap.size _) (Rd8.below h ((Below.refl _ _).alloc (Nat.le_refl _) _)) (by omega) ?_; rintro v w1 ⟨rfl, hown, hg⟩))
    go_ret
    simp only [Nat.zero_add, List.nil_append] at hown ⊢
    have hs := hg.size
    rw [World.size_alloc] at hs
    exact ⟨_, _, _, rfl, hown, below_app ((Below.refl _ _).alloc (Nat.le_refl _) _) (by simp) (Own8.nil_ _ _ _) hg, fun ad e => by injection e with e; subst e; exact ⟨Nat.le_refl _, hs⟩⟩
  · go_enter Try.func66, Try.ntmps66
    go_wp2_with (first | (at_builtin; refine wl_app8 rfl (.tmp 3) (.tmp 4) rfl rfl rfl (Own8.nil_ _ w.heap.size _) (Rd8.below h ((Below.refl _ _).alloc (Nat.le_refl _) _)) (by omega) (by simp) ?_; rintro v w1 ⟨A', c', rfl, hown, hg, _⟩))
    go_ret
    simp only [Nat.zero_add, List.nil_append] at hown ⊢
    refine ⟨_, _, _, rfl, hown, below_app ((Below.refl _ _).alloc (Nat.le_refl _) _) (by simp) (Own8.nil_ _ _ _) hg, fun ad e => ?_⟩
    subst e
    exact Own.lt hown (g := ad.block) (by have := (Own8.le hown).1; simp [ownBlk]; omega)
end Go.Proofs.Ytkgdcglnkodgnaa
namespace Go.Proofs.Ytkgdcglnkodgnaa
open Go.RowKit
attribute [local go_sem] Oper.semAt_some
theorem one_load' {w : World} {g T : Nat} {a : Value} (h : w.heap[g]? = some (.cells #[a] T (0, 0))) : w.cell? ⟨g, 0, none⟩ = some a := (cell_of_row _ _ 0 _ _ _ h).trans rfl
/-- What the iterator reads. -/
def ProtL (gw bw br : Nat) (A : Option Addr) : Nat → Prop := fun k => k = gw ∨ k = bw ∨ k = br ∨ ∃ ad, A = some ad ∧ k = ad.block
set_option maxRecDepth 100000 in
set_option maxHeartbeats 1000000 in
theorem all125 (gw : Nat) (root : Int) (w : World) :
    Calls Try.prog 125 #[.pointer (some ⟨gw, 0, none⟩), .int .i64 root] w fun e w' => e = .returned (.func (.func 160) #[] #[.pointer (some ⟨w.heap.size, 0, none⟩), .pointer (some ⟨w.heap.size + 1, 0, none⟩)]) ∧
      w' = (w.alloc (.cells #[.pointer (some ⟨gw, 0, none⟩)] 177)).alloc (.cells #[.int .i64 root] 3) := by
  have hmf : ∀ (fn : Fn) (first cap : Array Value) (w : World), (Instr.makeFunc fn first cap).run Try.prog w = .ok (.func fn first cap) w := fun _ _ _ _ => rfl
  go_enter Try.func125, Try.ntmps125
  go_wp2_with fail
  go_ret
  exact ⟨rfl, rfl⟩
set_option maxRecDepth 100000 in
set_option maxHeartbeats 2000000 in
theorem all_seq (q : Nat) (hq : 1 ≤ q) (gw bw br : Nat) (A : Option Addr) (n c : Nat) (l : List UInt8) (kind : UInt8) (key : ByteArray) (root : Int) (w : World) (hn : n ≤ 140737488355328) (hnc : n ≤ c) (hlo : -9223372036854775808 ≤ root) (hhi : root ≤ 9223372036854775807)
    (hA : ∀ ad, A = some ad → ad.block ≠ gw ∧ ad.block < w.heap.size) (hbw : w.heap[bw]? = some (.cells #[.pointer (some ⟨gw, 0, none⟩)] 177 (0, 0))) (hbr : w.heap[br]? = some (.cells #[.int .i64 root] 3 (0, 0)))
    (hw : WlkAt w gw A n c kind key (0, ⟨#[]⟩) 0) (hr : Rd8 w A n l) :
    SeqC Fence.wide q Try.prog 160 #[.pointer (some ⟨bw, 0, none⟩), .pointer (some ⟨br, 0, none⟩)] EncL (fun k => k = gw) (ProtL gw bw br A) (walkP l kind root key).1 (fun W => WlkAt W gw A n c kind key (walkP l kind root key).2.1 (walkP l kind root key).2.2)
      (fun _ W => ∃ s', WlkAt W gw A n c kind key s' 0) w := fun y J Jx W C0 hW hJ hJx hC0 hY h0 => by
  have k1 : W.heap[bw]? = some (.cells #[.pointer (some ⟨gw, 0, none⟩)] 177 (0, 0)) := (hW.block bw (Array.getElem?_eq_some_iff.1 hbw).1).trans hbw
  have k2 : W.heap[br]? = some (.cells #[.int .i64 root] 3 (0, 0)) := (hW.block br (Array.getElem?_eq_some_iff.1 hbr).1).trans hbr
  have k3 : WlkAt W gw A n c kind key (0, ⟨#[]⟩) 0 := (hW.block gw (Array.getElem?_eq_some_iff.1 hw).1).trans hw
  have HL := Hd.mk (leaves161 q y gw hq A n c l kind key hn hnc (fun ad e => (hA ad e).1) W.heap.size J Jx (walkP l kind root key).1 hJ hJx hY 14 root (-1) true (0, ⟨#[]⟩) [] C0 W k3 (hr.below hW) h0 (fun k h => (hC0 k h).1) (fun h => (hC0 _ h).2 (.inl rfl))
    (fun ad e => ⟨fun h => (hC0 _ h).2 (.inr (.inr (.inr ⟨ad, e, rfl⟩))), Nat.lt_of_lt_of_le (hA ad e).2 hW.size⟩) (goodW_start _ _) hlo hhi (.inl ⟨rfl, rfl⟩) (by rw [List.nil_append]; exact List.prefix_refl _))
  have x1 := one_load' k1
  have x2 := one_load' k2
  clear hY h0 hJ hJx k1 k2 k3 hw hr hbw hbr hW
  refine callsIn_of_wp Try.func160 rfl trivial ?_ rfl
  simp only [Try.ntmps160, List.size_toArray, List.length_cons, List.length_nil, Nat.reduceAdd, Nat.reduceSub, Array.replicate_succ, Array.replicate_zero, List.push_toArray, List.append_toArray, List.nil_append, List.cons_append]
  gi_wp2_with fail
  refine ⟨trivial, ?_⟩
  gi_at_call 161
  refine (callsIn_wide.2 HL.out).mono ?_
  rintro e w2 ⟨C2, _, _, _, _, hcase⟩
  rcases hcase with ⟨rfl, hJ2, hW2⟩ | ⟨rfl, pre', s', hp', hJ2, hW2⟩
  · have HZ := Hd.mk (And.intro hJ2 hW2)
    clear hJ2 hW2
    gi_wp2_with fail
    go_end0
    exact ⟨⟨_, rfl⟩, .inl ⟨C2, HZ.out.1, HZ.out.2⟩⟩
  · have HZ := Hd.mk (And.intro hp' (And.intro hJ2 hW2))
    clear hp' hJ2 hW2
    gi_wp2_with fail
    go_end0
    exact ⟨⟨_, rfl⟩, .inr ⟨pre', C2, HZ.out.1, HZ.out.2.1, s', HZ.out.2.2⟩⟩
end Go.Proofs.Ytkgdcglnkodgnaa
namespace Go.Proofs.Ytkgdcglnkodgnaa
open Go.RowKit
variable {F : Fence} {n : Nat} {P : Program}
theorem rangeC1 {α : Type} {g : Operand} {p1 : Nat} {assign body : Code} {Q : Exit → Act → World → Prop} {a : Act} {w : World}
    (hro : F.round = none) (h1 : 1 ≤ n) {gf : Nat} {lb : Array Value} (hg : a.eval g = .func (.func gf) #[] lb) (hFg : F.fn gf) (eg : ∀ args w, (callFunc gf args).run P w = .ok (.enter gf args) w)
    {Enc : α → Array Value → (Nat → Prop) → World → Prop} {G Prot : Nat → Prop} {L : List α} {T : World → Prop} {Tx : List α → World → Prop} {w0 : World} (hseq : SeqC F (n - 1) P gf lb Enc G Prot L T Tx w0)
    (hb0 : Below w0.heap.size w0 w) (hps : ∀ x vals C W, Enc x vals C W → ∃ v, vals = #[v]) (hProt : ∀ k, Prot k → k < w.heap.size)
    (hEnc : ∀ x vals (C C' : Nat → Prop) W l o o', W.heap[l]? = some o → o.isCells = false → (∀ k, C k → C' k) → Enc x vals C' W → Enc x vals C (W.putObj l o'))
    (hT : ∀ W l o o', w.heap.size ≤ l → W.heap[l]? = some o → o.isCells = false → T W → T (W.putObj l o')) (hTx : ∀ pre W l o o', w.heap.size ≤ l → W.heap[l]? = some o → o.isCells = false → Tx pre W → Tx pre (W.putObj l o'))
    (C0 : Nat → Prop) (hC0 : ∀ k, C0 k → k < w.heap.size ∧ ¬ Prot k) (post : Value → Array Value → Array Value)
    (I : List α → (Nat → Prop) → World → Prop) (Ix : Code → List α → (Nat → Prop) → World → Prop) (hI : AbidesC w.heap.size G I) (hIx : ∀ c, AbidesC w.heap.size G (Ix c)) (h0 : I [] C0 w)
    (hassign : ∀ (l : Nat) (x : α) (v : Value) (C : Nat → Prop) (W : World) (K : Act → World → Prop), Enc x #[v] C W → K { tmps := post v (a.tmps.setIfInBounds p1 v), defers := [] } W →
      assign.wpIn (F.inRound l) (n - 1 - 1) P (Exit.then K (fun _ _ _ => False)) { tmps := a.tmps.setIfInBounds p1 v, defers := [] } W)
    (hbody : ∀ (l : Nat) (pre : List α) (x : α) (v : Value) (C : Nat → Prop) (W : World), (∃ r, W.heap[l]? = some (.loop r)) → I pre C W → Enc x #[v] C W → (∀ k, C k → k < W.heap.size) → w.heap.size ≤ W.heap.size → pre ++ [x] <+: L →
      body.wpIn (F.inRound l) (n - 1 - 1) P (postC I Ix C (pre ++ [x]) W) { tmps := post v (a.tmps.setIfInBounds p1 v), defers := [] } W)
    (hdone : ∀ (D : Nat) (C : Nat → Prop) (W : World), w.heap.size ≤ D → ¬ C D → I L C W → T W → W.heap[D]? = some (.deferred (some [])) → Q .normal { a with defers := { target := .collected D, args := #[] } :: a.defers } W)
    (hstop : ∀ (D : Nat) (c : Code) (pre : List α) (C : Nat → Prop) (W : World), w.heap.size ≤ D → ¬ C D → pre <+: L → Ix c pre C W → Tx pre W → W.heap[D]? = some (.deferred (some [])) → c.wpIn F n P Q { a with defers := { target := .collected D, args := #[] } :: a.defers } W) :
    (Code.rangeFunc g #[p1] assign body).wpIn F n P Q a w :=
  wpIn_rangeC hro h1 hg hFg eg hseq hb0 (fun x vals C W h => by obtain ⟨v, rfl⟩ := hps x vals C W h; rfl) hProt hEnc hT hTx C0 hC0 I Ix hI hIx h0
    (fun _ vals => { tmps := post (vals.getD 0 undef) (a.tmps.setIfInBounds p1 (vals.getD 0 undef)), defers := [] })
    (fun l x vals C W K he hK => by obtain ⟨v, rfl⟩ := hps x vals C W he; simpa using hassign l x v C W K he (by simpa using hK))
    (fun l pre x vals C W hl hi he hC hs hp => by obtain ⟨v, rfl⟩ := hps x vals C W he; simpa using hbody l pre x v C W hl hi he hC hs hp) hdone hstop
theorem rangeC2 {α : Type} {g : Operand} {p1 p2 : Nat} {assign body : Code} {Q : Exit → Act → World → Prop} {a : Act} {w : World}
    (hro : F.round = none) (h1 : 1 ≤ n) {gf : Nat} {lb : Array Value} (hg : a.eval g = .func (.func gf) #[] lb) (hFg : F.fn gf) (eg : ∀ args w, (callFunc gf args).run P w = .ok (.enter gf args) w)
    {Enc : α → Array Value → (Nat → Prop) → World → Prop} {G Prot : Nat → Prop} {L : List α} {T : World → Prop} {Tx : List α → World → Prop} {w0 : World} (hseq : SeqC F (n - 1) P gf lb Enc G Prot L T Tx w0)
    (hb0 : Below w0.heap.size w0 w) (hps : ∀ x vals C W, Enc x vals C W → ∃ v u, vals = #[v, u]) (hProt : ∀ k, Prot k → k < w.heap.size)
    (hEnc : ∀ x vals (C C' : Nat → Prop) W l o o', W.heap[l]? = some o → o.isCells = false → (∀ k, C k → C' k) → Enc x vals C' W → Enc x vals C (W.putObj l o'))
    (hT : ∀ W l o o', w.heap.size ≤ l → W.heap[l]? = some o → o.isCells = false → T W → T (W.putObj l o')) (hTx : ∀ pre W l o o', w.heap.size ≤ l → W.heap[l]? = some o → o.isCells = false → Tx pre W → Tx pre (W.putObj l o'))
    (C0 : Nat → Prop) (hC0 : ∀ k, C0 k → k < w.heap.size ∧ ¬ Prot k) (post : Value → Value → Array Value → Array Value)
    (I : List α → (Nat → Prop) → World → Prop) (Ix : Code → List α → (Nat → Prop) → World → Prop) (hI : AbidesC w.heap.size G I) (hIx : ∀ c, AbidesC w.heap.size G (Ix c)) (h0 : I [] C0 w)
    (hassign : ∀ (l : Nat) (x : α) (v u : Value) (C : Nat → Prop) (W : World) (K : Act → World → Prop), Enc x #[v, u] C W → K { tmps := post v u ((a.tmps.setIfInBounds p1 v).setIfInBounds p2 u), defers := [] } W →
      assign.wpIn (F.inRound l) (n - 1 - 1) P (Exit.then K (fun _ _ _ => False)) { tmps := (a.tmps.setIfInBounds p1 v).setIfInBounds p2 u, defers := [] } W)
    (hbody : ∀ (l : Nat) (pre : List α) (x : α) (v u : Value) (C : Nat → Prop) (W : World), (∃ r, W.heap[l]? = some (.loop r)) → I pre C W → Enc x #[v, u] C W → (∀ k, C k → k < W.heap.size) → w.heap.size ≤ W.heap.size → pre ++ [x] <+: L →
      body.wpIn (F.inRound l) (n - 1 - 1) P (postC I Ix C (pre ++ [x]) W) { tmps := post v u ((a.tmps.setIfInBounds p1 v).setIfInBounds p2 u), defers := [] } W)
    (hdone : ∀ (D : Nat) (C : Nat → Prop) (W : World), w.heap.size ≤ D → ¬ C D → I L C W → T W → W.heap[D]? = some (.deferred (some [])) → Q .normal { a with defers := { target := .collected D, args := #[] } :: a.defers } W)
    (hstop : ∀ (D : Nat) (c : Code) (pre : List α) (C : Nat → Prop) (W : World), w.heap.size ≤ D → ¬ C D → pre <+: L → Ix c pre C W → Tx pre W → W.heap[D]? = some (.deferred (some [])) → c.wpIn F n P Q { a with defers := { target := .collected D, args := #[] } :: a.defers } W) :
    (Code.rangeFunc g #[p1, p2] assign body).wpIn F n P Q a w :=
  wpIn_rangeC hro h1 hg hFg eg hseq hb0 (fun x vals C W h => by obtain ⟨v, u, rfl⟩ := hps x vals C W h; rfl) hProt hEnc hT hTx C0 hC0 I Ix hI hIx h0
    (fun _ vals => { tmps := post (vals.getD 0 undef) (vals.getD 1 undef) ((a.tmps.setIfInBounds p1 (vals.getD 0 undef)).setIfInBounds p2 (vals.getD 1 undef)), defers := [] })
    (fun l x vals C W K he hK => by obtain ⟨v, u, rfl⟩ := hps x vals C W he; simpa using hassign l x v u C W K he (by simpa using hK))
    (fun l pre x vals C W hl hi he hC hs hp => by obtain ⟨v, u, rfl⟩ := hps x vals C W he; simpa using hbody l pre x v u C W hl hi he hC hs hp) hdone hstop
end Go.Proofs.Ytkgdcglnkodgnaa
namespace Go.Proofs.Ytkgdcglnkodgnaa
open Go.RowKit Go.Shelf
attribute [local go_sem] Oper.semAt_some
/-- A pair as it is told. -/
def EncP (x : Kp) (vals : Array Value) (_ : Nat → Prop) (_ : World) : Prop := vals = #[.string x.1, .int .i64 x.2]
set_option maxRecDepth 100000 in
set_option maxHeartbeats 1000000 in
theorem each74 (A : Option Addr) (n c : Nat) (kind : UInt8) (root : Int) (w : World) :
    Calls Try.prog 74 #[.slice A n c, .int .u8 (kind.toNat : Int), .int .i64 root] w fun e w' => e = .returned (.func (.func 124) #[] #[.pointer (some ⟨w.heap.size, 0, none⟩), .pointer (some ⟨w.heap.size + 1, 0, none⟩), .pointer (some ⟨w.heap.size + 1 + 1, 0, none⟩)]) ∧
      w' = ((w.alloc (.cells #[.slice A n c] 22)).alloc (.cells #[.int .u8 (kind.toNat : Int)] 5)).alloc (.cells #[.int .i64 root] 3) := by
  have hmf : ∀ (fn : Fn) (first cap : Array Value) (w : World), (Instr.makeFunc fn first cap).run Try.prog w = .ok (.func fn first cap) w := fun _ _ _ _ => rfl
  go_enter Try.func74, Try.ntmps74
  go_wp2_with fail
  go_ret
  exact ⟨rfl, rfl⟩
/-- What the iterator of pairs reads. -/
def ProtE (b1 b2 b3 : Nat) (A : Option Addr) : Nat → Prop := fun k => k = b1 ∨ k = b2 ∨ k = b3 ∨ ∃ ad, A = some ad ∧ k = ad.block
theorem four_boxes {W V : World} {a b c d : Obj} (hV : (((W.alloc a).alloc b).alloc c).alloc d = V) : V.heap[W.heap.size]? = some a ∧ V.heap[W.heap.size + 1]? = some b ∧ V.heap[W.heap.size + 1 + 1]? = some c ∧ V.heap[W.heap.size + 1 + 1 + 1]? = some d ∧
    Below W.heap.size W V ∧ V.heap.size = W.heap.size + 4 := by
  obtain ⟨V1, h1⟩ : ∃ V1, W.alloc a = V1 := ⟨_, rfl⟩
  obtain ⟨V2, h2⟩ : ∃ V2, V1.alloc b = V2 := ⟨_, rfl⟩
  obtain ⟨V3, h3⟩ : ∃ V3, V2.alloc c = V3 := ⟨_, rfl⟩
  rw [h1, h2, h3] at hV
  have s1 : V1.heap.size = W.heap.size + 1 := by rw [← h1]; simp
  have s2 : V2.heap.size = W.heap.size + 1 + 1 := by rw [← h2]; simp [s1]
  have s3 : V3.heap.size = W.heap.size + 1 + 1 + 1 := by rw [← h3]; simp [s2]
  have n1 : V1.heap[W.heap.size]? = some a := by rw [← h1]; exact World.alloc_heap_new W a
  have n2 : V2.heap[W.heap.size + 1]? = some b := by rw [← h2, ← s1]; exact World.alloc_heap_new V1 b
  have n3 : V3.heap[W.heap.size + 1 + 1]? = some c := by rw [← h3, ← s2]; exact World.alloc_heap_new V2 c
  have n4 : V.heap[W.heap.size + 1 + 1 + 1]? = some d := by rw [← hV, ← s3]; exact World.alloc_heap_new V3 d
  have b1 : Below V1.heap.size V1 V2 := by rw [← h2]; exact (Below.refl _ _).alloc (Nat.le_refl _) _
  have b2 : Below V2.heap.size V2 V3 := by rw [← h3]; exact (Below.refl _ _).alloc (Nat.le_refl _) _
  have b3 : Below V3.heap.size V3 V := by rw [← hV]; exact (Below.refl _ _).alloc (Nat.le_refl _) _
  have b0 : Below W.heap.size W V1 := by rw [← h1]; exact (Below.refl _ _).alloc (Nat.le_refl _) _
  have b23 : Below V2.heap.size V2 V := b2.trans (b3.mono (by omega))
  have b13 : Below V1.heap.size V1 V := b1.trans (b23.mono (by omega))
  refine ⟨(b13.block _ (by omega)).trans n1, (b23.block _ (by omega)).trans n2, (b3.block _ (by omega)).trans n3, n4, b0.trans (b13.mono (by omega)), ?_⟩
  rw [← hV]; simp [s3]
theorem round_any {P : Program} {n m y l' f : Nat} {tmps : Array Value} {assign body : Code} {w : World} {R : Ending → World → Prop} (h : RoundIn Fence.wide n P y f tmps assign body w R) : RoundIn (Fence.wide.inRound l') m P y f tmps assign body w R :=
  ⟨trivial, fun c cs _ => h.2 c cs (room_wide _)⟩
theorem encL_put {x : List Kp} {vals : Array Value} {C C' : Nat → Prop} {W : World} {l : Nat} {o o' : Obj} (ho : W.heap[l]? = some o) (hc : o.isCells = false) (hC : ∀ k, C k → C' k) (h : EncL x vals C' W) : EncL x vals C (W.putObj l o') := by
  obtain ⟨A, n, c, h1, h2, h3, h4, h5⟩ := h
  refine ⟨A, n, c, h1, ⟨h2.1, fun hn => ?_⟩, h3, h4, fun h0 ad e => ⟨fun hk => (h5 h0 ad e).1 (hC _ hk), by rw [size_putObj]; exact (h5 h0 ad e).2⟩⟩
  obtain ⟨ad, hA, hcell⟩ := h2.2 hn
  refine ⟨ad, hA, fun j u hu => ?_⟩
  have hx := hcell j u hu
  exact (grownBy_putObj' W l o').cell hx (by
    intro e
    injection e with e
    unfold World.cell? at hx
    rw [e, ho] at hx
    cases o <;> simp_all [Obj.isCells])
theorem wlk_put {W : World} {g : Nat} {A : Option Addr} {n c : Nat} {kind : UInt8} {key : ByteArray} {s : Wk} {e : Nat} {l : Nat} {o o' : Obj} (ho : W.heap[l]? = some o) (hc : o.isCells = false) (h : WlkAt W g A n c kind key s e) : WlkAt (W.putObj l o') g A n c kind key s e := by
  refine (World.putObj_heap_other ?_).trans h
  intro e1
  have h' : W.heap[g]? = _ := h
  first
    | (rw [e1, ho] at h'; injection h' with h'; subst h'; cases hc)
    | (rw [← e1, h'] at ho; injection ho with ho; subst ho; cases hc)
set_option maxRecDepth 100000 in
set_option maxHeartbeats 4000000 in
theorem each_seqC (q : Nat) (hq : 3 ≤ q) (b1 b2 b3 : Nat) (A : Option Addr) (n c : Nat) (l : List UInt8) (kind : UInt8) (root : Int) (w : World) (hn : n ≤ 140737488355328) (hnc : n ≤ c) (hlo : -9223372036854775808 ≤ root) (hhi : root ≤ 9223372036854775807)
    (hA : ∀ ad, A = some ad → ad.block < w.heap.size) (h1 : w.heap[b1]? = some (.cells #[.slice A n c] 22 (0, 0))) (h2 : w.heap[b2]? = some (.cells #[.int .u8 (kind.toNat : Int)] 5 (0, 0))) (h3 : w.heap[b3]? = some (.cells #[.int .i64 root] 3 (0, 0)))
    (hr : Rd8 w A n l) :
    SeqC Fence.wide q Try.prog 124 #[.pointer (some ⟨b1, 0, none⟩), .pointer (some ⟨b2, 0, none⟩), .pointer (some ⟨b3, 0, none⟩)] EncP (fun _ => False) (ProtE b1 b2 b3 A) (walkP l kind root ⟨#[]⟩).1.flatten (fun _ => True) (fun _ _ => True) w := fun y J Jx W C0 hW hJ hJx hC0 hY h0 => by
  have k1 : W.heap[b1]? = some (.cells #[.slice A n c] 22 (0, 0)) := (hW.block b1 (Array.getElem?_eq_some_iff.1 h1).1).trans h1
  have k2 : W.heap[b2]? = some (.cells #[.int .u8 (kind.toNat : Int)] 5 (0, 0)) := (hW.block b2 (Array.getElem?_eq_some_iff.1 h2).1).trans h2
  have k3 : W.heap[b3]? = some (.cells #[.int .i64 root] 3 (0, 0)) := (hW.block b3 (Array.getElem?_eq_some_iff.1 h3).1).trans h3
  have x1 := one_load' k1
  have x2 := one_load' k2
  have x3 := one_load' k3
  have y1 : ∀ o, (W.alloc o).cell? ⟨b1, 0, none⟩ = some (.slice A n c) := fun o => (((Below.refl W.heap.size W).alloc (Nat.le_refl _) o).cell (cell_lt x1)).trans x1
  have y2 : ∀ o, (W.alloc o).cell? ⟨b2, 0, none⟩ = some (.int .u8 (kind.toNat : Int)) := fun o => (((Below.refl W.heap.size W).alloc (Nat.le_refl _) o).cell (cell_lt x2)).trans x2
  have y3 : ∀ o o', ((W.alloc o).alloc o').cell? ⟨b3, 0, none⟩ = some (.int .i64 root) := fun o o' => ((((Below.refl W.heap.size W).alloc (Nat.le_refl _) o).alloc (by simp) o').cell (cell_lt x3)).trans x3
  have hmf : ∀ (fn : Fn) (first cap : Array Value) (w : World), (Instr.makeFunc fn first cap).run Try.prog w = .ok (.func fn first cap) w := fun _ _ _ _ => rfl
  refine callsIn_of_wp_marks Try.func124 rfl trivial ?_ rfl
  simp only [Try.ntmps124, List.size_toArray, List.length_cons, List.length_nil, Nat.reduceAdd, Nat.reduceSub, Array.replicate_succ, Array.replicate_zero, List.push_toArray, List.append_toArray, List.nil_append, List.cons_append]
  gi_wp2_with fail
  refine ⟨trivial, fun h => by simp [Fence.wide] at h, ?_⟩
  refine (callsIn_wide.2 (all125 _ _ _)).mono ?_
  rintro e w2 ⟨rfl, rfl⟩
  obtain ⟨V, hV⟩ : ∃ V, ((((W.alloc (.cells #[.func (.yield y) #[] #[]] 176)).alloc (.cells #[.slice A n c, .int .u8 (kind.toNat : Int), .string ⟨#[]⟩, .string ⟨#[]⟩, .int .i64 0, .int .i64 0] 179)).alloc (.cells #[.pointer (some ⟨W.heap.size + 1, 0, none⟩)] 177)).alloc (.cells #[.int .i64 root] 3)) = V := ⟨_, rfl⟩
  obtain ⟨v1, v2, v3, v4, vb, vs⟩ := four_boxes hV
  have vr : Rd8 V A n l := (hr.below hW).below vb
  have vw : WlkAt V (W.heap.size + 1) A n c kind ⟨#[]⟩ (0, ⟨#[]⟩) 0 := v2
  gi_wp2_with fail
  try rw [hV]
  clear hV y1 y2 y3 x1 x2 x3 k1 k2 k3 hmf
  refine rangeC1 (p1 := 16) rfl (by omega) (gf := 160) (lb := #[.pointer (some ⟨W.heap.size + 1 + 1, 0, none⟩), .pointer (some ⟨W.heap.size + 1 + 1 + 1, 0, none⟩)]) rfl trivial (enters_of Try.func160 (by kernel_rfl) rfl)
    (all_seq (q - 1) (by omega) (W.heap.size + 1) (W.heap.size + 1 + 1) (W.heap.size + 1 + 1 + 1) A n c l kind ⟨#[]⟩ root V hn hnc hlo hhi (fun ad e => by have := hA ad e; have := hW.size; omega) v3 v4 vw vr) (Below.refl _ _)
    (fun x vals C W h => by obtain ⟨A, n, c, h, _⟩ := h; exact ⟨_, h⟩) (fun k hk => by rcases hk with rfl | rfl | rfl | ⟨ad, e, rfl⟩; (· omega); (· omega); (· omega); (· have := hA ad e; have := hW.size; omega))
    (fun x vals C C' W l o o' ho hc hC h => encL_put ho hc hC h) (fun W l o o' _ ho hc h => wlk_put ho hc h) (fun pre W l o o' _ ho hc h => by obtain ⟨s', h⟩ := h; exact ⟨s', wlk_put ho hc h⟩)
    C0 (fun k hk => ⟨by have := (hC0 k hk).1; omega, fun hp => by rcases hp with e | e | e | ⟨ad, e, e'⟩; (· have := (hC0 k hk).1; omega); (· have := (hC0 k hk).1; omega); (· have := (hC0 k hk).1; omega); (· exact (hC0 k hk).2 (.inr (.inr (.inr ⟨ad, e, e'⟩))))⟩)
    (fun v t => t.setIfInBounds 6 v)
    (fun pre C W' => (∃ C2 : Nat → Prop, (∀ k, C2 k → C k) ∧ J pre.flatten C2 W') ∧ W'.heap[W.heap.size]? = some (.cells #[.func (.yield y) #[] #[]] 176 (0, 0)) ∧ ¬ C W.heap.size ∧ W.heap.size < W'.heap.size)
    (fun cd _ C W' => cd = .ret ∧ ∃ (pre2 : List Kp) (C2 : Nat → Prop), (∀ k, C2 k → C k) ∧ pre2 <+: (walkP l kind root ⟨#[]⟩).1.flatten ∧ Jx pre2 C2 W') ?hI ?hIx ?h0 ?assign ?body ?done ?stop
  case hI =>
    rintro s C X Y row ⟨⟨C2, hC2, hj⟩, hbx, hCb, hlt⟩ hg hrow
    exact ⟨⟨C2, hC2, hJ _ _ _ _ row hj hg (fun r e => ⟨fun h => (hrow r e).1 (hC2 r h), (hrow r e).2.elim (fun h => .inl (by omega)) (fun h => .inl (by omega))⟩)⟩,
      (hg.block _ hlt (fun e => (hrow _ e.symm).2.elim (fun h => by omega) (fun h => by omega))).trans hbx, hCb, Nat.lt_of_lt_of_le hlt hg.size⟩
  case hIx =>
    rintro cd s C X Y row ⟨rfl, pre2, C2, hC2, hp2, hj⟩ hg hrow
    exact ⟨rfl, pre2, C2, hC2, hp2, hJx _ _ _ _ row hj hg (fun r e => ⟨fun h => (hrow r e).1 (hC2 r h), (hrow r e).2.elim (fun h => .inl (by omega)) (fun h => .inl (by omega))⟩)⟩
  case h0 => exact ⟨⟨C0, fun k h => h, hJ.below vb h0⟩, v1, fun h => by have := (hC0 _ h).1; omega, by omega⟩
  case assign =>
    intro r x v C W' K he hK
    gi_wp2
    exact hK
  case done =>
    rintro D C W' hD hCD ⟨⟨C2, hC2, hj⟩, hbx, hCb, hlt⟩ _ hk
    have hj2 := Hd.mk (hJ _ _ _ _ (some D) hj (grownBy_putObj' W' D (.deferred none)) (fun r e => by cases e; exact ⟨fun h => hCD (hC2 _ h), .inl (by omega)⟩))
    gi_wp2
    refine ⟨by simp, .inl ⟨_, _, rfl, run_takeDeferred hk, ?_⟩⟩
    refine ⟨.tuple #[], by simp [results, Try.f124, go_sem], ⟨_, rfl⟩, .inl ⟨C2, hj2.out, trivial⟩⟩
  case stop =>
    rintro D cd pre C W' hD hCD hp ⟨rfl, pre2, C2, hC2, hp2, hj⟩ _ hk
    have hj2 := Hd.mk (hJx _ _ _ _ (some D) hj (grownBy_putObj' W' D (.deferred none)) (fun r e => by cases e; exact ⟨fun h => hCD (hC2 _ h), .inl (by omega)⟩))
    gi_wp2
    refine ⟨by simp, .inl ⟨_, _, rfl, run_takeDeferred hk, ?_⟩⟩
    refine ⟨.tuple #[], by simp [results, Try.f124, go_sem], ⟨_, rfl⟩, .inr ⟨pre2, C2, hp2, hj2.out, trivial⟩⟩
  case body =>
    rintro r pre x v C W' hl ⟨⟨C2, hC2, hj⟩, hbx, hCb, hlt⟩ ⟨A1, n1, c1, hv, hRx, hn1, hc1, hAx⟩ hCl hsz hp
    obtain rfl : v = .slice A1 n1 c1 := by simpa using hv
    have hxl := Hd.mk (RdK.len hRx)
    have hPf : Hd (∀ i, i < n1 → ∀ p, x[i]? = some p → pre.flatten ++ x.take i ++ [p] <+: (walkP l kind root ⟨#[]⟩).1.flatten) := ⟨fun i hi p hx => by
      obtain ⟨t, ht⟩ := hp
      rw [← ht]
      have e1 : x.take i ++ [p] = x.take (i + 1) := by rw [List.take_add_one, hx]; rfl
      rw [List.append_assoc, e1, List.flatten_append, List.flatten_append]
      refine ⟨x.drop (i + 1) ++ t.flatten, ?_⟩
      simp only [List.flatten_cons, List.flatten_nil, List.append_nil, List.append_assoc]
      rw [← List.append_assoc (x.take (i + 1)), List.take_append_drop]⟩
    have HJ0 := Hd.mk hj
    have HC2 := Hd.mk hC2
    have HRx := Hd.mk hRx
    have HBX := Hd.mk hbx
    have HCl := Hd.mk hCl
    have HCb := Hd.mk hCb
    have HAx := Hd.mk hAx
    have HJA := Hd.mk hJ
    have HYY := Hd.mk hY
    clear hj hC2 hRx hbx hCl hCb hAx hY hp hv hJx
    simp only [List.setIfInBounds_toArray, List.set_cons_zero, List.set_cons_succ]
    gi_wp2_with fail
    gi_loopw [19, 8] (fun iv _ wr => ∃ (i : Nat) (Ci : Nat → Prop), iv = .int .i64 (i : Int) ∧ i ≤ n1 ∧ Hd (J (pre.flatten ++ x.take i) Ci wr) ∧ Hd (∀ k, Ci k → C k ∨ W'.heap.size ≤ k) ∧ Hd (∀ k, Ci k → k < wr.heap.size) ∧ Hd (Tch C W' wr) ∧ Hd (RdK wr A1 n1 x) ∧ Hd (wr.heap[W.heap.size]? = some (.cells #[.func (.yield y) #[] #[]] 176 (0, 0))))
      (fun iv _ _ => n1 - (intOf iv).toNat)
    case atStart => exact ⟨0, C2, rfl, by omega, ⟨by simpa using HJ0.out⟩, ⟨fun k h => .inl (HC2.out k h)⟩, ⟨fun k h => HCl.out k (HC2.out k h)⟩, ⟨Tch.refl _ _⟩, HRx, HBX⟩
    case round =>
      obtain ⟨i, Ci, rfl, hi, hJi, hCi, hCs, hT, hR, hB⟩ := hrel
      by_cases hlt2 : i < n1
      · obtain ⟨p, hp0⟩ : ∃ p, Hd (x[i]? = some p) := ⟨x[i]'(by have := hxl.out; omega), ⟨List.getElem?_eq_getElem _⟩⟩
        obtain ⟨ad, rfl, y0, y1⟩ := RdK.get hR.out hp0.out
        have HW5 := Hd.mk (show Below wr.heap.size wr (wr.alloc (.cells #[.string p.1, .int .i64 p.2] 113)) from (Below.refl _ _).alloc (Nat.le_refl _) _)
        have hsT := hT.out.size
        obtain ⟨W5, hW5⟩ : ∃ W5, Hd (wr.alloc (.cells #[.string p.1, .int .i64 p.2] 113) = W5) := ⟨_, ⟨rfl⟩⟩
        rw [hW5.out] at HW5
        obtain ⟨fn, tm, asn, bd, hy, hRR⟩ := HYY.out (pre.flatten ++ x.take i) p #[.string p.1, .int .i64 p.2] Ci W5 (HJA.out.below HW5.out hJi.out) (hPf.out i hlt2 p hp0.out) rfl (fun k h => Nat.lt_of_lt_of_le (hCs.out k h) HW5.out.size)
        have HRR := Hd.mk hRR
        rw [← hW5.out] at hy
        have z0 : (wr.alloc (.cells #[.string p.1, .int .i64 p.2] 113)).cell? ⟨W.heap.size, 0, none⟩ = some (.func (.yield y) #[] #[]) := one_load' ((((Below.refl wr.heap.size wr).alloc (Nat.le_refl _) _).block _ (Array.getElem?_eq_some_iff.1 hB.out).1).trans hB.out)
        have hlti : (i : Int) < (n1 : Int) := by omega
        have hi00 : (0 : Int) ≤ (i : Int) := by omega
        clear hRR
        gi_wp2_with fail
        rw [hW5.out]
        refine ⟨fun h => by simp [Fence.wide] at h, ?_⟩
        refine (round_any HRR.out).mono ?_
        rintro e W6 ⟨hcase, ht6⟩
        have hs5 := HW5.out.size
        have hs6 := ht6.size
        have HC6 : Hd (∀ k, up Ci W5 W6 k → C k ∨ W'.heap.size ≤ k) := ⟨fun k h => by
          rcases h with h | h
          · exact hCi.out k h
          · right; omega⟩
        have HS6 : Hd (∀ k, up Ci W5 W6 k → k < W6.heap.size) := ⟨fun k h => by
          rcases h with h | h
          · have := hCs.out k h; omega
          · exact h.2⟩
        have HT6 : Hd (Tch C W' W6) := ⟨(hT.out.trans (Tch.of_below HW5.out)).trans (ht6.mono fun k hk h => (hCi.out k h).elim (fun h => .inl h) (fun h => .inr ⟨h, hk⟩))⟩
        have HR6 : Hd (RdK W6 (some ad) n1 x) := ⟨RdK.tch' (Rd.below hR.out HW5.out) ht6 (fun ad' e h => by
          injection e with e
          subst e
          have h1 := HAx.out (by omega) ad rfl
          exact (hCi.out _ h).elim h1.1 (fun h => by omega))⟩
        have HB6 : Hd (W6.heap[W.heap.size]? = some (.cells #[.func (.yield y) #[] #[]] 176 (0, 0))) := ⟨(ht6.block _ (by have := (Array.getElem?_eq_some_iff.1 hB.out).1; omega) (fun h => (hCi.out _ h).elim HCb.out (fun h => by omega))).trans ((HW5.out.block _ (Array.getElem?_eq_some_iff.1 hB.out).1).trans hB.out)⟩
        have hx1 : x.take i ++ [p] = x.take (i + 1) := by rw [List.take_add_one, hp0.out]; rfl
        rcases hcase with ⟨rfl, hj6⟩ | ⟨rfl, hj6⟩
        · have HJ6 : Hd (J (pre.flatten ++ x.take (i + 1)) (up Ci W5 W6) W6) := ⟨by rw [← hx1, ← List.append_assoc]; exact hj6⟩
          clear hj6 ht6 hx1 HRR hy
          gi_wp2_with fail
          go_roundw
          case rel => exact ⟨i + 1, _, by go_num, by omega, HJ6, HC6, HS6, HT6, HR6, HB6⟩
          case measure => simp [intOf]; omega
        · have HJ6 := Hd.mk hj6
          have hpf := Hd.mk (hPf.out i hlt2 p hp0.out)
          have hsub : Hd (∀ k, up Ci W5 W6 k → up C W' W6 k) := ⟨fun k h => (HC6.out k h).imp id (fun h2 => ⟨h2, HS6.out k h⟩)⟩
          clear hj6 ht6 hx1 HRR hy
          gi_wp2_with fail
          exact ⟨HT6.out, rfl, _, _, hsub.out, hpf.out, HJ6.out⟩
      · obtain rfl : i = n1 := by omega
        have hlti : ¬ ((i : Int) < (i : Int)) := by omega
        have hsub : Hd (∀ k, Ci k → up C W' wr k) := ⟨fun k h => (hCi.out k h).imp id (fun h2 => ⟨h2, hCs.out k h⟩)⟩
        have HJ6 : Hd (J (pre ++ [x]).flatten Ci wr) := ⟨by
          have := hJi.out
          rw [List.take_of_length_le (by rw [hxl.out]; exact Nat.le_refl _)] at this
          simpa using this⟩
        have hnb : Hd (¬ up C W' wr W.heap.size) := ⟨fun h => h.elim HCb.out (fun h => by omega)⟩
        clear hJi
        gi_wp2_with fail
        exact ⟨hT.out, ⟨Ci, hsub.out, HJ6.out⟩, hB.out, hnb.out, (Array.getElem?_eq_some_iff.1 hB.out).1⟩
end Go.Proofs.Ytkgdcglnkodgnaa
namespace Go.Proofs.Ytkgdcglnkodgnaa
open Go.RowKit Go.Shelf
attribute [local go_sem] Oper.semAt_some
section
variable {F : Fence} {k0 : Nat} {w : World} {ops : Array Oper} {rest : List Oper} {o : Oper} {a : Act} {Q : Exit → Act → World → Prop}
/-- append(s, x...) under a fence: pairs. -/
theorem wlIn_appK (hgd : o.guard = none) (s x : Operand) (ho : o.op = .call { callee := .builtin .append, args := #[s, x], argTypes := #[84, 84] })
    {base : Nat} {A S : Option Addr} {n c m cs : Nat} {l k : List Kp} (hs : a.eval s = .slice A n c) (hx : a.eval x = .slice S m cs)
    (hown : OwnK w base A n c l) (hr : RdK w S m k) (hb : n + m ≤ 4398046511104) (hbase : base ≤ w.heap.size)
    (h : ∀ v w', AppK w base A c (n + m) (l ++ k) v w' → wpListIn F k0 Try.prog ops Q rest (a.put o.dst v) w') : wpListIn F k0 Try.prog ops Q (o :: rest) a w := by
  obtain ⟨i0, hi, hz0, hz1, hz2⟩ := info_parts info113
  obtain ⟨A', c', w', hrun, hap⟩ := run_append_rd (P := Try.prog) w base 84 o.type 113 i0 _ 2 24 Try.underlying84 hi hz0 hz1 hz2 rfl A n c (kc l) hown S m cs (kc k) hr (kc_one k) (by unfold maxLen; omega) (by omega) hbase
  refine wpListIn_plain hgd fun K hK => ?_
  unfold Oper.wpIn
  refine ⟨?_, ?_⟩
  · simp [Oper.about, ho, resolve, Target.leads, Sem.run_pure]
  · rw [Oper.semAt_plain F _ _ (by rw [ho]; intro c hc'; cases hc')]
    unfold execOp
    simp only [ho, resolve, invoke, builtin, Sem.run_bind, Sem.run_pure, Result.andThen_ok, List.map_toArray, List.map_cons, List.map_nil, hs, hx, hrun]
    refine hK _ _ (h _ _ ⟨A', c', rfl, ?_, hap.2⟩)
    have := hap.1
    rw [← kc_append] at this
    exact this
end
theorem fromL_few {b : List UInt8} {kind : UInt8} {root : Int} (key : ByteArray) : (fromL key (walkP b kind root key).1).length ≤ 4194304 := by
  obtain ⟨h1, h2⟩ := nodeR_root (b := b) (kind := kind) (q := ⟨1099511627776, key, false⟩) rfl (by simp) root ⟨#[]⟩
  have hg := nodeR_good (b := b) (kind := kind) (q := ⟨1099511627776, key, false⟩) 14 root (-1) true ⟨#[]⟩ startR (goodR_start b kind)
  have hb := hg.mn.bound
  have ho := hg.o
  simp only at hb h1 h2
  by_cases hf : (1099511627776 : Int) ≤ ((fromL key (walkP b kind root key).1).length : Int)
  · have h3 := (h1 hf).2
    rw [h3, List.length_take] at ho
    omega
  · have h3 := (h2 (by omega)).1
    rw [← h3]; omega
theorem fromL_pre {key : ByteArray} {P L : List (List Kp)} (h : P <+: L) : fromL key P <+: fromL key L := by
  obtain ⟨t, rfl⟩ := h
  rw [fromL_append]
  exact ⟨_, rfl⟩
theorem fromL_one {key : ByteArray} {pre : List (List Kp)} {x : List Kp} {i : Nat} {p : Kp} (hp : x[i]? = some p) :
    fromL key (pre ++ [x.take (i + 1)]) = if leK key p.1 = true then fromL key (pre ++ [x.take i]) ++ [p] else fromL key (pre ++ [x.take i]) := by
  have e : x.take (i + 1) = x.take i ++ [p] := by rw [List.take_add_one, hp]; rfl
  simp only [fromL, e, List.flatten_append, List.flatten_cons, List.flatten_nil, List.append_nil, List.filter_append]
  by_cases h : leK key p.1 = true
  · rw [if_pos h]; simp [h]
  · rw [if_neg h]; simp [h]
theorem take_snoc_lt {l : List Kp} {p : Kp} {m : Nat} (h : (l.take m).length < m) : (l ++ [p]).take m = l.take m ++ [p] := by
  rw [List.length_take] at h
  rw [List.take_of_length_le (l := l) (by omega), List.take_of_length_le (by simp; omega)]
theorem take_snoc_ge {l : List Kp} {p : Kp} {m : Nat} (h : ¬ (l.take m).length < m) : (l ++ [p]).take m = l.take m := by
  rw [List.length_take] at h
  rw [List.take_append_of_le_length (by omega)]
/-- From's memory between two rounds: B is the heap's size ahead of it. -/
structure FmS (w : World) (key : ByteArray) (most : Int) (out : List Kp) (C : Nat → Prop) (O : Option Addr) (on oc : Nat) (W : World) : Prop where
  kb : W.heap[w.heap.size]? = some (.cells #[.string key] 9 (0, 0))
  mb : W.heap[w.heap.size + 1]? = some (.cells #[.int .i64 most] 3 (0, 0))
  ob : W.heap[w.heap.size + 1 + 1 + 1]? = some (.cells #[.slice O on oc] 84 (0, 0))
  own : OwnK W (w.heap.size + 6) O on oc out
  oC : ∀ k, ownBlk O oc = some k → C k
  bC : C (w.heap.size + 1 + 1 + 1)
  C0 : ∀ k, C k → k = w.heap.size + 1 + 1 + 1 ∨ w.heap.size + 6 ≤ k
  bel : Below w.heap.size w W
theorem FmS.below {w : World} {key : ByteArray} {most : Int} {out : List Kp} {C : Nat → Prop} {O : Option Addr} {on oc : Nat} {W W' : World} (h : FmS w key most out C O on oc W) (hb : Below W.heap.size W W') : FmS w key most out C O on oc W' :=
  ⟨(hb.block _ (Array.getElem?_eq_some_iff.1 h.kb).1).trans h.kb, (hb.block _ (Array.getElem?_eq_some_iff.1 h.mb).1).trans h.mb, (hb.block _ (Array.getElem?_eq_some_iff.1 h.ob).1).trans h.ob, Own.below h.own hb, h.oC, h.bC, h.C0, h.bel.trans (hb.mono h.bel.size)⟩
theorem FmS.grown {w : World} {key : ByteArray} {most : Int} {out : List Kp} {C : Nat → Prop} {O : Option Addr} {on oc : Nat} {W W' : World} {row : Option Nat} (h : FmS w key most out C O on oc W) (hg : W.grownBy W' row)
    (hr : ∀ r, row = some r → ¬ C r ∧ (w.heap.size + 6 ≤ r ∨ r = w.heap.size + 1 + 1)) : FmS w key most out C O on oc W' := by
  refine ⟨(hg.block _ (Array.getElem?_eq_some_iff.1 h.kb).1 (fun e => ?_)).trans h.kb, (hg.block _ (Array.getElem?_eq_some_iff.1 h.mb).1 (fun e => ?_)).trans h.mb, (hg.block _ (Array.getElem?_eq_some_iff.1 h.ob).1 (fun e => ?_)).trans h.ob,
    Own.grown h.own hg (fun x hx e => (hr x (by rw [← e])).1 (h.oC x hx)), h.oC, h.bC, h.C0, h.bel.grown hg h.bel.size (fun k e => ?_)⟩
  · have := (hr _ e.symm).2; omega
  · have := (hr _ e.symm).2; omega
  · exact (hr _ e.symm).1 h.bC
  · have := (hr k e).2; omega
theorem FmS.mono {w : World} {key : ByteArray} {most : Int} {out : List Kp} {C C' : Nat → Prop} {O : Option Addr} {on oc : Nat} {W : World} (h : FmS w key most out C O on oc W) (hC : ∀ k, C k → C' k) (h0 : ∀ k, C' k → k = w.heap.size + 1 + 1 + 1 ∨ w.heap.size + 6 ≤ k) : FmS w key most out C' O on oc W :=
  ⟨h.kb, h.mb, h.ob, h.own, fun k e => hC k (h.oC k e), hC _ h.bC, h0, h.bel⟩
theorem FmS.app {w : World} {key : ByteArray} {most : Int} {out : List Kp} {C : Nat → Prop} {O : Option Addr} {on oc : Nat} {W W' : World} {v : Value} {p : Kp} (h : FmS w key most out C O on oc W) (hs : w.heap.size + 6 ≤ W.heap.size) (ha : AppK W (w.heap.size + 6) O oc (on + 1) (out ++ [p]) v W') :
    ∃ O' oc', v = .slice O' (on + 1) oc' ∧ W'.heap[w.heap.size + 1 + 1 + 1]? = some (.cells #[.slice O on oc] 84 (0, 0)) ∧ FmS w key most (out ++ [p]) (up C W (W'.setCell ⟨w.heap.size + 1 + 1 + 1, 0, none⟩ v)) O' (on + 1) oc' (W'.setCell ⟨w.heap.size + 1 + 1 + 1, 0, none⟩ v) ∧ Tch C W (W'.setCell ⟨w.heap.size + 1 + 1 + 1, 0, none⟩ v) := by
  obtain ⟨O', oc', rfl, o, g2, hcase⟩ := ha
  have hlt := fun k e => (Own.lt h.own (g := k) e).1
  have hg := fun k (hk : k < w.heap.size + 6) (hk2 : k < W.heap.size) => g2.block k hk2 (fun e => by have := hlt k e.symm; omega)
  have hob : W'.heap[w.heap.size + 1 + 1 + 1]? = some (.cells #[.slice O on oc] 84 (0, 0)) := (hg _ (by omega) (by omega)).trans h.ob
  have gs := grown_cell (w := W') (g := w.heap.size + 1 + 1 + 1) (i := 0) (Value.slice O' (on + 1) oc')
  have hso : ∀ k, k ≠ w.heap.size + 1 + 1 + 1 → (W'.setCell ⟨w.heap.size + 1 + 1 + 1, 0, none⟩ (.slice O' (on + 1) oc')).heap[k]? = W'.heap[k]? := fun k hk => heap_setCell_other W' ⟨w.heap.size + 1 + 1 + 1, 0, none⟩ k _ hk
  have hs2 := g2.size
  have hs3 := gs.size
  have ho2 : OwnK (W'.setCell ⟨w.heap.size + 1 + 1 + 1, 0, none⟩ (.slice O' (on + 1) oc')) (w.heap.size + 6) O' (on + 1) oc' (out ++ [p]) := Own.grown o gs (fun x hx e => by injection e with e; have := (Own.lt o hx).1; omega)
  refine ⟨O', oc', rfl, hob, ⟨(hso _ (by omega)).trans ((hg _ (by omega) (by omega)).trans h.kb), (hso _ (by omega)).trans ((hg _ (by omega) (by omega)).trans h.mb), (heap_setCell_same W' _ 0 _ 84 _ hob).trans rfl, ho2, fun k e => ?_, .inl h.bC, fun k hk => ?_, ?_⟩, ?_⟩
  · rcases hcase with ⟨e1, e2, _⟩ | e1
    · exact .inl (h.oC k (by rw [← e1, ← e2]; exact e))
    · right
      refine ⟨?_, (Own.lt ho2 e).2⟩
      unfold ownBlk at e
      split at e
      · cases e
      · rw [e1] at e; simp at e; omega
  · rcases hk with hk | hk
    · exact h.C0 k hk
    · right; omega
  · exact (h.bel.grown g2 h.bel.size (fun k e => by have := hlt k e; omega)).grown gs (by have := h.bel.size; omega) (fun k e => by injection e with e; omega)
  · exact (Tch.of_grown g2 (fun k e => .inl (h.oC k e))).trans (Tch.setCell _ _ _ 0 _ (.inl (.inl h.bC)))
theorem six_boxes {W V : World} {a b c d e f : Obj} (hV : V = (((((W.alloc a).alloc b).alloc c).alloc d).alloc e).alloc f) : V.heap[W.heap.size]? = some a ∧ V.heap[W.heap.size + 1]? = some b ∧ V.heap[W.heap.size + 1 + 1]? = some c ∧ V.heap[W.heap.size + 1 + 1 + 1]? = some d ∧
    V.heap[W.heap.size + 1 + 1 + 1 + 1]? = some e ∧ V.heap[W.heap.size + 1 + 1 + 1 + 1 + 1]? = some f ∧ Below W.heap.size W V ∧ V.heap.size = W.heap.size + 6 := by
  obtain ⟨V4, h4⟩ : ∃ V4, (((W.alloc a).alloc b).alloc c).alloc d = V4 := ⟨_, rfl⟩
  obtain ⟨v1, v2, v3, v4, vb, vs⟩ := four_boxes h4
  rw [h4] at hV
  have b4 : Below V4.heap.size V4 V := by rw [hV]; exact ((Below.refl _ _).alloc (Nat.le_refl _) _).alloc (by simp) _
  refine ⟨(b4.block _ (by omega)).trans v1, (b4.block _ (by omega)).trans v2, (b4.block _ (by omega)).trans v3, (b4.block _ (by omega)).trans v4, ?_, ?_, vb.trans (b4.mono (by omega)), by rw [hV]; simp; omega⟩
  · have h5 : (V4.alloc e).heap[V4.heap.size]? = some e := World.alloc_heap_new V4 e
    have b5 : Below (V4.alloc e).heap.size (V4.alloc e) V := by rw [hV]; exact (Below.refl _ _).alloc (Nat.le_refl _) _
    rw [show W.heap.size + 1 + 1 + 1 + 1 = V4.heap.size by omega]
    exact (b5.block _ (by simp)).trans h5
  · have h6 : ((V4.alloc e).alloc f).heap[(V4.alloc e).heap.size]? = some f := World.alloc_heap_new (V4.alloc e) f
    rw [hV, show W.heap.size + 1 + 1 + 1 + 1 + 1 = (V4.alloc e).heap.size by simp; omega]
    exact h6
set_option maxRecDepth 100000 in
set_option maxHeartbeats 4000000 in
theorem from79in (A : Option Addr) (n c : Nat) (l : List UInt8) (kind : UInt8) (root : Int) (key : ByteArray) (most : Int) (w : World) (h : Rd8 w A n l) (hn : n ≤ 140737488355328) (hnc : n ≤ c) (hA : ∀ ad, A = some ad → ad.block < w.heap.size)
    (hlo : -9223372036854775808 ≤ root) (hhi : root ≤ 9223372036854775807) (hm2 : most ≤ 9223372036854775807) :
    CallsIn Fence.wide 9 Try.prog 79 #[.slice A n c, .int .u8 (kind.toNat : Int), .int .i64 root, .string key, .int .i64 most] w (RetFm w (fromP l kind root key most)) := by
  have hmix := try_mixed
  refine callsIn_of_wp_marks Try.func79 rfl trivial ?_ rfl
  simp only [Try.ntmps79, List.size_toArray, List.length_cons, List.length_nil, Nat.reduceAdd, Nat.reduceSub, Array.replicate_succ, Array.replicate_zero, List.push_toArray, List.append_toArray, List.nil_append, List.cons_append]
  by_cases hneg : most < 0
  · have hres : Hd (fromP l kind root key most = ([], 1)) := ⟨by unfold fromP; rw [if_pos hneg]⟩
    have HB : Hd (Below w.heap.size w ((w.alloc (.cells #[.string key] 9)).alloc (.cells #[.int .i64 most] 3))) := ⟨((Below.refl _ _).alloc (Nat.le_refl _) _).alloc (by simp) _⟩
    gi_wp2_with fail
    exact ⟨.tuple #[.slice none 0 0, .int .i64 1], by simp [results, Try.f79, go_sem], by rw [hres.out]; exact ⟨_, _, _, rfl, OwnK.nil_ _ _ _, HB.out⟩⟩
  by_cases hz : most = 0
  · subst hz
    have hres : Hd (fromP l kind root key 0 = ([], 0)) := ⟨by unfold fromP; rw [if_neg (by omega), if_pos (by omega)]; simp⟩
    have HB : Hd (Below w.heap.size w ((w.alloc (.cells #[.string key] 9)).alloc (.cells #[.int .i64 0] 3))) := ⟨((Below.refl _ _).alloc (Nat.le_refl _) _).alloc (by simp) _⟩
    gi_wp2_with fail
    exact ⟨.tuple #[.slice none 0 0, .int .i64 0], by simp [results, Try.f79, go_sem], by rw [hres.out]; exact ⟨_, _, _, rfl, OwnK.nil_ _ _ _, HB.out⟩⟩
  have hmz : (most == 0) = false := by simp; exact hz
  have hmf : ∀ (fn : Fn) (first cap : Array Value) (w : World), (Instr.makeFunc fn first cap).run Try.prog w = .ok (.func fn first cap) w := fun _ _ _ _ => rfl
  gi_wp2_with fail
  refine ⟨trivial, ?_⟩
  refine (callsIn_wide.2 (all125 _ _ _)).mono ?_
  rintro e w2 ⟨rfl, hw2⟩
  obtain ⟨v1, v2, v3, v4, v5, v6, vb, vs⟩ := six_boxes hw2
  have vr : Rd8 w2 A n l := h.below vb
  have vw : WlkAt w2 (w.heap.size + 1 + 1) A n c kind key (0, ⟨#[]⟩) 0 := v3
  have F0 : FmS w key most [] (fun k => k = w.heap.size + 1 + 1 + 1) none 0 0 w2 := ⟨v1, v2, v4, OwnK.nil_ _ _ _, fun k e => by simp [ownBlk] at e, rfl, fun k e => .inl e, vb⟩
  clear hmf hw2
  gi_wp2_with fail
  refine rangeC1 (p1 := 29) rfl (by omega) (gf := 160) (lb := #[.pointer (some ⟨w.heap.size + 1 + 1 + 1 + 1, 0, none⟩), .pointer (some ⟨w.heap.size + 1 + 1 + 1 + 1 + 1, 0, none⟩)]) rfl trivial (enters_of Try.func160 (by kernel_rfl) rfl)
    (all_seq 8 (by omega) (w.heap.size + 1 + 1) (w.heap.size + 1 + 1 + 1 + 1) (w.heap.size + 1 + 1 + 1 + 1 + 1) A n c l kind key root w2 hn hnc hlo hhi (fun ad e => by have := hA ad e; omega) v5 v6 vw vr) (Below.refl _ _)
    (fun x vals C W h => by obtain ⟨A, n, c, h, _⟩ := h; exact ⟨_, h⟩) (fun k hk => by rcases hk with rfl | rfl | rfl | ⟨ad, e, rfl⟩; (· omega); (· omega); (· omega); (· have := hA ad e; omega))
    (fun x vals C C' W l o o' ho hc hC h => encL_put ho hc hC h) (fun W l o o' _ ho hc h => wlk_put ho hc h) (fun pre W l o o' _ ho hc h => by obtain ⟨s', h⟩ := h; exact ⟨s', wlk_put ho hc h⟩)
    (fun k => k = w.heap.size + 1 + 1 + 1) (fun k hk => ⟨by omega, fun hp => by rcases hp with e | e | e | ⟨ad, e, e'⟩; (· omega); (· omega); (· omega); (· have := hA ad e; omega)⟩)
    (fun v t => t.setIfInBounds 14 v)
    (fun pre C W' => ∃ O on oc, FmS w key most (fromL key pre) C O on oc W' ∧ (on : Int) < most)
    (fun cd pre C W' => cd = .exit 0 ∧ ∃ O on oc, FmS w key most ((fromL key pre).take most.toNat) C O on oc W' ∧ most ≤ (on : Int)) ?hI ?hIx ?h0 ?assign ?body ?done ?stop
  case hI =>
    rintro s C X Y row ⟨O, on, oc, hF, hl⟩ hg hrow
    exact ⟨O, on, oc, hF.grown hg (fun r e => ⟨(hrow r e).1, (hrow r e).2.imp (fun h => by omega) id⟩), hl⟩
  case hIx =>
    rintro cd s C X Y row ⟨rfl, O, on, oc, hF, hl⟩ hg hrow
    exact ⟨rfl, O, on, oc, hF.grown hg (fun r e => ⟨(hrow r e).1, (hrow r e).2.imp (fun h => by omega) id⟩), hl⟩
  case h0 => exact ⟨none, 0, 0, by simpa [fromL] using F0, by simp; omega⟩
  case assign =>
    intro r x v C W' K he hK
    gi_wp2
    exact hK
  case done =>
    rintro D C W' hD hCD ⟨O, on, oc, hF, hl⟩ hT hk
    have hlen := OwnK.len hF.own
    have hD0 : w.heap.size + 6 ≤ D := by omega
    have hfin : Hd (fromP l kind root key most = if (walkP l kind root key).2.2 ≠ 0 then ([], (walkP l kind root key).2.2) else (fromL key (walkP l kind root key).1, 0)) := ⟨by unfold fromP; rw [if_neg (by omega), if_neg (by omega)]⟩
    obtain ⟨er, her⟩ : ∃ er, (walkP l kind root key).2.2 = er := ⟨_, rfl⟩
    rw [her] at hT hfin
    have HT := Hd.mk hT
    have HF := Hd.mk (hF.grown (grownBy_putObj' W' D (.deferred none)) (fun r e => by injection e with e; subst e; exact ⟨hCD, .inl (by omega)⟩))
    have HFd := Hd.mk ((hF.below (below_drewK W')).grown (grownBy_putObj' W'.drew D (.deferred none)) (fun r e => by injection e with e; subst e; exact ⟨hCD, .inl (by omega)⟩))
    have hkd : W'.drew.heap[D]? = some (.deferred (some [])) := hk
    have z2 := one_load' hF.ob
    obtain ⟨u0, u1, u2, u3, u4, u5⟩ := wlk_load hT
    by_cases he : er = 0
    · subst he
      clear hF hT
      gi_wp2_with fail
      refine ⟨by simp, .inl ⟨_, _, rfl, run_takeDeferred hk, ?_⟩⟩
      refine ⟨.tuple #[.slice O on oc, .int .i64 0], by simp [results, Try.f79, go_sem], ?_⟩
      rw [hfin.out, if_neg (by simp)]
      exact ⟨_, _, _, rfl, OwnK.mono HF.out.own (by omega), HF.out.bel⟩
    · have e1 : ((er : Int) != 0) = true := by simp; omega
      clear hF hT
      gi_wp2_with fail
      refine region_zoneW 6 [false, false, false, false, false, false] (by kernel_rfl) (by kernel_rfl) hmix (fun w' => WlkAt w' (w.heap.size + 1 + 1) A n c kind key (walkP l kind root key).2.1 er) [] ?_ (fun hS => ?_)
      · exact HT.out
      refine wpAnyZ_take0 (i := 0) (oi := ⟨_, _, _, _, _, _⟩) (v := ?_) rfl (by decide +kernel) (fun _ _ _ h => h) (Or.inl ⟨by rfl, ?_⟩) (fun _ => hS) ?_
      rotate_left
      focus (intro w _; go_simp; (try with_reducible rfl); done)
      simp only [Act.put, List.setIfInBounds_toArray, List.set_cons_zero, List.set_cons_succ]
      refine wpAnyZ_take0 (i := 1) (oi := ⟨_, _, _, _, _, _⟩) (v := ?_) rfl (by decide +kernel) (fun _ _ _ h => h) (Or.inl ⟨by rfl, ?_⟩) (fun _ => hS) ?_
      rotate_left
      focus (intro w _; go_simp; (try with_reducible rfl); done)
      simp only [Act.put, List.setIfInBounds_toArray, List.set_cons_zero, List.set_cons_succ]
      refine wpAnyZ_take0 (i := 2) (oi := ⟨_, _, _, _, _, _⟩) (v := ?_) rfl (by decide +kernel) (fun _ _ _ h => h) (Or.inl ⟨by rfl, ?_⟩) (fun _ => hS) ?_
      rotate_left
      focus (intro w _; go_simp; (try with_reducible rfl); done)
      simp only [Act.put, List.setIfInBounds_toArray, List.set_cons_zero, List.set_cons_succ]
      refine wpAnyZ_take (i := 3) (oi := ⟨_, _, _, _, _, _⟩) (v := ?_) rfl (by decide +kernel) (fun _ _ _ h => h) (Or.inl ⟨by rfl, ?_⟩) hS ?_
      rotate_left
      focus (intro w hSw; (try dsimp only at hSw); (obtain ⟨u0, u1, u2, u3, u4, u5⟩ := wlk_load hSw; clear hSw); go_simp; (try with_reducible rfl); done)
      simp only [Act.put, List.setIfInBounds_toArray, List.set_cons_zero, List.set_cons_succ]
      refine wpAnyZ_take0 (i := 4) (oi := ⟨_, _, _, _, _, _⟩) (v := ?_) rfl (by decide +kernel) (fun _ _ _ h => h) (Or.inl ⟨by rfl, ?_⟩) (fun _ => hS) ?_
      rotate_left
      focus (intro w _; go_simp; (try with_reducible rfl); done)
      simp only [Act.put, List.setIfInBounds_toArray, List.set_cons_zero, List.set_cons_succ]
      refine wpAnyZ_take0 (i := 5) (oi := ⟨_, _, _, _, _, _⟩) (v := ?_) rfl (by decide +kernel) (fun _ _ _ h => h) (Or.inl ⟨by rfl, ?_⟩) (fun _ => hS) ?_
      rotate_left
      focus (intro w _; go_simp; (try with_reducible rfl); done)
      simp only [Act.put, List.setIfInBounds_toArray, List.set_cons_zero, List.set_cons_succ]
      refine wpAnyZ_done (by decide +kernel) ?_
      gi_wp2_with fail
      refine ⟨by simp, .inl ⟨_, _, rfl, run_takeDeferred hkd, ?_⟩⟩
      refine ⟨.tuple #[.slice none 0 0, .int .i64 (er : Int)], by simp [results, Try.f79, go_sem], ?_⟩
      rw [hfin.out, if_pos he]
      exact ⟨_, _, _, rfl, OwnK.nil_ _ _ _, HFd.out.bel⟩
  case stop =>
    rintro D cd pre C W' hD hCD hp ⟨rfl, O, on, oc, hF, hl⟩ ⟨s', hT⟩ hk
    have hlen := OwnK.len hF.own
    have hpl := fromL_pre (key := key) hp
    have hfin : Hd (fromP l kind root key most = ((fromL key pre).take most.toNat, 0)) := ⟨by
      rw [List.length_take] at hlen
      have h1 := hpl.length_le
      unfold fromP
      rw [if_neg (by omega), if_pos (by omega)]
      obtain ⟨t, ht⟩ := hpl
      rw [← ht, List.take_append_of_le_length (by omega)]⟩
    have HF := Hd.mk (hF.grown (grownBy_putObj' W' D (.deferred none)) (fun r e => by injection e with e; subst e; exact ⟨hCD, .inl (by omega)⟩))
    have z2 := one_load' hF.ob
    obtain ⟨u0, u1, u2, u3, u4, u5⟩ := wlk_load hT
    clear hF hT hlen hpl
    gi_wp2_with fail
    refine ⟨by simp, .inl ⟨_, _, rfl, run_takeDeferred hk, ?_⟩⟩
    refine ⟨.tuple #[.slice O on oc, .int .i64 0], by simp [results, Try.f79, go_sem], ?_⟩
    rw [hfin.out]
    exact ⟨_, _, _, rfl, OwnK.mono HF.out.own (by omega), HF.out.bel⟩
  case body =>
    rintro r pre x v C W' hl ⟨O, on, oc, hF, hol⟩ ⟨A1, n1, c1, hv, hRx, hn1, hc1, hAx⟩ hCl hsz hp
    obtain rfl : v = .slice A1 n1 c1 := by simpa using hv
    have hxl := Hd.mk (RdK.len hRx)
    have hFew : Hd (∀ i, (fromL key (pre ++ [x.take i])).length ≤ 4194304) := ⟨fun i => by
      have h1 : (fromL key (pre ++ [x])).length ≤ 4194304 := Nat.le_trans (fromL_pre (key := key) hp).length_le (fromL_few key)
      have h2 : (fromL key (pre ++ [x.take i])).length ≤ (fromL key (pre ++ [x])).length := by
        rw [fromL_append, fromL_append, List.length_append, List.length_append]
        have h3 : (fromL key [x.take i]).length ≤ (fromL key [x]).length := by
          simp only [fromL, List.flatten_cons, List.flatten_nil, List.append_nil]
          exact (List.Sublist.filter _ (List.take_sublist i x)).length_le
        omega
      omega⟩
    have HF0 : Hd (FmS w key most ((fromL key (pre ++ [x.take 0])).take most.toNat) (up C W' W') O on oc W') := ⟨by
      have e1 : (fromL key (pre ++ [x.take 0])).take most.toNat = fromL key pre := by
        have e2 : fromL key (pre ++ [x.take 0]) = fromL key pre := by rw [fromL_append]; simp [fromL]
        rw [e2, List.take_of_length_le]
        have := OwnK.len hF.own; omega
      rw [e1]
      exact hF.mono (fun k h => .inl h) (fun k h => h.elim (hF.C0 k) (fun h => by omega))⟩
    have HRx := Hd.mk hRx
    have HCl := Hd.mk hCl
    have HAx := Hd.mk hAx
    have HC0 := Hd.mk hF.C0
    clear hF hol hRx hCl hAx hp hv hl
    simp only [List.setIfInBounds_toArray, List.set_cons_zero, List.set_cons_succ]
    gi_wp2_with fail
    gi_loopw [32, 16] (fun iv _ wr => ∃ (i : Nat) (O : Option Addr) (on oc : Nat) (cur : List Kp), iv = .int .i64 (i : Int) ∧ i ≤ n1 ∧ Hd (FmS w key most cur (up C W' wr) O on oc wr) ∧ Hd (cur = (fromL key (pre ++ [x.take i])).take most.toNat) ∧ Hd (Tch C W' wr) ∧ Hd (RdK wr A1 n1 x))
      (fun iv _ _ => n1 - (intOf iv).toNat)
    case atStart => exact ⟨0, O, on, oc, _, rfl, by omega, HF0, ⟨rfl⟩, ⟨Tch.refl _ _⟩, HRx⟩
    case round =>
      obtain ⟨i, O, on, oc, cur, rfl, hi, hF, hcur, hT, hR⟩ := hrel
      have hon : Hd (cur.length = on) := ⟨OwnK.len hF.out.own⟩
      have hb6 : w.heap.size + 6 ≤ wr.heap.size := by have := hT.out.size; omega
      by_cases hlt2 : i < n1
      · obtain ⟨p, hp0⟩ : ∃ p, Hd (x[i]? = some p) := ⟨x[i]'(by have := hxl.out; omega), ⟨List.getElem?_eq_getElem _⟩⟩
        obtain ⟨ad, rfl, y0, y1⟩ := RdK.get hR.out hp0.out
        have hlti : (i : Int) < (n1 : Int) := by omega
        have hi00 : (0 : Int) ≤ (i : Int) := by omega
        have hb1 : Below wr.heap.size wr (wr.alloc (.cells #[.string p.1, .int .i64 p.2] 113)) := (Below.refl _ _).alloc (Nat.le_refl _) _
        have F1 := Hd.mk (hF.out.below hb1)
        have z0 := one_load' F1.out.kb
        have z1 := one_load' F1.out.mb
        have z2 := one_load' F1.out.ob
        have hsT := hT.out.size
        have hlk := leK_not key p.1
        have hfo := Hd.mk (fromL_one (key := key) (pre := pre) hp0.out)
        have HTn : ∀ w3, Below wr.heap.size wr w3 → Hd (Tch C W' w3) := fun w3 hb => ⟨hT.out.trans (Tch.of_below hb)⟩
        have hC0n : ∀ (w3 : World) k, up C W' w3 k → k = w.heap.size + 1 + 1 + 1 ∨ w.heap.size + 6 ≤ k := fun w3 k h => h.elim (HC0.out k) (fun h => by omega)
        -- nothing is taken
        have hskip : Hd ((fromL key (pre ++ [x.take (i + 1)])).take most.toNat = cur → ∃ (O' : Option Addr) (on' oc' : Nat) (cur' : List Kp), FmS w key most cur' (up C W' (wr.alloc (.cells #[.string p.1, .int .i64 p.2] 113))) O' on' oc' (wr.alloc (.cells #[.string p.1, .int .i64 p.2] 113)) ∧ cur' = (fromL key (pre ++ [x.take (i + 1)])).take most.toNat ∧
            Tch C W' (wr.alloc (.cells #[.string p.1, .int .i64 p.2] 113)) ∧ RdK (wr.alloc (.cells #[.string p.1, .int .i64 p.2] 113)) (some ad) n1 x) := ⟨fun e => ⟨O, on, oc, cur, F1.out.mono (fun k h => h.elim .inl (fun h => .inr ⟨h.1, by have := hb1.size; omega⟩)) (hC0n _), e.symm, (HTn _ hb1).out, Rd.below hR.out hb1⟩⟩
        by_cases hk : Op.bytesLess p.1.toList key.toList = true
        · have e1 : (fromL key (pre ++ [x.take (i + 1)])).take most.toNat = cur := by
            have h2 : ¬ leK key p.1 = true := by rw [hlk]; show ¬ (!Op.bytesLess p.1.toList key.toList) = true; rw [hk]; simp
            rw [hfo.out, if_neg h2, hcur.out]
          obtain ⟨O', on', oc', cur', G1, G2, G3, G4⟩ := hskip.out e1
          have HG := Hd.mk (And.intro G1 (And.intro G2 (And.intro G3 G4)))
          clear hskip G1 G2 G3 G4 e1 hlk HTn hC0n
          gi_wp2_with fail
          go_roundw
          case rel => exact ⟨i + 1, O', on', oc', cur', by go_num, by omega, ⟨HG.out.1⟩, ⟨HG.out.2.1⟩, ⟨HG.out.2.2.1⟩, ⟨HG.out.2.2.2⟩⟩
          case measure => simp [intOf]; omega
        · have hk : Op.bytesLess p.1.toList key.toList = false := by simpa using hk
          have h2 : leK key p.1 = true := by rw [hlk]; show (!Op.bytesLess p.1.toList key.toList) = true; rw [hk]; rfl
          by_cases hm : (on : Int) < most
          · have m1 : decide ((on : Int) < most) = true := by simpa using hm
            have e1 : Hd ((fromL key (pre ++ [x.take (i + 1)])).take most.toNat = cur ++ [p]) := ⟨by
              rw [hfo.out, if_pos h2, hcur.out, take_snoc_lt (by rw [← hcur.out, hon.out]; omega)]⟩
            have hob : on ≤ 4194304 := by
              have h3 := hFew.out i
              rw [← hon.out, hcur.out, List.length_take]; omega
            have hfz : ∀ W : World, W.heap[w.heap.size + 1 + 1 + 1]? = some (.cells #[.slice O on oc] 84 (0, 0)) → W.frozen? ⟨w.heap.size + 1 + 1 + 1, 0, none⟩ = false := fun W h => frozen_of_row _ _ 0 _ _ h
            clear hskip hlk
            have hb2 : Below wr.heap.size wr ((wr.alloc (.cells #[.string p.1, .int .i64 p.2] 113)).alloc (.cells #[.string p.1, .int .i64 p.2] 113)) := hb1.alloc (by simp) _
            have F2 := Hd.mk (hF.out.below hb2)
            gi_wp2_with (gi_at_builtin; refine wlIn_appK rfl _ _ rfl rfl rfl F2.out.own (RdK.newAt _ [p] rfl rfl (by simp)) (by omega) (by simp; omega) ?_; rintro v w5 ha; obtain ⟨O', oc', rfl, hox, F5, T5⟩ := F2.out.app (by simp; omega) ha; have hfz := frozen_of_row _ _ 0 _ _ hox; have hcz := one_load' hox)
            have hs5 := T5.size
            have hw1 : ((wr.alloc (.cells #[.string p.1, .int .i64 p.2] 113)).alloc (.cells #[.string p.1, .int .i64 p.2] 113)).heap.size = wr.heap.size + 2 := by simp
            generalize ((wr.alloc (.cells #[.string p.1, .int .i64 p.2] 113)).alloc (.cells #[.string p.1, .int .i64 p.2] 113)) = W5 at hb2 F5 T5 hs5 hw1
            have G1 := Hd.mk (F5.mono (C' := up C W' (w5.setCell ⟨w.heap.size + 1 + 1 + 1, 0, none⟩ (.slice O' (on + 1) oc'))) (fun k h => by
              rcases h with (h | h) | h
              · exact .inl h
              · exact .inr ⟨h.1, by omega⟩
              · exact .inr ⟨by omega, h.2⟩) (hC0n _))
            have G3 : Hd (Tch C W' (w5.setCell ⟨w.heap.size + 1 + 1 + 1, 0, none⟩ (.slice O' (on + 1) oc'))) := ⟨(hT.out.trans (Tch.of_below hb2)).trans (T5.mono fun k hk h => Or.elim h (fun h => Or.inl h) (fun h => Or.inr ⟨h.1, hk⟩))⟩
            have G4 : Hd (RdK (w5.setCell ⟨w.heap.size + 1 + 1 + 1, 0, none⟩ (.slice O' (on + 1) oc')) (some ad) n1 x) := ⟨RdK.tch' (Rd.below hR.out hb2) T5 (fun ad' e h => by
              injection e with e
              subst e
              have h1 := HAx.out (by omega) ad rfl
              exact h.elim h1.1 (fun h => by omega))⟩
            clear F5 T5 hs5 hw1 hb2
            go_roundw
            case rel => exact ⟨i + 1, O', on + 1, oc', _, by go_num, by omega, G1, ⟨e1.out.symm⟩, G3, G4⟩
            case measure => simp [intOf]; omega
          · have m1 : decide ((on : Int) < most) = false := by simpa using hm
            have e1 : (fromL key (pre ++ [x.take (i + 1)])).take most.toNat = cur := by
              rw [hfo.out, if_pos h2, take_snoc_ge (by rw [← hcur.out, hon.out]; omega), hcur.out]
            obtain ⟨O', on', oc', cur', G1, G2, G3, G4⟩ := hskip.out e1
            have HG := Hd.mk (And.intro G1 (And.intro G2 (And.intro G3 G4)))
            clear hskip G1 G2 G3 G4 e1 hlk HTn hC0n
            gi_wp2_with fail
            go_roundw
            case rel => exact ⟨i + 1, O', on', oc', cur', by go_num, by omega, ⟨HG.out.1⟩, ⟨HG.out.2.1⟩, ⟨HG.out.2.2.1⟩, ⟨HG.out.2.2.2⟩⟩
            case measure => simp [intOf]; omega
      · obtain rfl : i = n1 := by omega
        have hlti : ¬ ((i : Int) < (i : Int)) := by omega
        have z1 := one_load' hF.out.mb
        have z2 := one_load' hF.out.ob
        have HF2 : Hd (FmS w key most ((fromL key (pre ++ [x])).take most.toNat) (up C W' wr) O on oc wr) := ⟨by
          have h3 := hcur.out
          rw [List.take_of_length_le (l := x) (by rw [hxl.out]; exact Nat.le_refl _)] at h3
          rw [← h3]; exact hF.out⟩
        have hon2 : Hd (((fromL key (pre ++ [x])).take most.toNat).length = on) := ⟨OwnK.len HF2.out.own⟩
        clear hF hcur hon
        by_cases hm : (on : Int) < most
        · have m1 : ¬ (on : Int) ≥ most := by omega
          have e1 : (fromL key (pre ++ [x])).take most.toNat = fromL key (pre ++ [x]) := List.take_of_length_le (by
            have h3 := hon2.out
            rw [List.length_take] at h3
            omega)
          rw [e1] at HF2
          clear hon2 e1
          gi_wp2_with fail
          exact ⟨hT.out, O, on, ⟨oc, HF2.out⟩, hm⟩
        · have m1 : (on : Int) ≥ most := by omega
          clear hon2
          gi_wp2_with fail
          exact ⟨hT.out, rfl, O, on, ⟨oc, HF2.out⟩, m1⟩
theorem from79 (A : Option Addr) (n c : Nat) (l : List UInt8) (kind : UInt8) (root : Int) (key : ByteArray) (most : Int) (w : World) (h : Rd8 w A n l) (hn : n ≤ 140737488355328) (hnc : n ≤ c) (hA : ∀ ad, A = some ad → ad.block < w.heap.size)
    (hlo : -9223372036854775808 ≤ root) (hhi : root ≤ 9223372036854775807) (hm2 : most ≤ 9223372036854775807) :
    Calls Try.prog 79 #[.slice A n c, .int .u8 (kind.toNat : Int), .int .i64 root, .string key, .int .i64 most] w (RetFm w (fromP l kind root key most)) :=
  callsIn_wide.1 (from79in A n c l kind root key most w h hn hnc hA hlo hhi hm2)
end Go.Proofs.Ytkgdcglnkodgnaa
namespace Go.Proofs.Ytkgdcglnkodgnaa
open Go.RowKit Go.Shelf
attribute [local go_sem] Oper.semAt_some
/-! What a tree that holds pairs answers. -/
section
variable {b : List UInt8} {kind : UInt8} {root : Int} {l : List Kp}
theorem Held.each (h : Held b kind root l) : (walkP b kind root ⟨#[]⟩).1.flatten = l := by
  obtain ⟨Ls, s, zs, h1, h2, h3⟩ := h.walk ⟨#[]⟩
  rw [h1, h2]
  cases zs with
  | nil => rfl
  | cons z zs => have := h3 z (by simp); rw [lt_empty0] at this; cases this
theorem Held.fromL_ (h : Held b kind root l) (key : ByteArray) : fromL key (walkP b kind root key).1 = l.filter (fun p => leK key p.1) ∧ (walkP b kind root key).2.2 = 0 := by
  obtain ⟨Ls, s, zs, h1, h2, h3⟩ := h.walk key
  rw [h1]
  refine ⟨?_, rfl⟩
  have hz : zs.filter (fun p => leK key p.1) = [] := by
    rw [List.filter_eq_nil_iff]
    intro p hp
    rw [leK_not, h3 p hp]; simp
  show Ls.flatten.filter (fun p => leK key p.1) = _
  rw [h2, List.filter_append, hz, List.nil_append]
theorem Held.from_ (h : Held b kind root l) (key : ByteArray) (most : Int) (hm : 0 ≤ most) : fromP b kind root key most = ((l.filter (fun p => leK key p.1)).take most.toNat, 0) := by
  obtain ⟨h1, h2⟩ := h.fromL_ key
  unfold fromP
  rw [h1, h2, if_neg (by omega)]
  by_cases hf : most ≤ ((l.filter (fun p => leK key p.1)).length : Int)
  · rw [if_pos hf]
  · rw [if_neg hf, if_neg (by simp), List.take_of_length_le (by omega)]
end
theorem want_end {l : List Kp} {f : Kp → Bool} {i m : Nat} {out : List Kp} (h : out = ((l.take i).filter f).take m) (hm : m ≤ out.length) : out = (l.filter f).take m := by
  have e : l.filter f = (l.take i).filter f ++ (l.drop i).filter f := by rw [← List.filter_append, List.take_append_drop]
  rw [h, List.length_take] at hm
  rw [e, List.take_append_of_le_length (by omega), h]
theorem want_step {l : List Kp} {f : Kp → Bool} {i m : Nat} {out : List Kp} {p : Kp} (h : out = ((l.take i).filter f).take m) (hp : l[i]? = some p) (hlt : out.length < m) :
    ((l.take (i + 1)).filter f).take m = if f p = true then out ++ [p] else out := by
  have e : l.take (i + 1) = l.take i ++ [p] := by rw [List.take_add_one, hp]; rfl
  rw [h] at hlt
  rw [e, List.filter_append]
  by_cases hf : f p = true
  · rw [if_pos hf, h]
    have : [p].filter f = [p] := by simp [hf]
    rw [this, take_snoc_lt hlt]
  · rw [if_neg hf, h]
    have : [p].filter f = [] := by simp [hf]
    rw [this, List.append_nil]
/-- The pairs gathered in a box that was laid behind W0. -/
structure AllS (W0 : World) (out : List Kp) (C : Nat → Prop) (O : Option Addr) (on oc : Nat) (W : World) : Prop where
  ob : W.heap[W0.heap.size]? = some (.cells #[.slice O on oc] 84 (0, 0))
  own : OwnK W (W0.heap.size + 1) O on oc out
  oC : ∀ k, ownBlk O oc = some k → C k
  bC : C W0.heap.size
  bel : Below W0.heap.size W0 W
section
variable {W0 W W' : World} {out : List Kp} {C C' : Nat → Prop} {O : Option Addr} {on oc : Nat}
theorem AllS.grown {row : Option Nat} (h : AllS W0 out C O on oc W) (hg : W.grownBy W' row) (hr : ∀ r, row = some r → ¬ C r ∧ W0.heap.size ≤ r) : AllS W0 out C O on oc W' :=
  ⟨(hg.block _ (Array.getElem?_eq_some_iff.1 h.ob).1 (fun e => (hr _ e.symm).1 h.bC)).trans h.ob, Own.grown h.own hg (fun x hx e => (hr x (by rw [← e])).1 (h.oC x hx)), h.oC, h.bC, h.bel.grown hg h.bel.size (fun k e => (hr k e).2)⟩
theorem AllS.below (h : AllS W0 out C O on oc W) (hb : Below W.heap.size W W') : AllS W0 out C O on oc W' :=
  ⟨(hb.block _ (Array.getElem?_eq_some_iff.1 h.ob).1).trans h.ob, Own.below h.own hb, h.oC, h.bC, h.bel.trans (hb.mono h.bel.size)⟩
theorem AllS.mono (h : AllS W0 out C O on oc W) (hC : ∀ k, C k → C' k) : AllS W0 out C' O on oc W := ⟨h.ob, h.own, fun k e => hC k (h.oC k e), hC _ h.bC, h.bel⟩
theorem AllS.app {v : Value} {p : Kp} (h : AllS W0 out C O on oc W) (ha : AppK W (W0.heap.size + 1) O oc (on + 1) (out ++ [p]) v W') :
    ∃ O' oc', v = .slice O' (on + 1) oc' ∧ W'.heap[W0.heap.size]? = some (.cells #[.slice O on oc] 84 (0, 0)) ∧ AllS W0 (out ++ [p]) (up C W (W'.setCell ⟨W0.heap.size, 0, none⟩ v)) O' (on + 1) oc' (W'.setCell ⟨W0.heap.size, 0, none⟩ v) ∧ Tch C W (W'.setCell ⟨W0.heap.size, 0, none⟩ v) := by
  obtain ⟨O', oc', rfl, o, g2, hcase⟩ := ha
  have hlt := fun k e => (Own.lt h.own (g := k) e).1
  have hlb := (Array.getElem?_eq_some_iff.1 h.ob).1
  have hob : W'.heap[W0.heap.size]? = some (.cells #[.slice O on oc] 84 (0, 0)) := (g2.block _ hlb (fun e => by have := hlt _ e.symm; omega)).trans h.ob
  have gs := grown_cell (w := W') (g := W0.heap.size) (i := 0) (Value.slice O' (on + 1) oc')
  have hs2 := g2.size
  have ho2 : OwnK (W'.setCell ⟨W0.heap.size, 0, none⟩ (.slice O' (on + 1) oc')) (W0.heap.size + 1) O' (on + 1) oc' (out ++ [p]) := Own.grown o gs (fun x hx e => by injection e with e; have := (Own.lt o hx).1; omega)
  refine ⟨O', oc', rfl, hob, ⟨(heap_setCell_same W' _ 0 _ 84 _ hob).trans rfl, ho2, fun k e => ?_, .inl h.bC, ?_⟩, ?_⟩
  · rcases hcase with ⟨e1, e2, _⟩ | e1
    · exact .inl (h.oC k (by rw [← e1, ← e2]; exact e))
    · right
      refine ⟨?_, (Own.lt ho2 e).2⟩
      unfold ownBlk at e
      split at e
      · cases e
      · rw [e1] at e; simp at e; omega
  · exact (h.bel.grown g2 h.bel.size (fun k e => by have := hlt k e; omega)).grown gs (by have := h.bel.size; omega) (fun k e => by injection e with e; omega)
  · exact (Tch.of_grown g2 (fun k e => .inl (h.oC k e))).trans (Tch.setCell _ _ _ 0 _ (.inl (.inl h.bC)))
end
theorem three_boxesF {W V : World} {a b c : Obj} (hV : V = ((W.alloc a).alloc b).alloc c) : V.heap[W.heap.size]? = some a ∧ V.heap[W.heap.size + 1]? = some b ∧ V.heap[W.heap.size + 1 + 1]? = some c ∧ V.heap.size = W.heap.size + 3 := by
  obtain ⟨h1, h2, h3, _, _, _⟩ := four_boxes (d := c) (V := V.alloc c) (by rw [hV])
  have bb : Below V.heap.size V (V.alloc c) := (Below.refl _ _).alloc (Nat.le_refl _) _
  have hs : V.heap.size = W.heap.size + 3 := by rw [hV]; simp
  exact ⟨(bb.block _ (by omega)).symm.trans h1, (bb.block _ (by omega)).symm.trans h2, (bb.block _ (by omega)).symm.trans h3, hs⟩
set_option maxRecDepth 100000 in
set_option maxHeartbeats 4000000 in
theorem treeFound20 (kind : UInt8) (A : Option Addr) (n c : Nat) (l : List Kp) (a z : Int) (key : ByteArray) (most : Int) (w : World) (h : RdK w A n l) (hn : n ≤ 5864062014805) (hsz : ∀ p ∈ l, p.1.size ≤ 9223372036854775807) (hm2 : most ≤ 9223372036854775807) :
    CallsIn Fence.wide 9 Try.prog 20 #[.int .u8 (kind.toNat : Int), .slice A n c, .int .i64 a, .int .i64 z, .string key, .int .i64 most] w fun e w' => e = .returned (.bool true) ∧ Below w.heap.size w w' := by
  have hmix := try_mixed
  have HL := Hd.mk h.len
  have HR : Hd (∀ W, Below w.heap.size w W → RdK W A n l) := ⟨fun W hb => Rd.below h hb⟩
  have HS := Hd.mk hsz
  obtain ⟨b, root, m, ok, hX⟩ : ∃ b root m ok, Hd (laidP kind l a z = (b, root, m, ok)) := ⟨_, _, _, _, ⟨rfl⟩⟩
  clear h hsz
  refine callsIn_of_wp_marks Try.func20 rfl trivial ?_ rfl
  simp only [Try.ntmps20, List.size_toArray, List.length_cons, List.length_nil, Nat.reduceAdd, Nat.reduceSub, Array.replicate_succ, Array.replicate_zero, List.push_toArray, List.append_toArray, List.nil_append, List.cons_append]
  gi_wp2_with fail
  refine ⟨trivial, ?_⟩
  refine (callsIn_wide.2 (awake64 w)).mono ?_
  rintro e w1 ⟨rfl, hb1⟩
  have HB1 := Hd.mk hb1
  have HLd := Hd.mk (laid65 kind a z A n c l w1 (HR.out w1 hb1) hn HS.out)
  rw [hX.out] at HLd
  clear hb1
  gi_wp2_with fail
  refine ⟨trivial, ?_⟩
  refine (callsIn_wide.2 HLd.out).mono ?_
  rintro e w2 ⟨A2, n2, c2, rfl, ho2, hb2⟩
  have HB2 := Hd.mk (HB1.out.trans (hb2.mono HB1.out.size))
  have HRB : Hd (∀ W, Below w2.heap.size w2 W → Rd8 W A2 n2 b) := ⟨fun W hb => (Own8.rd ho2).below hb⟩
  have hbn := Hd.mk (Own8.len ho2)
  clear hb2 ho2 HLd
  cases ok with
  | false =>
    gi_wp2_with fail
    exact ⟨.bool true, by simp [results, Try.f20, go_sem], rfl, HB2.out⟩
  | true =>
    obtain ⟨HH, hm1, hr0, hr1, hbl, hll, _⟩ := laid_held hX.out
    have HH := Hd.mk HH
    have hn2 : n2 ≤ 4194304 := by rw [← hbn.out]; exact hbl
    have hln := HL.out
    rw [hln] at hll
    have HHl : Hd (∀ W, Below w2.heap.size w2 W → RdK W A n l) := ⟨fun W hb => HR.out W (HB2.out.trans (hb.mono HB2.out.size))⟩
    have x1 : ((n : Int) != (n : Int)) = false := by simp
    have x2 : decide (m < 1) = false := by simp; omega
    have x2' : ¬ m < 1 := by omega
    clear hbl hX HB1 hln
    gi_wp2_with fail
    refine ⟨trivial, ?_⟩
    refine (callsIn_wide.2 (bytes66w A2 n2 c2 b w2 (HRB.out w2 (Below.refl _ _)) (by omega))).mono ?_
    rintro e w3 ⟨A3, n3, c3, rfl, o3, b3, ba3⟩
    have hn3 : Hd (n3 ≤ 4194304) := ⟨by rw [← Own8.len o3, hbn.out]; exact hn2⟩
    have HC := check67 A3 n3 c3 b kind root w3 (Own8.rd o3) (by have := hn3.out; omega) (Own8.le o3).1 (fun ad e => (ba3 ad e).2) (by omega) (by omega)
    rw [HH.out.check, HL.out] at HC
    have HC3 := Hd.mk HC
    have B3 := Hd.mk b3
    clear HC o3 b3 ba3
    gi_wp2_with fail
    refine ⟨trivial, ?_⟩
    refine (callsIn_wide.2 HC3.out).mono ?_
    rintro e w4 ⟨rfl, b4⟩
    have B4 := Hd.mk (B3.out.trans (b4.mono B3.out.size))
    clear b4 HC3 hn3
    gi_wp2_with fail
    gi_loopw [19, 20, 21, 22] (fun iv _ _ _ wr => ∃ i : Nat, iv = .int .i64 (i : Int) ∧ i ≤ n + n ∧ Hd (Below w2.heap.size w2 wr))
      (fun iv _ _ _ _ => n + n - (intOf iv).toNat)
    case atStart => exact ⟨0, rfl, by omega, B4⟩
    case round =>
      obtain ⟨i, rfl, hi, hb⟩ := hrel
      have hbs := hb.out.size
      by_cases hlt : i < n
      · obtain ⟨p, hp⟩ : ∃ p, Hd (l[i]? = some p) := ⟨l[i]'(by have := HL.out; omega), ⟨List.getElem?_eq_getElem _⟩⟩
        have HRr := Hd.mk (HHl.out wr hb.out)
        obtain ⟨ad, rfl, y0, y1⟩ := RdK.get HRr.out hp.out
        have HFI := fun W (hB : Below w2.heap.size w2 W) A5 n5 c5 (o5 : Own8 W wr.heap.size A5 n5 c5 b) => find68 A5 n5 c5 b kind root p.1 W (Own8.rd o5) (by rw [← Own8.len o5, hbn.out]; omega) (Own8.le o5).1 (by omega) (by omega)
        have hlk : lookK l p.1 = (p.2, true) := lookK_sorted HH.out.sort (List.mem_of_getElem? hp.out)
        rw [HH.out.find, hlk] at HFI
        have HFI2 := Hd.mk HFI
        have Y0 := Hd.mk y0
        have Y1 := Hd.mk y1
        have i1 : (i : Int) < (n : Int) := by omega
        have i0 : (0 : Int) ≤ (i : Int) := by omega
        have hbd := below_drewK wr
        have HSB : Hd (∀ W, Below wr.heap.size wr W → W.cell? (ad.add (i * 2)) = some (.string p.1)) := ⟨fun W hb => below_cellK hb Y0.out⟩
        clear HFI hlk y0 y1
        gi_wp2_with fail
        refine region_zoneW 17 [false, false, false, false, false, false, false, false, false, false, false, false, false, false, false, false, false] (by kernel_rfl) (by kernel_rfl) hmix (fun w' => w'.cell? (ad.add (i * 2)) = some (.string p.1)) [] ?_ (fun hS => ?_)
        · exact HSB.out _ hbd
        refine wpAnyZ_take0 (i := 0) (oi := ⟨_, _, _, _, _, _⟩) (v := ?_) rfl (by decide +kernel) (fun _ _ _ h => h) (Or.inl ⟨by rfl, ?_⟩) (fun _ => hS) ?_
        rotate_left
        focus (intro w _; go_simp; (try with_reducible rfl); done)
        simp only [Act.put, List.setIfInBounds_toArray, List.set_cons_zero, List.set_cons_succ]
        refine wpAnyZ_take0 (i := 2) (oi := ⟨_, _, _, _, _, _⟩) (v := ?_) rfl (by decide +kernel) (fun _ _ _ h => h) (Or.inl ⟨by rfl, ?_⟩) (fun _ => hS) ?_
        rotate_left
        focus (intro w _; go_simp; (try with_reducible rfl); done)
        simp only [Act.put, List.setIfInBounds_toArray, List.set_cons_zero, List.set_cons_succ]
        refine wpAnyZ_take0 (i := 3) (oi := ⟨_, _, _, _, _, _⟩) (v := ?_) rfl (by decide +kernel) (fun _ _ _ h => h) (Or.inl ⟨by rfl, ?_⟩) (fun _ => hS) ?_
        rotate_left
        focus (intro w _; go_simp; (try with_reducible rfl); done)
        simp only [Act.put, List.setIfInBounds_toArray, List.set_cons_zero, List.set_cons_succ]
        refine wpAnyZ_take0 (i := 4) (oi := ⟨_, _, _, _, _, _⟩) (v := ?_) rfl (by decide +kernel) (fun _ _ _ h => h) (Or.inl ⟨by rfl, ?_⟩) (fun _ => hS) ?_
        rotate_left
        focus (intro w _; go_simp; (try with_reducible rfl); done)
        simp only [Act.put, List.setIfInBounds_toArray, List.set_cons_zero, List.set_cons_succ]
        refine wpAnyZ_take0 (i := 5) (oi := ⟨_, _, _, _, _, _⟩) (v := ?_) rfl (by decide +kernel) (fun _ _ _ h => h) (Or.inl ⟨by rfl, ?_⟩) (fun _ => hS) ?_
        rotate_left
        focus (intro w _; go_simp; (try with_reducible rfl); done)
        simp only [Act.put, List.setIfInBounds_toArray, List.set_cons_zero, List.set_cons_succ]
        refine wpAnyZ_take0 (i := 6) (oi := ⟨_, _, _, _, _, _⟩) (v := ?_) rfl (by decide +kernel) (fun _ _ _ h => h) (Or.inl ⟨by rfl, ?_⟩) (fun _ => hS) ?_
        rotate_left
        focus (intro w _; go_simp; (try with_reducible rfl); done)
        simp only [Act.put, List.setIfInBounds_toArray, List.set_cons_zero, List.set_cons_succ]
        refine wpAnyZ_take0 (i := 7) (oi := ⟨_, _, _, _, _, _⟩) (v := ?_) rfl (by decide +kernel) (fun _ _ _ h => h) (Or.inl ⟨by rfl, ?_⟩) (fun _ => hS) ?_
        rotate_left
        focus (intro w _; go_simp; (try with_reducible rfl); done)
        simp only [Act.put, List.setIfInBounds_toArray, List.set_cons_zero, List.set_cons_succ]
        refine wpAnyZ_take (i := 8) (oi := ⟨_, _, _, _, _, _⟩) (v := ?_) rfl (by decide +kernel) (fun _ _ _ h => h) (Or.inl ⟨by rfl, ?_⟩) hS ?_
        rotate_left
        focus (intro w hSw; (try dsimp only at hSw); (have y0 := hSw; clear hSw); go_simp; (try with_reducible rfl); done)
        simp only [Act.put, List.setIfInBounds_toArray, List.set_cons_zero, List.set_cons_succ]
        refine wpAnyZ_one (i := 1) rfl (by decide +kernel) (fun K hKK => ?_)
        go_simp
        refine (bytes66w A2 n2 c2 b wr.drew (HRB.out wr.drew (hb.out.trans (hbd.mono hbs))) (by omega)).mono ?_
        rintro e w5 ⟨A5, n5, c5, rfl, o5, b5, ba5⟩
        have S5 := Hd.mk (hbd.trans b5)
        clear hS
        have hS := HSB.out _ S5.out
        refine hKK.out _ _ (fun _ => hS) ?_
        clear hKK
        simp only [List.setIfInBounds_toArray, List.set_cons_zero, List.set_cons_succ]
        refine wpAnyZ_one (i := 9) rfl (by decide +kernel) (fun K hKK => ?_)
        go_simp
        refine (HFI2.out w5 (hb.out.trans (S5.out.mono hbs)) A5 n5 c5 o5).mono ?_
        rintro e w6 ⟨rfl, b6⟩
        have S6 := Hd.mk (S5.out.trans (b6.mono S5.out.size))
        clear hS
        have hS := HSB.out _ S6.out
        refine hKK.out _ _ (fun _ => hS) ?_
        clear hKK
        refine wpAnyZ_take0 (i := 10) (oi := ⟨_, _, _, _, _, _⟩) (v := ?_) rfl (by decide +kernel) (fun _ _ _ h => h) (Or.inl ⟨by rfl, ?_⟩) (fun _ => hS) ?_
        rotate_left
        focus (intro w _; go_simp; (try with_reducible rfl); done)
        simp only [Act.put, List.setIfInBounds_toArray, List.set_cons_zero, List.set_cons_succ]
        refine wpAnyZ_take0 (i := 11) (oi := ⟨_, _, _, _, _, _⟩) (v := ?_) rfl (by decide +kernel) (fun _ _ _ h => h) (Or.inl ⟨by rfl, ?_⟩) (fun _ => hS) ?_
        rotate_left
        focus (intro w _; go_simp; (try with_reducible rfl); done)
        simp only [Act.put, List.setIfInBounds_toArray, List.set_cons_zero, List.set_cons_succ]
        refine wpAnyZ_take0 (i := 12) (oi := ⟨_, _, _, _, _, _⟩) (v := ?_) rfl (by decide +kernel) (fun _ _ _ h => h) (Or.inl ⟨by rfl, ?_⟩) (fun _ => hS) ?_
        rotate_left
        focus (intro w _; go_simp; (try with_reducible rfl); done)
        simp only [Act.put, List.setIfInBounds_toArray, List.set_cons_zero, List.set_cons_succ]
        refine wpAnyZ_take0 (i := 13) (oi := ⟨_, _, _, _, _, _⟩) (v := ?_) rfl (by decide +kernel) (fun _ _ _ h => h) (Or.inl ⟨by rfl, ?_⟩) (fun _ => hS) ?_
        rotate_left
        focus (intro w _; go_simp; (try with_reducible rfl); done)
        simp only [Act.put, List.setIfInBounds_toArray, List.set_cons_zero, List.set_cons_succ]
        refine wpAnyZ_take0 (i := 14) (oi := ⟨_, _, _, _, _, _⟩) (v := ?_) rfl (by decide +kernel) (fun _ _ _ h => h) (Or.inl ⟨by rfl, ?_⟩) (fun _ => hS) ?_
        rotate_left
        focus (intro w _; go_simp; (try with_reducible rfl); done)
        simp only [Act.put, List.setIfInBounds_toArray, List.set_cons_zero, List.set_cons_succ]
        refine wpAnyZ_take0 (i := 15) (oi := ⟨_, _, _, _, _, _⟩) (v := ?_) rfl (by decide +kernel) (fun _ _ _ h => h) (Or.inl ⟨by rfl, ?_⟩) (fun _ => hS) ?_
        rotate_left
        focus (intro w _; go_simp; (try with_reducible rfl); done)
        simp only [Act.put, List.setIfInBounds_toArray, List.set_cons_zero, List.set_cons_succ]
        refine wpAnyZ_take0 (i := 16) (oi := ⟨_, _, _, _, _, _⟩) (v := ?_) rfl (by decide +kernel) (fun _ _ _ h => h) (Or.inl ⟨by rfl, ?_⟩) (fun _ => hS) ?_
        rotate_left
        focus (intro w _; go_simp; (try with_reducible rfl); done)
        simp only [Act.put, List.setIfInBounds_toArray, List.set_cons_zero, List.set_cons_succ]
        refine wpAnyZ_done (by decide +kernel) ?_
        have y1 := below_cellK S6.out Y1.out
        have B6 := Hd.mk (hb.out.trans (S6.out.mono hbs))
        have c1 : (p.2 != p.2) = false := by simp
        clear HFI2 o5 b5 ba5 b6 hS
        gi_wp2_with fail
        go_roundw
        case rel => exact ⟨i + 1 + n / 40, by congr 1, by omega, B6⟩
        case measure => simp only [intOf]; omega
      · have i1 : ¬ (i : Int) < (n : Int) := by omega
        clear B3 B4
        gi_wp2_with fail
        refine ⟨trivial, ?_⟩
        refine (callsIn_wide.2 (bytes66w A2 n2 c2 b wr (HRB.out wr hb.out) (by omega))).mono ?_
        rintro e w5 ⟨A5, n5, c5, rfl, o5, b5, ba5⟩
        obtain ⟨fv, fis, hfv⟩ : ∃ fv fis, Hd (lookK l key = (fv, fis)) := ⟨_, _, ⟨rfl⟩⟩
        have HF := find68 A5 n5 c5 b kind root key w5 (Own8.rd o5) (by rw [← Own8.len o5, hbn.out]; omega) (Own8.le o5).1 (by omega) (by omega)
        rw [HH.out.find, hfv.out] at HF
        have HF5 := Hd.mk HF
        have B5 := Hd.mk (hb.out.trans (b5.mono hbs))
        clear HF o5 b5 ba5
        gi_wp2_with fail
        refine ⟨trivial, ?_⟩
        refine (callsIn_wide.2 HF5.out).mono ?_
        rintro e w6 ⟨rfl, b6⟩
        have B6 := Hd.mk (B5.out.trans (b6.mono B5.out.size))
        have HA := at69 A n c l key w6 (HHl.out w6 B6.out) hn
        rw [hfv.out] at HA
        have HA6 := Hd.mk HA
        have c1 : (fis != fis) = false := by simp
        have c2' : (fv != fv) = false := by simp
        clear HA b6 HF5
        gi_wp2_with fail
        refine ⟨trivial, ?_⟩
        refine (callsIn_wide.2 HA6.out).mono ?_
        rintro e w7 ⟨rfl, hw7⟩
        have B7 : Hd (Below w2.heap.size w2 w7) := ⟨by rw [hw7]; exact B6.out⟩
        clear hw7 B6 HA6
        gi_wp2_with fail
        have hs7 := B7.out.size
        gi_loopw [28, 29] (fun ov iv wr => ∃ (i : Nat) (O : Option Addr) (on oc : Nat) (out : List Kp), ov = .slice O on oc ∧ iv = .int .i64 (i : Int) ∧ i ≤ n ∧ Hd (Below w2.heap.size w2 wr) ∧ w7.heap.size ≤ wr.heap.size ∧ Hd (OwnK wr w7.heap.size O on oc out) ∧ Hd (out = ((l.take i).filter (fun p => leK key p.1)).take most.toNat))
          (fun _ iv _ => n - (intOf iv).toNat)
        case atStart => exact ⟨0, none, 0, 0, [], rfl, rfl, by omega, B7, Nat.le_refl _, ⟨OwnK.nil_ _ _ _⟩, ⟨by simp⟩⟩
        case round =>
          obtain ⟨i, O, on, oc, out, rfl, rfl, hi, hb, hsz7, ho, hout⟩ := hrel
          have hon : Hd (out.length = on) := ⟨OwnK.len ho.out⟩
          have honl : on ≤ n := by
            have h1 := hon.out
            rw [hout.out, List.length_take] at h1
            have h2 : ((l.take i).filter (fun p => leK key p.1)).length ≤ (l.take i).length := List.length_filter_le _ _
            have h3 : (l.take i).length ≤ l.length := by rw [List.length_take]; omega
            have := HL.out
            omega
          by_cases hgo : i < n ∧ (on : Int) < most
          · obtain ⟨hlt, hmo⟩ := hgo
            have c3 : decide ((i : Int) < (n : Int)) = true := by simp; omega
            have c4 : decide ((on : Int) < most) = true := by simpa using hmo
            obtain ⟨p, hp⟩ : ∃ p, Hd (l[i]? = some p) := ⟨l[i]'(by have := HL.out; omega), ⟨List.getElem?_eq_getElem _⟩⟩
            have HRr := Hd.mk (HHl.out wr hb.out)
            obtain ⟨ad, rfl, y0, y1⟩ := RdK.get HRr.out hp.out
            have i1 : (i : Int) < (n : Int) := by omega
            have i0 : (0 : Int) ≤ (i : Int) := by omega
            have hst := Hd.mk (want_step hout.out hp.out (by rw [hon.out]; omega))
            have hlk := leK_not key p.1
            by_cases hk : Op.bytesLess p.1.toList key.toList = true
            · have h2 : ¬ leK key p.1 = true := by rw [hlk]; show ¬ (!Op.bytesLess p.1.toList key.toList) = true; rw [hk]; simp
              have e1 : Hd (out = ((l.take (i + 1)).filter (fun p => leK key p.1)).take most.toNat) := ⟨by rw [hst.out, if_neg h2]⟩
              clear hst hlk hout
              gi_wp2_with fail
              go_roundw
              case rel => exact ⟨i + 1, O, on, oc, out, rfl, by go_num, by omega, hb, hsz7, ho, e1⟩
              case measure => simp [intOf]; omega
            · have hk : Op.bytesLess p.1.toList key.toList = false := by simpa using hk
              have h2 : leK key p.1 = true := by rw [hlk]; show (!Op.bytesLess p.1.toList key.toList) = true; rw [hk]; rfl
              have e1 : Hd (out ++ [p] = ((l.take (i + 1)).filter (fun p => leK key p.1)).take most.toNat) := ⟨by rw [hst.out, if_pos h2]⟩
              have z2 : Below wr.heap.size wr (wr.alloc (.cells #[.string p.1, .int .i64 p.2] 113)) := (Below.refl _ _).alloc (Nat.le_refl _) _
              have O2 := Hd.mk (Own.below ho.out z2)
              have B2 := Hd.mk (hb.out.trans (z2.mono hb.out.size))
              clear hst hlk hout
              gi_wp2_with (gi_at_builtin; refine wlIn_appK rfl _ _ rfl rfl rfl O2.out (RdK.newAt _ [p] rfl rfl rfl) (by omega) (by simp; omega) ?_; rintro v w8 ⟨O8, oc8, rfl, o8, g8, -⟩)
              have hg8 := g8.size
              have O8' := Hd.mk o8
              have B8 := Hd.mk (B2.out.grown g8 B2.out.size (fun k e => by have := (Own.lt O2.out e).1; omega))
              have hsz8 : w7.heap.size ≤ w8.heap.size := by simp at hg8; omega
              clear o8 g8 hg8 z2
              go_roundw
              case rel => exact ⟨i + 1, O8, on + 1, oc8, _, rfl, by go_num, by omega, B8, hsz8, O8', e1⟩
              case measure => simp [intOf]; omega
          · have hwant : Hd (out = (l.filter (fun p => leK key p.1)).take most.toNat) := ⟨by
              by_cases hmo : (on : Int) < most
              · have hin : i = n := by
                  rcases Nat.lt_or_ge i n with h1 | h1
                  · exact absurd ⟨h1, hmo⟩ hgo
                  · omega
                have h1 := hout.out
                rw [List.take_of_length_le (l := l) (by rw [HL.out]; omega)] at h1
                exact h1
              · exact want_end hout.out (by rw [hon.out]; omega)⟩
            have hbs8 := hb.out.size
            have hends : (¬ (i : Int) < (n : Int)) ∧ decide ((i : Int) < (n : Int)) = false ∨ ((i : Int) < (n : Int)) ∧ decide ((i : Int) < (n : Int)) = true ∧ (¬ (on : Int) < most) ∧ decide ((on : Int) < most) = false := by
              by_cases h1 : i < n
              · right
                have h3 : ¬ (on : Int) < most := fun h2 => hgo ⟨h1, h2⟩
                refine ⟨by omega, by simp; omega, h3, by simpa using h3⟩
              · left; exact ⟨by omega, by simp; omega⟩
            clear hout hgo
            rcases hends with ⟨d1, d2⟩ | ⟨d1, d2, d3, d4⟩
            all_goals
              gi_wp2_with fail
              refine ⟨trivial, ?_⟩
              refine (callsIn_wide.2 (bytes66w A2 n2 c2 b wr (HRB.out wr hb.out) (by omega))).mono ?_
              rintro e w9 ⟨A9, n9, c9, rfl, o9, b9, ba9⟩
              have HF := from79 A9 n9 c9 b kind root key most w9 (Own8.rd o9) (by rw [← Own8.len o9, hbn.out]; omega) (Own8.le o9).1 (fun ad e => (ba9 ad e).2) (by omega) (by omega) hm2
              have B9 := Hd.mk (hb.out.trans (b9.mono hbs8))
              have O9 := Hd.mk (Own.below ho.out b9)
              by_cases hneg : most < 0
              · have hfr : fromP b kind root key most = ([], 1) := by unfold fromP; rw [if_pos hneg]
                rw [hfr] at HF
                have HF9 := Hd.mk HF
                clear HF o9 b9 ba9 hfr
                gi_wp2_with fail
                refine ⟨trivial, ?_⟩
                refine (callsIn_wide.2 HF9.out).mono ?_
                rintro e w10 ⟨O10, on10, oc10, rfl, o10, b10⟩
                have B10 := Hd.mk (B9.out.trans (b10.mono B9.out.size))
                clear o10 b10 HF9
                gi_wp2_with fail
                exact ⟨.bool true, by simp [results, Try.f20, go_sem], rfl, HB2.out.trans (B10.out.mono HB2.out.size)⟩
              · have hfr := HH.out.from_ key most (by omega)
                rw [← hwant.out] at hfr
                rw [hfr] at HF
                have HF9 := Hd.mk HF
                have hneg' : ¬ most < 0 := hneg
                clear HF o9 b9 ba9 hfr
                gi_wp2_with fail
                refine ⟨trivial, ?_⟩
                refine (callsIn_wide.2 HF9.out).mono ?_
                rintro e w10 ⟨O10, on10, oc10, rfl, o10, b10⟩
                have B10 := Hd.mk (B9.out.trans (b10.mono B9.out.size))
                have HP := pairs81 O10 O on10 oc10 on oc out out w10 (Own.rd o10) (Own.rd (Own.below O9.out b10)) (by have h5 := OwnK.len o10; have h6 := hon.out; simp only at h5; omega)
                simp only [decide_true] at HP
                have HP10 := Hd.mk HP
                clear o10 b10 HF9 HP
                gi_wp2_with fail
                refine ⟨trivial, ?_⟩
                refine (callsIn_wide.2 HP10.out).mono ?_
                rintro e w11 ⟨rfl, b11⟩
                have B11 := Hd.mk (B10.out.trans (b11.mono B10.out.size))
                have hbA := Hd.mk (show Below w11.heap.size w11 (w11.alloc (.cells #[.slice none 0 0] 84)) from (Below.refl _ _).alloc (Nat.le_refl _) _)
                have hs11 := B11.out.size
                clear b11 HP10
                gi_wp2_with fail
                refine ⟨trivial, ?_⟩
                refine (callsIn_wide.2 (bytes66w A2 n2 c2 b _ (HRB.out _ (B11.out.trans (hbA.out.mono hs11))) (by omega))).mono ?_
                rintro e W2 ⟨A6, n6, c6, rfl, o6, b6, ba6⟩
                have hnc6 := (Own8.le o6).1
                have hl6 : Hd (n6 ≤ 140737488355328) := ⟨by rw [← Own8.len o6, hbn.out]; omega⟩
                have hA6 : ∀ ad, A6 = some ad → w11.heap.size + 1 ≤ ad.block ∧ ad.block < W2.heap.size := fun ad e => by have := ba6 ad e; simp at this; omega
                have S2 := Hd.mk (hbA.out.trans (b6.mono hbA.out.size))
                have hib2 : W2.heap[w11.heap.size]? = some (.cells #[.slice none 0 0] 84 (0, 0)) := (b6.block _ (by simp)).trans (World.alloc_heap_new w11 _)
                have hs22 : w11.heap.size + 1 ≤ W2.heap.size := by have := b6.size; simp at this; omega
                gi_wp2_with fail
                refine ⟨trivial, ?_⟩
                refine (callsIn_wide.2 (each74 A6 n6 c6 kind root W2)).mono ?_
                rintro e W3 ⟨rfl, hw3⟩
                have b7 : Below W2.heap.size W2 W3 := by
                  rw [hw3]
                  exact (((Below.refl _ _).alloc (Nat.le_refl _) _).alloc (by simp) _).alloc (by simp; omega) _
                have S3 := Hd.mk (S2.out.trans (b7.mono S2.out.size))
                obtain ⟨v1, v2, v3, vs⟩ := three_boxesF hw3
                have vr : Rd8 W3 A6 n6 b := Rd8.below (Own8.rd o6) b7
                have hib3 : W3.heap[w11.heap.size]? = some (.cells #[.slice none 0 0] 84 (0, 0)) := (b7.block _ (by omega)).trans hib2
                have I0 := Hd.mk (show AllS w11 [] (fun q => q = w11.heap.size) none 0 0 W3 from ⟨hib3, OwnK.nil_ _ _ _, fun k e => by simp [ownBlk] at e, rfl, S3.out⟩)
                have hw3' := Hd.mk hw3
                clear hw3 o6 b6 ba6 hib2 hib3
                gi_wp2_with fail
                refine rangeC2 (p1 := 188) (p2 := 189) rfl (by omega) (gf := 124) (lb := #[.pointer (some ⟨W2.heap.size, 0, none⟩), .pointer (some ⟨W2.heap.size + 1, 0, none⟩), .pointer (some ⟨W2.heap.size + 1 + 1, 0, none⟩)]) rfl trivial (enters_of Try.func124 (by kernel_rfl) rfl)
                  (each_seqC 8 (by omega) W2.heap.size (W2.heap.size + 1) (W2.heap.size + 1 + 1) A6 n6 c6 b kind root W3 hl6.out hnc6 (by omega) (by omega) (fun ad e => by have := hA6 ad e; omega) v1 v2 v3 vr) (Below.refl _ _)
                  (fun x vals C W h => ⟨_, _, h⟩) (fun k hk => by rcases hk with rfl | rfl | rfl | ⟨ad, e, rfl⟩; (· omega); (· omega); (· omega); (· have := hA6 ad e; omega))
                  (fun x vals C C' W l o o' ho hc hC h => h) (fun W l o o' _ ho hc h => trivial) (fun pre W l o o' _ ho hc h => trivial)
                  (fun q => q = w11.heap.size) (fun q hq => ⟨by omega, fun hp => by rcases hp with e | e | e | ⟨ad, e, e'⟩; (· omega); (· omega); (· omega); (· have := hA6 ad e; omega)⟩) (fun v u t => (t.setIfInBounds 32 v).setIfInBounds 33 u)
                  (fun pre C W' => ∃ O on oc, AllS w11 pre C O on oc W')
                  (fun _ _ _ _ => False) ?hI (fun _ _ _ _ _ _ h _ _ => h) ?h0 ?assign ?body ?done (fun _ _ _ _ _ _ _ _ h => absurd h (by simp))
                case hI =>
                  rintro s C X Y row ⟨O, on, oc, hF⟩ hg hrow
                  exact ⟨O, on, oc, hF.grown hg (fun r e => ⟨(hrow r e).1, (hrow r e).2.elim (fun h => by omega) (fun h => h.elim)⟩)⟩
                case h0 => exact ⟨none, 0, 0, I0.out⟩
                case assign =>
                  intro r x v u C W' K he hK
                  gi_wp2
                  exact hK
                case body =>
                  rintro r pre x v u C W' hl ⟨O, on, oc, hF⟩ he hCl hsz hp
                  obtain ⟨rfl, rfl⟩ : v = .string x.1 ∧ u = .int .i64 x.2 := by
                    have e1 : #[v, u] = #[Value.string x.1, .int .i64 x.2] := he
                    simpa using e1
                  have hpl : on + 1 ≤ n := by
                    have h5 := hp.length_le
                    rw [HH.out.each, HL.out] at h5
                    have h6 := OwnK.len hF.own
                    simp at h5; omega
                  have hb1 : Below W'.heap.size W' (W'.alloc (.cells #[.string x.1, .int .i64 x.2] 113)) := (Below.refl _ _).alloc (Nat.le_refl _) _
                  have F1 := Hd.mk (hF.below hb1)
                  have zo := one_load' hF.ob
                  clear hF he hp hl hCl
                  simp only [List.setIfInBounds_toArray, List.set_cons_zero, List.set_cons_succ]
                  gi_wp2_with (gi_at_builtin; refine wlIn_appK rfl _ _ rfl rfl rfl F1.out.own (RdK.newAt _ [x] rfl rfl rfl) (by omega) (by simp; omega) ?_; rintro v w5 ha; obtain ⟨O', oc', rfl, hox, F5, T5⟩ := F1.out.app ha; have hfz := frozen_of_row _ _ 0 _ _ hox; have hcz := one_load' hox)
                  have hs5 := T5.size
                  have hb1s := hb1.size
                  exact ⟨(Tch.of_below hb1).trans (T5.mono fun k hk h => .inl h), O', on + 1, oc', F5.mono (fun k h => h.imp id (fun h => ⟨by omega, h.2⟩))⟩
                case done =>
                  rintro D C W' hD hCD ⟨O, on, oc, hF⟩ _ hkD
                  rw [HH.out.each] at hF
                  have zo := one_load' hF.ob
                  have BW := Hd.mk (HB2.out.trans ((B11.out.trans (hF.bel.mono hs11)).mono HB2.out.size))
                  have HP := pairs81 O A on oc n c l l W' (Own.rd hF.own) (HR.out W' BW.out) (by have h5 := OwnK.len hF.own; have h6 := HL.out; omega)
                  simp only [decide_true] at HP
                  have HP1 := Hd.mk HP
                  have hkD1 := Hd.mk hkD
                  clear hF hkD HP
                  gi_wp2_with fail
                  refine ⟨trivial, ?_⟩
                  refine (callsIn_wide.2 HP1.out).mono ?_
                  rintro e W5 ⟨rfl, b5⟩
                  have hk5 := (b5.block D (Array.getElem?_eq_some_iff.1 hkD1.out).1).trans hkD1.out
                  have BE := Hd.mk ((BW.out.trans (b5.mono BW.out.size)).grown (grownBy_putObj' W5 D (.deferred none)) (Nat.le_trans BW.out.size b5.size) (fun k e => by injection e with e; have := HB2.out.size; omega))
                  clear b5 HP1
                  gi_wp2_with fail
                  refine ⟨by simp, .inl ⟨_, _, rfl, run_takeDeferred hk5, ?_⟩⟩
                  exact ⟨.bool true, by simp [results, Try.f20, go_sem], rfl, BE.out⟩
end Go.Proofs.Ytkgdcglnkodgnaa
namespace Go.Proofs.Ytkgdcglnkodgnaa
open Go.ChangeShapes Go.WideShapes Go.ChangeAt Go.RowKit

theorem try_own : ownKnob Try.prog.godebug = none := by kernel_rfl
theorem try_laidOut : laidOutB Try.prog = true := by kernel_rfl
theorem try_cells5 : Try.prog.cellsOf 5 = 1 := by kernel_rfl
theorem try_bytes5 : Try.prog.bytesOf 5 = 1 := by kernel_rfl

section
variable {H : Type} {enc : TypeId × Value → H} {W : World} {base : Nat}
set_option maxRecDepth 100000 in
/-- A slice of bytes that came in. -/
theorem open8 {v : Value} {d : DataW H} {p : List MemPlace} (hj : DataW.Trod enc Try.prog W 0 (fun _ => true) true 22 v d p) (hv : Value.okWide Try.prog W .any base 22 v) :
    ∃ A n c l, v = .slice A n c ∧ Rd8 W A n l ∧ n ≤ c ∧ (c = 0 ∨ ∃ es sp, d = .slice es sp ∧ es.length + sp.length = c) := by
  obtain ⟨A, n, c, rfl⟩ := okWide_slice Try.underlying22 hv
  obtain ⟨fuel, hf⟩ := hj
  rcases open_ints Try.underlying22 Try.underlying5 try_cells5 hf with ⟨hcs, _⟩ | ⟨x, l, c', zs, hcs, _, hl, hm, hz, hx, hcell, hwz⟩
  · simp [Value.cells] at hcs
    obtain ⟨rfl, rfl, rfl⟩ := hcs
    exact ⟨none, 0, 0, [], rfl, Rd8.nil_, Nat.le_refl _, .inl rfl⟩
  · simp [Value.cells] at hcs
    obtain ⟨rfl, rfl, rfl⟩ := hcs
    have hz' : zs.length = c := by simpa using hz
    refine ⟨some x, n, c, (zs.take n).map (fun z => UInt8.ofNat z.toNat), rfl, ?_, hl, .inr ⟨_, _, (Prod.mk.inj hx).1, ?_⟩⟩
    · have hbc : bc ((zs.take n).map (fun z => UInt8.ofNat z.toNat)) = (zs.take n).map (Value.int .u8) := by
        simp only [bc, List.map_map]
        refine List.map_congr_left fun z hz => ?_
        have hw := hwz z (List.mem_of_mem_take hz)
        have hb := bounds_u8 hw
        simp only [Function.comp_apply, UInt8.toNat_ofNat']
        congr 1
        omega
      refine ⟨by rw [bc_length, List.length_map, List.length_take]; omega, fun hn => ⟨x, rfl, fun j u hu => ?_⟩⟩
      rw [hbc, List.getElem?_map, List.getElem?_take] at hu
      by_cases hjn : j < n
      · rw [if_pos hjn, List.getElem?_eq_getElem (by omega)] at hu
        rw [hcell j (by omega), List.getD_eq_getElem?_getD, List.getElem?_eq_getElem (by omega)]
        simpa using hu
      · rw [if_neg hjn] at hu; simp at hu
    · simp [lits, List.length_map, List.length_take, List.length_drop]; omega
end
end Go.Proofs.Ytkgdcglnkodgnaa
namespace Go.Proofs.Ytkgdcglnkodgnaa
open Go.ChangeShapes Go.WideShapes Go.ChangeAt Go.RowKit
/-- A pair's cells. -/
def kCells (p : Kp) : List Value := [.string p.1, .int .i64 p.2]
theorem kc_get (l : List Kp) (k j : Nat) (hj : j < 2) {p : Kp} (hk : l[k]? = some p) : (kc l)[k * 2 + j]? = (kCells p)[j]? := by
  induction l generalizing k with
  | nil => simp at hk
  | cons q r ih =>
    cases k with
    | zero =>
      simp at hk; subst hk
      match j, hj with
      | 0, _ => rfl
      | 1, _ => rfl
    | succ k =>
      rw [show (k + 1) * 2 + j = (k * 2 + j) + 2 by omega]
      exact ih k (by simpa using hk)
/-- A bounded pair. -/
def KpB (p : Kp) : Prop := p.1.size ≤ 9223372036854775807 ∧ -9223372036854775808 ≤ p.2 ∧ p.2 ≤ 9223372036854775807
theorem try_cells113 : Try.prog.cellsOf 113 = 2 := by kernel_rfl
theorem try_cells9 : Try.prog.cellsOf 9 = 1 := by kernel_rfl
theorem try_cells3' : Try.prog.cellsOf 3 = 1 := by kernel_rfl
theorem try_bytes113 : Try.prog.bytesOf 113 = 24 := by kernel_rfl
section
variable {H : Type} {enc : TypeId × Value → H} {W : World} {base : Nat} {spare : Nat → Bool} {held : Bool}
set_option maxRecDepth 100000 in
theorem openKp {n : Nat} {cs : List Value} {x : DataW H × List MemPlace} (h : DataW.trod enc Try.prog W base spare held n 113 cs = some x) : ∃ p, cs = kCells p ∧ KpB p := by
  obtain ⟨y0, y1, m, _, hl, h0, h1⟩ := trod_struct2 Try.underlying113 h
  rw [try_cells113] at hl
  match cs, hl with
  | [v0, v1], _ =>
    obtain ⟨a, e0, _, w0⟩ := DataW.trod_string Try.underlying9 h0
    obtain ⟨b, e1, _, w1⟩ := DataW.trod_int Try.underlying3 h1
    simp [try_cells3', try_cells9] at e0 e1
    subst e0; subst e1
    have hb := bounds_i64 w1
    exact ⟨(a, b), rfl, by unfold maxLen at w0; simp only; omega, hb.1, hb.2⟩
set_option maxRecDepth 100000 in
theorem openK {v : Value} {d : DataW H} {p : List MemPlace} (hj : DataW.Trod enc Try.prog W 0 (fun _ => true) true 84 v d p) (hv : Value.okWide Try.prog W .any base 84 v) :
    ∃ A n c l, v = .slice A n c ∧ RdK W A n l ∧ n ≤ c ∧ (∀ a ∈ l, KpB a) ∧ (c = 0 ∨ ∃ es sp, d = .slice es sp ∧ es.length + sp.length = c) := by
  obtain ⟨A, n, c, rfl⟩ := okWide_slice Try.underlying84 hv
  obtain ⟨fuel, hf⟩ := hj
  rcases Go.Deep.open_slice Try.underlying84 hf with ⟨hcs, _⟩ | ⟨a, len, cap, m, q, D, Pl, hcs, _, hl, hm, hmm, hx, hr⟩
  · simp [Value.cells] at hcs
    obtain ⟨rfl, rfl, rfl⟩ := hcs
    exact ⟨none, 0, 0, [], rfl, Rd.nil_, Nat.le_refl _, by simp, .inl rfl⟩
  · simp [Value.cells] at hcs
    obtain ⟨rfl, rfl, rfl⟩ := hcs
    simp only [if_true] at hmm
    have hmc := hmm
    have each : ∀ i, i < n → ∃ x : Kp, KpB x ∧ ∀ j, j < 2 → W.cell? (a.add (i * 2 + j)) = (kCells x)[j]? := by
      intro i hi
      obtain ⟨cs', h1, h2⟩ := hr i (by omega)
      rw [try_cells113] at h1
      obtain ⟨x, rfl, hb⟩ := openKp h2
      refine ⟨x, hb, fun j hj => ?_⟩
      have := (World.cells?_some h1).2.2 j hj
      rw [add_add'] at this
      exact this
    obtain ⟨X, hX⟩ : ∃ X : Nat → Kp, ∀ i, i < n → KpB (X i) ∧ ∀ j, j < 2 → W.cell? (a.add (i * 2 + j)) = (kCells (X i))[j]? :=
      ⟨fun i => if h : i < n then Classical.choose (each i h) else (⟨#[]⟩, 0), fun i hi => by simp only [hi, dif_pos]; exact Classical.choose_spec (each i hi)⟩
    refine ⟨some a, n, c, (List.range n).map X, rfl, ⟨by rw [kc_length]; simp, fun hn => ⟨a, rfl, fun j u hu => ?_⟩⟩, hl, fun x hx => ?_, .inr ⟨_, _, (Prod.mk.inj hx).1, by simp; omega⟩⟩
    · have hjl : j < (kc ((List.range n).map X)).length := (List.getElem?_eq_some_iff.1 hu).1
      rw [kc_length] at hjl
      simp at hjl
      have hjn : j / 2 < n := by omega
      have hg : ((List.range n).map X)[j / 2]? = some (X (j / 2)) := by rw [List.getElem?_map, List.getElem?_range hjn]; rfl
      have := kc_get _ (j / 2) (j % 2) (by omega) hg
      rw [show j / 2 * 2 + j % 2 = j by omega] at this
      rw [this] at hu
      rw [← hu, ← (hX _ hjn).2 (j % 2) (by omega)]
      congr 2
      omega
    · simp at hx
      obtain ⟨i, hi, rfl⟩ := hx
      exact (hX i hi).1
end
end Go.Proofs.Ytkgdcglnkodgnaa
namespace Go.Proofs.Ytkgdcglnkodgnaa.treeFound
open Go.ChangeShapes Go.WideShapes Go.ChangeAt Go.RowKit
open Go.ChangeMaps (open_string shut_string)
set_option maxRecDepth 100000 in
theorem lifted (os : Os) (started : os.Started) (H : Type) (enc : TypeId × Value → H) :
    ReturnsInHanded {} Try.checked os 20 .any (Rows.treeFoundSpec.pre6 enc Try.prog Try.f20 Rows.treeFoundRow.domain false) (Rows.treeFoundSpec.post enc Try.prog Try.f20 false true false false) := by
  refine returnsInHanded_of_change_sized (C := Try.checked) try_own started (by kernel_rfl) Try.func20
    (ChangeSpec.witness6 (enc := enc) (C := Try.checked) false ⟨#[], #[.int .u8 0, .slice none 0 0, .int .i64 0, .int .i64 0, .string ⟨#[]⟩, .int .i64 0], []⟩ 8 (by kernel_rfl) (by kernel_rfl) (by kernel_rfl) (by kernel_rfl)) ?_
  intro W base args ds gs before hval0 hW _ hsz0 _
  have hval : ∀ (j : Nat) t v, Try.f20.params[j]? = some t → args[j]? = some v → Value.okWide Try.prog W .any base t v := hval0
  have hsz : (DataW.weightsEach Try.prog (Try.f20.params.toList ++ Rows.treeFoundSpec.plain.varTypes Try.prog) (ds ++ gs)).all (· ≤ reachBytes) = true := hsz0
  have hW' := hW
  obtain ⟨p, q, hA0, hV, rfl, hfz, hnd⟩ := hW
  have hA : DataW.TrodAll enc Try.prog W 0 (fun _ => true) true Try.f20.params.toList args.toList ds p := hA0
  rw [Try.params20] at hA hval hsz
  obtain ⟨v0, vs0, d0, ds0, p0, q0, hargs, rfl, rfl, h0, r0⟩ := trodAll_cons hA
  obtain ⟨v1, vs1, d1, ds1, p1, q1, rfl, rfl, rfl, h1, r1⟩ := trodAll_cons r0
  obtain ⟨v2, vs2, d2, ds2, p2, q2, rfl, rfl, rfl, h2, r2⟩ := trodAll_cons r1
  obtain ⟨v3, vs3, d3, ds3, p3, q3, rfl, rfl, rfl, h3, r3⟩ := trodAll_cons r2
  obtain ⟨v4, vs4, d4, ds4, p4, q4, rfl, rfl, rfl, h4, r4⟩ := trodAll_cons r3
  obtain ⟨v5, vs5, d5, ds5, p5, q5, rfl, rfl, rfl, h5, r5⟩ := trodAll_cons r4
  obtain ⟨rfl, rfl, rfl⟩ := trodAll_nil r5
  obtain rfl : args = #[v0, v1, v2, v3, v4, v5] := by cases args; simp_all
  obtain ⟨rfl, rfl⟩ := trodVars_none hV
  obtain ⟨a0, rfl, rfl, rfl, w0⟩ := open_int Try.underlying5 (hval 0 5 v0 rfl rfl) h0
  have bd0 := bounds_u8 w0
  obtain ⟨k0, rfl⟩ : ∃ k : UInt8, a0 = (k.toNat : Int) := ⟨UInt8.ofNat a0.toNat, by simp; omega⟩
  have k1 := h1
  have lt1 : ∀ x ∈ p1, x.block < W.heap.size := by obtain ⟨m, hm⟩ := k1; exact DataW.trod_lt m _ _ _ hm
  obtain ⟨A1, n1, c1, l1, hv1, r81, nc1, bnd1, hd1⟩ := openK h1 (hval 1 84 v1 rfl rfl)
  subst hv1
  have b1 : n1 ≤ 5864062014805 := by
    rcases hd1 with h0 | ⟨es, sp, hd, hl⟩
    · omega
    · have := sized_slice hsz (j := 1) (t := 84) (e := 113) rfl (by rw [← hd]; rfl) Try.underlying84
      rw [try_bytes113, hl] at this
      simp only [reachBytes] at this
      omega
  obtain ⟨a2, rfl, rfl, rfl, w2⟩ := open_int Try.underlying3 (hval 2 3 v2 rfl rfl) h2
  have bd2 := bounds_i64 w2
  obtain ⟨a3, rfl, rfl, rfl, w3⟩ := open_int Try.underlying3 (hval 3 3 v3 rfl rfl) h3
  have bd3 := bounds_i64 w3
  obtain ⟨s4, rfl, rfl, rfl, ws4⟩ := open_string Try.underlying9 (hval 4 9 v4 rfl rfl) h4
  have b4 : s4.size ≤ 140737488355328 := by
    have := sized_string hsz (j := 4) (t := 9) rfl rfl
    simp only [reachBytes] at this
    have e : s4.data.toList.length = s4.size := by rw [Array.length_toList]; rfl
    omega
  obtain ⟨a5, rfl, rfl, rfl, w5⟩ := open_int Try.underlying3 (hval 5 3 v5 rfl rfl) h5
  have bd5 := bounds_i64 w5
  clear hA0 hval0 hsz0
  refine (callsIn_wide.1 (treeFound20 k0 A1 n1 c1 l1 a2 a3 s4 a5 W r81 b1 (fun p hp => (bnd1 p hp).1) bd5.2)).mono fun e W' ⟨he, bel⟩ => ?_
  subst he
  exact ⟨_, rfl, _, _, _, [], _, [], hW', trodAll_mk1 (shut_bool Try.underlying4 _), (trodAll_cons_mk (shut_int Try.underlying5 w0) (trodAll_cons_mk (Below.trod try_laidOut (by kernel_rfl) (of_decide_eq_true (by kernel_rfl)) k1 bel lt1) (trodAll_cons_mk (shut_int Try.underlying3 w2) (trodAll_cons_mk (shut_int Try.underlying3 w3) (trodAll_cons_mk (shut_string Try.underlying9 ws4) (trodAll_cons_mk (shut_int Try.underlying3 w5) trodAll_mk0)))))), rfl, bel.frame _, fun h => by cases h⟩

theorem over : Rows.treeFoundRow.holds Try.pinned (OpenSpec.ofChange Rows.treeFoundSpec) :=
  OpenClaim.holds_of_wide 20 Try.f20 rfl rfl rfl rfl rfl rfl rfl ⟨rfl, rfl, rfl, rfl, rfl⟩ rfl rfl rfl rfl rfl (by kernel_rfl) Try.func20 (by kernel_rfl)
    (of_decide_eq_true (by kernel_rfl)) (by unfold Func.isWrapper; first | (rw [if_pos (by decide +kernel)]; kernel_rfl) | (rw [if_neg (by decide +kernel)]; exact ⟨rfl, rfl⟩))
    (fun os started H enc _ => lifted os started H enc)
end Go.Proofs.Ytkgdcglnkodgnaa.treeFound
namespace Go.Proofs.Ytkgdcglnkodgnaa
theorem treeFound_holds : Rows.TreeFoundSaid := treeFound.over
#print axioms treeFound_holds
end Go.Proofs.Ytkgdcglnkodgnaa
