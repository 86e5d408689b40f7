/-
  The statement TreeGoes: whatever the input, the law returns true and leaves its arguments as they were. No condition beyond the row's own.
-/
import Derived.Test.YtkgdcglnkodgnaaCk
import Derived.Test.YtkgdcglnkodgnaaTreeF
import Derived.Test.YtkgdcglnkodgnaaAwake
import Derived.Test.YtkgdcglnkodgnaaOps
import Derived.Test.YtkgdcglnkodgnaaLf
import Derived.Test.YtkgdcglnkodgnaaRng
import Derived.Shelf.Abstract
import Derived.Test.YtkgdcglnkodgnaaDn
import Derived.Test.YtkgdcglnkodgnaaRp
import Derived.ProofKit
import Derived.SizedLaws
import Derived.OpenShut
import Derived.ShutString
import Derived.Test.YtkgdcglnkodgnaaRows
namespace Go.Proofs.Ytkgdcglnkodgnaa
open Go.RowKit
set_option maxRecDepth 100000 in
set_option maxHeartbeats 1000000 in
theorem check67 (A : Option Addr) (n c : Nat) (l : List UInt8) (kind : UInt8) (root : Int) (w : World) (h : Rd8 w A n l) (hn : n ≤ 140737488355328) (hnc : n ≤ c) (hA : ∀ ad, A = some ad → ad.block < w.heap.size) (hlo : -9223372036854775808 ≤ root) (hhi : root ≤ 9223372036854775807) :
    Calls Try.prog 67 #[.slice A n c, .int .u8 (kind.toNat : Int), .int .i64 root] w fun e w' => e = .returned (.tuple #[.int .i64 (checkP l kind root).1, .int .i64 ((checkP l kind root).2 : Int)]) ∧ Below w.heap.size w w' := by
  obtain ⟨s', er, hk⟩ : ∃ s' er, Hd (checkK l kind 14 root (-1) ⟨#[]⟩ (0, ⟨#[]⟩) = (s', er)) := ⟨_, _, ⟨rfl⟩⟩
  have hcp : Hd (checkP l kind root = if er ≠ 0 then (0, er) else ((s'.1 : Int), 0)) := ⟨by unfold checkP; rw [hk.out]⟩
  obtain ⟨V, hV⟩ : ∃ V, Hd (w.alloc (.cells #[.slice A n c, .int .u8 (kind.toNat : Int), .int .i64 0, .string ⟨#[]⟩] 161) = V) := ⟨_, ⟨rfl⟩⟩
  have HB : Below w.heap.size w V := by rw [← hV.out]; exact (Below.refl _ _).alloc (Nat.le_refl _) _
  have HX : V.heap[w.heap.size]? = some (.cells #[.slice A n c, .int .u8 (kind.toNat : Int), .int .i64 0, .string ⟨#[]⟩] 161 (0, 0)) := by rw [← hV.out]; exact heap_alloc_new w _
  have HN := Hd.mk (node111 w.heap.size A n c l kind hn hnc (fun ad e => by have := hA ad e; omega) 14 root (-1) ⟨#[]⟩ (0, ⟨#[]⟩) V HX (h.below HB) (goodW_start _ _) hlo hhi (.inl ⟨rfl, rfl⟩))
  rw [hk.out] at HN
  have HB' := Hd.mk HB
  clear h HX HB
  go_enter Try.func67, Try.ntmps67
  go_wp2_with fail
  rw [hV.out]
  refine HN.out.mono ?_
  rintro e w1 ⟨rfl, C1, G1⟩
  have HB1 := Hd.mk (HB'.out.grown G1 HB'.out.size (fun k e => by injection e with e; omega))
  obtain ⟨z0, z1, z2, z3⟩ := chk_load C1
  by_cases he : er = 0
  · subst he
    have hr : Hd (checkP l kind root = ((s'.1 : Int), 0)) := ⟨by rw [hcp.out, if_neg (by simp)]⟩
    clear hcp
    go_wp2_with fail
    go_ret2
    rw [hr.out]
    exact ⟨rfl, HB1.out⟩
  · have hr : Hd (checkP l kind root = (0, er)) := ⟨by rw [hcp.out, if_pos he]⟩
    have e1 : ((er : Int) != 0) = true := by simp; omega
    clear hcp he
    go_wp2_with fail
    go_ret2
    rw [hr.out]
    exact ⟨rfl, HB1.out⟩
end Go.Proofs.Ytkgdcglnkodgnaa
namespace Go.Proofs.Ytkgdcglnkodgnaa
open Go.RowKit
/-- A call that answers pairs in new memory. -/
def RetK (w : World) (l : List Kp) (e : Ending) (w' : World) : Prop := ∃ A n c, e = .returned (.slice A n c) ∧ OwnK w' w.heap.size A n c l ∧ Below w.heap.size w w'
section
variable {w : World} {ops : Array Oper} {rest : List Oper} {o : Oper} {a : Act} {Q : Exit → Act → World → Prop}
theorem wl_appK2 (hgd : o.guard = none) (s x : Operand) (ho : o.op = .call { callee := .builtin .append, args := #[s, x], argTypes := #[84, 84] })
    {base : Nat} {A S : Option Addr} {n c m cs : Nat} {l k : List Kp} (hs : a.eval s = .slice A n c) (hx : a.eval x = .slice S m cs)
    (hown : OwnK w base A n c l) (hr : RdK w S m k) (hb : (n + m) * 24 ≤ 140737488355328) (hbase : base ≤ w.heap.size)
    (h : ∀ v w', AppK w base A c (n + m) (l ++ k) v w' → wpList Try.prog ops Q rest (a.put o.dst v) w') : wpList Try.prog ops Q (o :: rest) a w := by
  obtain ⟨i0, hi, hz0, hz1, hz2⟩ := info_parts info113
  obtain ⟨A', c', w', hrun, hap⟩ := run_append_rd (P := Try.prog) w base 84 o.type 113 i0 _ 2 24 Try.underlying84 hi hz0 hz1 hz2 rfl A n c (kc l) hown S m cs (kc k) hr (kc_one k) (by unfold maxLen; omega) hb hbase
  refine wpList_run w hgd s x 84 84 ho _ _ hs hx (R := AppK w base A c (n + m) (l ++ k)) ⟨_, w', hrun, A', c', rfl, ?_, hap.2⟩ h
  have := hap.1
  rw [← kc_append] at this
  exact this
end
set_option maxRecDepth 100000 in
set_option maxHeartbeats 400000 in
theorem twin62 (A : Option Addr) (n c : Nat) (l : List Kp) (w : World) (h : RdK w A n l) (hn : n ≤ 5864062014805) : Calls Try.prog 62 #[.slice A n c] w (RetK w l) := by
  go_enter Try.func62, Try.ntmps62
  go_wp2_with (first | (at_builtin; refine wl_appK2 rfl (.tmp 3) (.tmp 4) rfl rfl rfl (OwnK.nil_ _ w.heap.size _) (Rd.below h ((Below.refl _ _).alloc (Nat.le_refl _) _)) (by omega) (by simp) ?_; rintro v w1 ⟨A', c', rfl, hown, hg, _⟩))
  go_ret
  simp only [Nat.zero_add, List.nil_append] at hown ⊢
  exact ⟨_, _, _, rfl, hown, below_appK ((Below.refl _ _).alloc (Nat.le_refl _) _) (by simp) (OwnK.nil_ _ _ _) hg⟩
set_option maxRecDepth 100000 in
set_option maxHeartbeats 400000 in
theorem bytes66 (A : Option Addr) (n c : Nat) (l : List UInt8) (w : World) (h : Rd8 w A n l) (hn : n ≤ 140737488355328) : Calls Try.prog 66 #[.slice A n c] w (Ret8 w l) := by
  go_enter Try.func66, Try.ntmps66
  go_wp2_with (first | (at_builtin; refine wl_app8 rfl (.tmp 3) (.tmp 4) rfl rfl rfl (Own8.nil_ _ w.heap.size _) (Rd8.below h ((Below.refl _ _).alloc (Nat.le_refl _) _)) (by omega) (by simp) ?_; rintro v w1 ⟨A', c', rfl, hown, hg, _⟩))
  go_ret
  simp only [Nat.zero_add, List.nil_append] at hown ⊢
  exact ⟨_, _, _, rfl, hown, below_app ((Below.refl _ _).alloc (Nat.le_refl _) _) (by simp) (Own8.nil_ _ _ _) hg⟩
theorem lookK_skip {p : Kp} {r : List Kp} {key : ByteArray} (h : p.1 ≠ key) : lookK (p :: r) key = lookK r key := lookK_right (xs := [p]) (by simpa using h)
set_option maxRecDepth 100000 in
set_option maxHeartbeats 1000000 in
theorem at69 (A : Option Addr) (n c : Nat) (l : List Kp) (key : ByteArray) (w : World) (h : RdK w A n l) (hn : n ≤ 5864062014805) :
    Calls Try.prog 69 #[.slice A n c, .string key] w fun e w' => e = .returned (.tuple #[.int .i64 (lookK l key).1, .bool (lookK l key).2]) ∧ w' = w := by
  have HL := Hd.mk h.len
  have HR := Hd.mk h
  go_enter Try.func69, Try.ntmps69
  go_wp2_with fail
  go_loopw [6] (fun i wr => ∃ j : Nat, i = .int .i64 (j : Int) ∧ j ≤ n ∧ wr = w ∧ Hd (lookK (l.drop j) key = lookK l key))
    (fun i _ => n - (intOf i).toNat)
  case atStart => exact ⟨0, rfl, by omega, rfl, ⟨rfl⟩⟩
  case round =>
    obtain ⟨j, rfl, hj, rfl, hb⟩ := hrel
    by_cases hlt : j < n
    · obtain ⟨p, hp⟩ : ∃ p, Hd (l[j]? = some p) := ⟨l[j]'(by have := HL.out; omega), ⟨List.getElem?_eq_getElem _⟩⟩
      have hd : Hd (l.drop j = p :: l.drop (j + 1)) := ⟨by
        obtain ⟨hk, e⟩ := List.getElem?_eq_some_iff.1 hp.out
        rw [← e]; exact List.drop_eq_getElem_cons hk⟩
      obtain ⟨ad, rfl, q0, q1⟩ := RdK.get HR.out hp.out
      have hji : (j : Int) < (n : Int) := by omega
      have hj0 : (0 : Int) ≤ (j : Int) := by omega
      by_cases hk : p.1 = key
      · have k2 : (p.1.toList == key.toList) = true := by simp [hk]
        have hr : Hd (lookK l key = (p.2, true)) := ⟨by rw [← hb.out, hd.out, ← hk, lookK_one]⟩
        clear hk hb
        go_wp2_with fail
        go_ret2
        rw [hr.out]
        exact ⟨rfl, rfl⟩
      · have k2 : (p.1.toList == key.toList) = false := by rw [beq_eq_false_iff_ne]; exact fun e => hk (key_ext e)
        have hr : Hd (lookK (l.drop (j + 1)) key = lookK l key) := ⟨by rw [← hb.out, hd.out, lookK_skip hk]⟩
        clear hk hb
        go_wp2_with fail
        go_roundw
        case rel => exact ⟨j + 1, by go_num, by omega, trivial, hr⟩
        case measure => simp [intOf]; omega
    · obtain rfl : j = n := by omega
      have hji : ¬ ((j : Int) < (j : Int)) := by omega
      have hr : Hd (lookK l key = (0, false)) := ⟨by rw [← hb.out, List.drop_of_length_le (by rw [HL.out]; exact Nat.le_refl _)]; rfl⟩
      clear hb
      go_wp2_with fail
      go_ret2
      rw [hr.out]
      exact ⟨rfl, rfl⟩
def kA : ByteArray := ⟨#[97]⟩
def kB : ByteArray := ⟨#[98]⟩
def exL : List Kp := [(kA, 1), (kB, 2)]
theorem ex_lt : ltK kA kB = true := by
  show Op.bytesLess kA.toList kB.toList = true
  rw [ByteArray.toList_eq, ByteArray.toList_eq]
  rfl
theorem ex_bytes : pairsB exL = [1, 97, 1, 1, 98, 2] := by
  simp [pairsB, exL, pairB, putU, kA, kB, ByteArray.size]
theorem ex_len (p : Kp) (hp : p ∈ exL) : (pairB p).length = 3 := by
  simp only [exL, List.mem_cons, List.not_mem_nil, or_false] at hp
  rcases hp with rfl | rfl <;> simp [pairB, putU, kA, kB, ByteArray.size]
theorem ex_chunks : chunks exL = [exL] := by
  have h1 := ex_len (kA, 1) (by simp [exL])
  have h2 := ex_len (kB, 2) (by simp [exL])
  unfold chunks exL
  rw [chunkK, if_neg (by simp), chunkK, if_neg (by rw [h1, h2]; simp), chunkK]
  rfl
theorem ex_build : buildK 5 0 exL = (mkPage 5 0 [0, 1, 97, 1, 1, 98, 2], 0, 1, 0) := by
  have hbad : badK none exL = 0 := by
    unfold exL
    rw [badK, if_neg (by simp [notAhead, kA, ByteArray.size]), if_neg (by simp), badK, if_neg, if_neg (by simp)]
    · rfl
    · simp only [notAhead, not_or]
      refine ⟨by simp [kB, ByteArray.size], ?_⟩
      rw [leK_not, ex_lt]; simp
  have hlay : layK 5 (UInt8.ofNat 0) 0 (chunks exL) = (mkPage 5 0 [0, 1, 97, 1, 1, 98, 2], [(kA, 0)], 0) := by
    rw [ex_chunks, layK_ok (by omega), ex_bytes]
    simp [layK, headK, exL]
  have hup : upK 5 (exL.length + 1) 0 0 exL [] = (mkPage 5 0 [0, 1, 97, 1, 1, 98, 2], 1, 0) := by
    rw [upK_end (by rw [hlay]) (by rw [ex_chunks]; simp), hlay, ex_chunks]
    simp
  unfold buildK
  rw [if_neg (by simp [exL]), if_neg (by rw [hbad]; simp), hup]
  simp
theorem ex_held : Held (mkPage 5 0 [0, 1, 97, 1, 1, 98, 2]) 5 0 exL := by
  have h := (built ex_build 0 (by omega) (by omega)).2.2.2.2.2.1
  simpa [zeros] using h
theorem ex_find : findP (mkPage 5 0 [0, 1, 97, 1, 1, 98, 2]) 5 0 kB = (2, true, 0) := by
  rw [ex_held.find]
  have : lookK exL kB = (2, true) := by
    unfold exL
    rw [lookK_skip (by intro e; have := ex_lt; rw [show (kA, (1 : Int)).1 = kA from rfl] at e; rw [e, ltK_irrefl] at this; cases this)]
    exact lookK_one (p := (kB, 2))
  rw [this]
theorem ex_check : checkP (mkPage 5 0 [0, 1, 97, 1, 1, 98, 2]) 5 0 = (2, 0) := by
  rw [ex_held.check]; rfl
set_option maxRecDepth 100000 in
set_option maxHeartbeats 1000000 in
theorem awake64 (w : World) : Calls Try.prog 64 #[] w fun e w' => e = .returned (.bool true) ∧ Below w.heap.size w w' := by
  have HX := Hd.mk ex_build
  have HF := Hd.mk ex_find
  have HC := Hd.mk ex_check
  have G6 := Hd.mk (show (mkPage 5 0 [0, 1, 97, 1, 1, 98, 2]).getD 6 0 = 0 by simp [mkPage, body, low4])
  have G7 := Hd.mk (show (mkPage 5 0 [0, 1, 97, 1, 1, 98, 2]).getD 7 0 = 1 by simp [mkPage, body, low4])
  have G8 := Hd.mk (show (mkPage 5 0 [0, 1, 97, 1, 1, 98, 2]).getD 8 0 = 97 by simp [mkPage, body, low4])
  have HL := Hd.mk (mkPage_length 5 0 [0, 1, 97, 1, 1, 98, 2] (by simp))
  generalize mkPage 5 0 [0, 1, 97, 1, 1, 98, 2] = pg at *
  have H1 := Hd.mk (build61 5 0 (some ⟨w.heap.size, 0, none⟩) 2 2 exL (w.alloc (.cells #[.string kA, .int .i64 1, .string kB, .int .i64 2] 113)) (RdK.newAt w exL rfl rfl rfl) (fun _ ad e => by injection e with e; subst e; simp) (by omega) (by omega) (by omega)
    (fun p hp => by simp only [exL, List.mem_cons, List.not_mem_nil, or_false] at hp; rcases hp with rfl | rfl <;> simp [kA, kB, ByteArray.size]))
  rw [HX.out] at H1
  have B1 := Hd.mk (show Below w.heap.size w (w.alloc (.cells #[.string kA, .int .i64 1, .string kB, .int .i64 2] 113)) from (Below.refl _ _).alloc (Nat.le_refl _) _)
  go_enter Try.func64, Try.ntmps64
  go_wp2_with fail
  refine H1.out.mono ?_
  rintro e w1 ⟨A1, n1, c1, rfl, ho, hb⟩
  have HB1 := Hd.mk (B1.out.trans (hb.mono B1.out.size))
  have HO1 := Hd.mk (Own8.mono ho B1.out.size)
  obtain rfl : n1 = 256 := by rw [← Own8.len ho]; exact HL.out
  obtain ⟨ad, rfl⟩ := Own8.nsome HO1.out (by omega)
  have hr := Own8.rd HO1.out
  obtain ⟨_, hA, c6⟩ := hr.getD (k := 6) (by omega)
  injection hA with hA; subst hA
  obtain ⟨_, hA, c7⟩ := hr.getD (k := 7) (by omega)
  injection hA with hA; subst hA
  obtain ⟨_, hA, c8⟩ := hr.getD (k := 8) (by omega)
  injection hA with hA; subst hA
  simp only at c6 c7 c8
  rw [G6.out] at c6
  rw [G7.out] at c7
  rw [G8.out] at c8
  have C6 := Hd.mk c6
  have C7 := Hd.mk c7
  have C8 := Hd.mk c8
  have hnc := (Own8.le HO1.out).1
  clear c6 c7 c8 ho hb hr H1 B1
  have HF1 := Hd.mk (find68 (some ad) 256 c1 pg 5 0 kB w1 (Own8.rd HO1.out) (by omega) hnc (by omega) (by omega))
  rw [HF.out] at HF1
  go_wp2_with fail
  refine HF1.out.mono ?_
  rintro e w2 ⟨rfl, hb2⟩
  have HB2 := Hd.mk (HB1.out.trans (hb2.mono HB1.out.size))
  have HO2 := Hd.mk (Own8.below HO1.out hb2)
  have HC1 := Hd.mk (check67 (some ad) 256 c1 pg 5 0 w2 (Own8.rd HO2.out) (by omega) hnc (fun ad' e => by
    injection e with e; subst e
    exact (Own8.lt HO2.out (g := ad.block) (by simp [ownBlk]; omega)).2) (by omega) (by omega))
  rw [HC.out] at HC1
  have D6 := Hd.mk ((hb2.cell (cell_lt C6.out)).trans C6.out)
  have D7 := Hd.mk ((hb2.cell (cell_lt C7.out)).trans C7.out)
  have D8 := Hd.mk ((hb2.cell (cell_lt C8.out)).trans C8.out)
  clear hb2
  go_wp2_with fail
  refine HC1.out.mono ?_
  rintro e w3 ⟨rfl, hb3⟩
  have HB3 := Hd.mk (HB2.out.trans (hb3.mono HB2.out.size))
  have e6 := (hb3.cell (cell_lt D6.out)).trans D6.out
  have e7 := (hb3.cell (cell_lt D7.out)).trans D7.out
  have e8 := (hb3.cell (cell_lt D8.out)).trans D8.out
  simp [Addr.add] at e6 e7 e8
  clear hb3
  go_wp2_with fail
  go_ret
  exact ⟨rfl, HB3.out⟩
end Go.Proofs.Ytkgdcglnkodgnaa
namespace Go.Proofs.Ytkgdcglnkodgnaa
open Go.RowKit
/-- append: there is room; the answer lies where the destination lay. -/
theorem run_append_stay {P : Program} {w : World} (base : Nat) (t ty e : TypeId) (i : TypeInfo) (size : Nat) (ht : P.underlying t = some (.slice e)) (hi : P.info? e = some i) (hsize : i.size = size)
    (A : Option Addr) (n c : Nat) (xs : List Value) (hown : Own w base e size A n c xs)
    (S : Option Addr) (m cs : Nat) (news : List Value) (hr : Rd w size S m news) (h1 : ∀ u ∈ news, u.oneCell' = true) (hroom : n + m ≤ c) :
    ∃ w', (Builtin.append_ #[t, t] ty #[.slice A n c, .slice S m cs]).run P w = .ok (.slice A (n + m) c) w' ∧ Appended w w' base e size A c A (n + m) c (xs ++ news) := by
  subst hsize
  obtain ⟨w', hst, hap⟩ := appended_room (P := P) w base e i.size A n c m xs news hown hr.1 h1 hroom
  refine ⟨w', ?_, hap⟩
  have hf := run_firstCells_rd (P := P) w i.size m cs S news hr
  cases A with
  | none =>
    simp only [Sem.run_pure] at hst
    injection hst with _ hst
    subst hst
    simp [Builtin.append_, run_underlying ht, sizeOf, typeInfo, hi, Builtin.lenOf, hroom, hf]
  | some a =>
    simp only at hst
    simp [Builtin.append_, run_underlying ht, sizeOf, typeInfo, hi, Builtin.lenOf, hroom, hf, hst]
section
variable {w : World} {ops : Array Oper} {rest : List Oper} {o : Oper} {a : Act} {Q : Exit → Act → World → Prop}
theorem wl_app8_stay (hgd : o.guard = none) (s x : Operand) (ho : o.op = .call { callee := .builtin .append, args := #[s, x], argTypes := #[22, 22] })
    {base : Nat} {A S : Option Addr} {n c m cs : Nat} {l k : List UInt8} (hs : a.eval s = .slice A n c) (hx : a.eval x = .slice S m cs)
    (hown : Own8 w base A n c l) (hr : Rd8 w S m k) (hroom : n + m ≤ c)
    (h : ∀ v w', (v = .slice A (n + m) c ∧ Own8 w' base A (n + m) c (l ++ k) ∧ w.grownBy w' (ownBlk A c)) → wpList Try.prog ops Q rest (a.put o.dst v) w') : wpList Try.prog ops Q (o :: rest) a w := by
  obtain ⟨i0, hi, hz0, hz1, hz2⟩ := info_parts info5
  obtain ⟨w', hrun, hap⟩ := run_append_stay (P := Try.prog) base 22 o.type 5 i0 1 Try.underlying22 hi hz1 A n c (bc l) hown S m cs (bc k) hr (bc_one k) hroom
  refine wpList_run w hgd s x 22 22 ho _ _ hs hx (R := fun v w' => v = .slice A (n + m) c ∧ Own8 w' base A (n + m) c (l ++ k) ∧ w.grownBy w' (ownBlk A c)) ⟨_, w', hrun, rfl, ?_, hap.2.1⟩ h
  have := hap.1
  rw [← bc_append] at this
  exact this
end
/-- Bytes in new memory, of which the address is known. -/
def Ret8w (w0 : World) (l : List UInt8) (e : Ending) (w' : World) : Prop :=
  ∃ A n c, e = .returned (.slice A n c) ∧ Own8 w' w0.heap.size A n c l ∧ Below w0.heap.size w0 w' ∧ ∀ ad, A = some ad → w0.heap.size ≤ ad.block ∧ ad.block < w'.heap.size
set_option maxRecDepth 100000 in
set_option maxHeartbeats 400000 in
theorem bytes66w (A : Option Addr) (n c : Nat) (l : List UInt8) (w : World) (h : Rd8 w A n l) (hn : n ≤ 140737488355328) : Calls Try.prog 66 #[.slice A n c] w (Ret8w w l) := by
  by_cases hz : n = 0
  · subst hz
    go_enter Try.func66, Try.ntmps66
    go_wp2_with (first | (at_builtin; refine wl_app8_stay rfl (.tmp 3) (.tmp 4) rfl rfl rfl (Own8.nil_ _ w.heap.size _) (Rd8.below h ((Below.refl _ _).alloc (Nat.le_refl _) _)) (by omega) ?_; rintro v w1 ⟨rfl, hown, hg⟩))
    go_ret
    simp only [Nat.zero_add, List.nil_append] at hown ⊢
    have hs := hg.size
    rw [World.size_alloc] at hs
    exact ⟨_, _, _, rfl, hown, below_app ((Below.refl _ _).alloc (Nat.le_refl _) _) (by simp) (Own8.nil_ _ _ _) hg, fun ad e => by injection e with e; subst e; exact ⟨Nat.le_refl _, hs⟩⟩
  · go_enter Try.func66, Try.ntmps66
    go_wp2_with (first | (at_builtin; refine wl_app8 rfl (.tmp 3) (.tmp 4) rfl rfl rfl (Own8.nil_ _ w.heap.size _) (Rd8.below h ((Below.refl _ _).alloc (Nat.le_refl _) _)) (by omega) (by simp) ?_; rintro v w1 ⟨A', c', rfl, hown, hg, _⟩))
    go_ret
    simp only [Nat.zero_add, List.nil_append] at hown ⊢
    refine ⟨_, _, _, rfl, hown, below_app ((Below.refl _ _).alloc (Nat.le_refl _) _) (by simp) (Own8.nil_ _ _ _) hg, fun ad e => ?_⟩
    subst e
    exact Own.lt hown (g := ad.block) (by have := (Own8.le hown).1; simp [ownBlk]; omega)
end Go.Proofs.Ytkgdcglnkodgnaa
namespace Go.Proofs.Ytkgdcglnkodgnaa
open Go.RowKit
attribute [local go_sem] Oper.semAt_some
theorem one_load' {w : World} {g T : Nat} {a : Value} (h : w.heap[g]? = some (.cells #[a] T (0, 0))) : w.cell? ⟨g, 0, none⟩ = some a := (cell_of_row _ _ 0 _ _ _ h).trans rfl
/-- What the iterator reads. -/
def ProtL (gw bw br : Nat) (A : Option Addr) : Nat → Prop := fun k => k = gw ∨ k = bw ∨ k = br ∨ ∃ ad, A = some ad ∧ k = ad.block
set_option maxRecDepth 100000 in
set_option maxHeartbeats 1000000 in
theorem all125 (gw : Nat) (root : Int) (w : World) :
    Calls Try.prog 125 #[.pointer (some ⟨gw, 0, none⟩), .int .i64 root] w fun e w' => e = .returned (.func (.func 160) #[] #[.pointer (some ⟨w.heap.size, 0, none⟩), .pointer (some ⟨w.heap.size + 1, 0, none⟩)]) ∧
      w' = (w.alloc (.cells #[.pointer (some ⟨gw, 0, none⟩)] 177)).alloc (.cells #[.int .i64 root] 3) := by
  have hmf : ∀ (fn : Fn) (first cap : Array Value) (w : World), (Instr.makeFunc fn first cap).run Try.prog w = .ok (.func fn first cap) w := fun _ _ _ _ => rfl
  go_enter Try.func125, Try.ntmps125
  go_wp2_with fail
  go_ret
  exact ⟨rfl, rfl⟩
set_option maxRecDepth 100000 in
set_option maxHeartbeats 2000000 in
theorem all_seq (q : Nat) (hq : 1 ≤ q) (gw bw br : Nat) (A : Option Addr) (n c : Nat) (l : List UInt8) (kind : UInt8) (key : ByteArray) (root : Int) (w : World) (hn : n ≤ 140737488355328) (hnc : n ≤ c) (hlo : -9223372036854775808 ≤ root) (hhi : root ≤ 9223372036854775807)
    (hA : ∀ ad, A = some ad → ad.block ≠ gw ∧ ad.block < w.heap.size) (hbw : w.heap[bw]? = some (.cells #[.pointer (some ⟨gw, 0, none⟩)] 177 (0, 0))) (hbr : w.heap[br]? = some (.cells #[.int .i64 root] 3 (0, 0)))
    (hw : WlkAt w gw A n c kind key (0, ⟨#[]⟩) 0) (hr : Rd8 w A n l) :
    SeqC Fence.wide q Try.prog 160 #[.pointer (some ⟨bw, 0, none⟩), .pointer (some ⟨br, 0, none⟩)] EncL (fun k => k = gw) (ProtL gw bw br A) (walkP l kind root key).1 (fun W => WlkAt W gw A n c kind key (walkP l kind root key).2.1 (walkP l kind root key).2.2)
      (fun _ W => ∃ s', WlkAt W gw A n c kind key s' 0) w := fun y J Jx W C0 hW hJ hJx hC0 hY h0 => by
  have k1 : W.heap[bw]? = some (.cells #[.pointer (some ⟨gw, 0, none⟩)] 177 (0, 0)) := (hW.block bw (Array.getElem?_eq_some_iff.1 hbw).1).trans hbw
  have k2 : W.heap[br]? = some (.cells #[.int .i64 root] 3 (0, 0)) := (hW.block br (Array.getElem?_eq_some_iff.1 hbr).1).trans hbr
  have k3 : WlkAt W gw A n c kind key (0, ⟨#[]⟩) 0 := (hW.block gw (Array.getElem?_eq_some_iff.1 hw).1).trans hw
  have HL := Hd.mk (leaves161 q y gw hq A n c l kind key hn hnc (fun ad e => (hA ad e).1) W.heap.size J Jx (walkP l kind root key).1 hJ hJx hY 14 root (-1) true (0, ⟨#[]⟩) [] C0 W k3 (hr.below hW) h0 (fun k h => (hC0 k h).1) (fun h => (hC0 _ h).2 (.inl rfl))
    (fun ad e => ⟨fun h => (hC0 _ h).2 (.inr (.inr (.inr ⟨ad, e, rfl⟩))), Nat.lt_of_lt_of_le (hA ad e).2 hW.size⟩) (goodW_start _ _) hlo hhi (.inl ⟨rfl, rfl⟩) (by rw [List.nil_append]; exact List.prefix_refl _))
  have x1 := one_load' k1
  have x2 := one_load' k2
  clear hY h0 hJ hJx k1 k2 k3 hw hr hbw hbr hW
  refine callsIn_of_wp Try.func160 rfl trivial ?_ rfl
  simp only [Try.ntmps160, List.size_toArray, List.length_cons, List.length_nil, Nat.reduceAdd, Nat.reduceSub, Array.replicate_succ, Array.replicate_zero, List.push_toArray, List.append_toArray, List.nil_append, List.cons_append]
  gi_wp2_with fail
  refine ⟨trivial, ?_⟩
  gi_at_call 161
  refine (callsIn_wide.2 HL.out).mono ?_
  rintro e w2 ⟨C2, _, _, _, _, hcase⟩
  rcases hcase with ⟨rfl, hJ2, hW2⟩ | ⟨rfl, pre', s', hp', hJ2, hW2⟩
  · have HZ := Hd.mk (And.intro hJ2 hW2)
    clear hJ2 hW2
    gi_wp2_with fail
    go_end0
    exact ⟨⟨_, rfl⟩, .inl ⟨C2, HZ.out.1, HZ.out.2⟩⟩
  · have HZ := Hd.mk (And.intro hp' (And.intro hJ2 hW2))
    clear hp' hJ2 hW2
    gi_wp2_with fail
    go_end0
    exact ⟨⟨_, rfl⟩, .inr ⟨pre', C2, HZ.out.1, HZ.out.2.1, s', HZ.out.2.2⟩⟩
end Go.Proofs.Ytkgdcglnkodgnaa
namespace Go.Proofs.Ytkgdcglnkodgnaa
open Go.RowKit
variable {F : Fence} {n : Nat} {P : Program}
theorem rangeC1 {α : Type} {g : Operand} {p1 : Nat} {assign body : Code} {Q : Exit → Act → World → Prop} {a : Act} {w : World}
    (hro : F.round = none) (h1 : 1 ≤ n) {gf : Nat} {lb : Array Value} (hg : a.eval g = .func (.func gf) #[] lb) (hFg : F.fn gf) (eg : ∀ args w, (callFunc gf args).run P w = .ok (.enter gf args) w)
    {Enc : α → Array Value → (Nat → Prop) → World → Prop} {G Prot : Nat → Prop} {L : List α} {T : World → Prop} {Tx : List α → World → Prop} {w0 : World} (hseq : SeqC F (n - 1) P gf lb Enc G Prot L T Tx w0)
    (hb0 : Below w0.heap.size w0 w) (hps : ∀ x vals C W, Enc x vals C W → ∃ v, vals = #[v]) (hProt : ∀ k, Prot k → k < w.heap.size)
    (hEnc : ∀ x vals (C C' : Nat → Prop) W l o o', W.heap[l]? = some o → o.isCells = false → (∀ k, C k → C' k) → Enc x vals C' W → Enc x vals C (W.putObj l o'))
    (hT : ∀ W l o o', w.heap.size ≤ l → W.heap[l]? = some o → o.isCells = false → T W → T (W.putObj l o')) (hTx : ∀ pre W l o o', w.heap.size ≤ l → W.heap[l]? = some o → o.isCells = false → Tx pre W → Tx pre (W.putObj l o'))
    (C0 : Nat → Prop) (hC0 : ∀ k, C0 k → k < w.heap.size ∧ ¬ Prot k) (post : Value → Array Value → Array Value)
    (I : List α → (Nat → Prop) → World → Prop) (Ix : Code → List α → (Nat → Prop) → World → Prop) (hI : AbidesC w.heap.size G I) (hIx : ∀ c, AbidesC w.heap.size G (Ix c)) (h0 : I [] C0 w)
    (hassign : ∀ (l : Nat) (x : α) (v : Value) (C : Nat → Prop) (W : World) (K : Act → World → Prop), Enc x #[v] C W → K { tmps := post v (a.tmps.setIfInBounds p1 v), defers := [] } W →
      assign.wpIn (F.inRound l) (n - 1 - 1) P (Exit.then K (fun _ _ _ => False)) { tmps := a.tmps.setIfInBounds p1 v, defers := [] } W)
    (hbody : ∀ (l : Nat) (pre : List α) (x : α) (v : Value) (C : Nat → Prop) (W : World), (∃ r, W.heap[l]? = some (.loop r)) → I pre C W → Enc x #[v] C W → (∀ k, C k → k < W.heap.size) → w.heap.size ≤ W.heap.size → pre ++ [x] <+: L →
      body.wpIn (F.inRound l) (n - 1 - 1) P (postC I Ix C (pre ++ [x]) W) { tmps := post v (a.tmps.setIfInBounds p1 v), defers := [] } W)
    (hdone : ∀ (D : Nat) (C : Nat → Prop) (W : World), w.heap.size ≤ D → ¬ C D → I L C W → T W → W.heap[D]? = some (.deferred (some [])) → Q .normal { a with defers := { target := .collected D, args := #[] } :: a.defers } W)
    (hstop : ∀ (D : Nat) (c : Code) (pre : List α) (C : Nat → Prop) (W : World), w.heap.size ≤ D → ¬ C D → pre <+: L → Ix c pre C W → Tx pre W → W.heap[D]? = some (.deferred (some [])) → c.wpIn F n P Q { a with defers := { target := .collected D, args := #[] } :: a.defers } W) :
    (Code.rangeFunc g #[p1] assign body).wpIn F n P Q a w :=
  wpIn_rangeC hro h1 hg hFg eg hseq hb0 (fun x vals C W h => by obtain ⟨v, rfl⟩ := hps x vals C W h; rfl) hProt hEnc hT hTx C0 hC0 I Ix hI hIx h0
    (fun _ vals => { tmps := post (vals.getD 0 undef) (a.tmps.setIfInBounds p1 (vals.getD 0 undef)), defers := [] })
    (fun l x vals C W K he hK => by obtain ⟨v, rfl⟩ := hps x vals C W he; simpa using hassign l x v C W K he (by simpa using hK))
    (fun l pre x vals C W hl hi he hC hs hp => by obtain ⟨v, rfl⟩ := hps x vals C W he; simpa using hbody l pre x v C W hl hi he hC hs hp) hdone hstop
theorem rangeC2 {α : Type} {g : Operand} {p1 p2 : Nat} {assign body : Code} {Q : Exit → Act → World → Prop} {a : Act} {w : World}
    (hro : F.round = none) (h1 : 1 ≤ n) {gf : Nat} {lb : Array Value} (hg : a.eval g = .func (.func gf) #[] lb) (hFg : F.fn gf) (eg : ∀ args w, (callFunc gf args).run P w = .ok (.enter gf args) w)
    {Enc : α → Array Value → (Nat → Prop) → World → Prop} {G Prot : Nat → Prop} {L : List α} {T : World → Prop} {Tx : List α → World → Prop} {w0 : World} (hseq : SeqC F (n - 1) P gf lb Enc G Prot L T Tx w0)
    (hb0 : Below w0.heap.size w0 w) (hps : ∀ x vals C W, Enc x vals C W → ∃ v u, vals = #[v, u]) (hProt : ∀ k, Prot k → k < w.heap.size)
    (hEnc : ∀ x vals (C C' : Nat → Prop) W l o o', W.heap[l]? = some o → o.isCells = false → (∀ k, C k → C' k) → Enc x vals C' W → Enc x vals C (W.putObj l o'))
    (hT : ∀ W l o o', w.heap.size ≤ l → W.heap[l]? = some o → o.isCells = false → T W → T (W.putObj l o')) (hTx : ∀ pre W l o o', w.heap.size ≤ l → W.heap[l]? = some o → o.isCells = false → Tx pre W → Tx pre (W.putObj l o'))
    (C0 : Nat → Prop) (hC0 : ∀ k, C0 k → k < w.heap.size ∧ ¬ Prot k) (post : Value → Value → Array Value → Array Value)
    (I : List α → (Nat → Prop) → World → Prop) (Ix : Code → List α → (Nat → Prop) → World → Prop) (hI : AbidesC w.heap.size G I) (hIx : ∀ c, AbidesC w.heap.size G (Ix c)) (h0 : I [] C0 w)
    (hassign : ∀ (l : Nat) (x : α) (v u : Value) (C : Nat → Prop) (W : World) (K : Act → World → Prop), Enc x #[v, u] C W → K { tmps := post v u ((a.tmps.setIfInBounds p1 v).setIfInBounds p2 u), defers := [] } W →
      assign.wpIn (F.inRound l) (n - 1 - 1) P (Exit.then K (fun _ _ _ => False)) { tmps := (a.tmps.setIfInBounds p1 v).setIfInBounds p2 u, defers := [] } W)
    (hbody : ∀ (l : Nat) (pre : List α) (x : α) (v u : Value) (C : Nat → Prop) (W : World), (∃ r, W.heap[l]? = some (.loop r)) → I pre C W → Enc x #[v, u] C W → (∀ k, C k → k < W.heap.size) → w.heap.size ≤ W.heap.size → pre ++ [x] <+: L →
      body.wpIn (F.inRound l) (n - 1 - 1) P (postC I Ix C (pre ++ [x]) W) { tmps := post v u ((a.tmps.setIfInBounds p1 v).setIfInBounds p2 u), defers := [] } W)
    (hdone : ∀ (D : Nat) (C : Nat → Prop) (W : World), w.heap.size ≤ D → ¬ C D → I L C W → T W → W.heap[D]? = some (.deferred (some [])) → Q .normal { a with defers := { target := .collected D, args := #[] } :: a.defers } W)
    (hstop : ∀ (D : Nat) (c : Code) (pre : List α) (C : Nat → Prop) (W : World), w.heap.size ≤ D → ¬ C D → pre <+: L → Ix c pre C W → Tx pre W → W.heap[D]? = some (.deferred (some [])) → c.wpIn F n P Q { a with defers := { target := .collected D, args := #[] } :: a.defers } W) :
    (Code.rangeFunc g #[p1, p2] assign body).wpIn F n P Q a w :=
  wpIn_rangeC hro h1 hg hFg eg hseq hb0 (fun x vals C W h => by obtain ⟨v, u, rfl⟩ := hps x vals C W h; rfl) hProt hEnc hT hTx C0 hC0 I Ix hI hIx h0
    (fun _ vals => { tmps := post (vals.getD 0 undef) (vals.getD 1 undef) ((a.tmps.setIfInBounds p1 (vals.getD 0 undef)).setIfInBounds p2 (vals.getD 1 undef)), defers := [] })
    (fun l x vals C W K he hK => by obtain ⟨v, u, rfl⟩ := hps x vals C W he; simpa using hassign l x v u C W K he (by simpa using hK))
    (fun l pre x vals C W hl hi he hC hs hp => by obtain ⟨v, u, rfl⟩ := hps x vals C W he; simpa using hbody l pre x v u C W hl hi he hC hs hp) hdone hstop
end Go.Proofs.Ytkgdcglnkodgnaa
namespace Go.Proofs.Ytkgdcglnkodgnaa
open Go.RowKit Go.Shelf
attribute [local go_sem] Oper.semAt_some
/-- A pair as it is told. -/
def EncP (x : Kp) (vals : Array Value) (_ : Nat → Prop) (_ : World) : Prop := vals = #[.string x.1, .int .i64 x.2]
set_option maxRecDepth 100000 in
set_option maxHeartbeats 1000000 in
theorem each74 (A : Option Addr) (n c : Nat) (kind : UInt8) (root : Int) (w : World) :
    Calls Try.prog 74 #[.slice A n c, .int .u8 (kind.toNat : Int), .int .i64 root] w fun e w' => e = .returned (.func (.func 124) #[] #[.pointer (some ⟨w.heap.size, 0, none⟩), .pointer (some ⟨w.heap.size + 1, 0, none⟩), .pointer (some ⟨w.heap.size + 1 + 1, 0, none⟩)]) ∧
      w' = ((w.alloc (.cells #[.slice A n c] 22)).alloc (.cells #[.int .u8 (kind.toNat : Int)] 5)).alloc (.cells #[.int .i64 root] 3) := by
  have hmf : ∀ (fn : Fn) (first cap : Array Value) (w : World), (Instr.makeFunc fn first cap).run Try.prog w = .ok (.func fn first cap) w := fun _ _ _ _ => rfl
  go_enter Try.func74, Try.ntmps74
  go_wp2_with fail
  go_ret
  exact ⟨rfl, rfl⟩
/-- What the iterator of pairs reads. -/
def ProtE (b1 b2 b3 : Nat) (A : Option Addr) : Nat → Prop := fun k => k = b1 ∨ k = b2 ∨ k = b3 ∨ ∃ ad, A = some ad ∧ k = ad.block
theorem four_boxes {W V : World} {a b c d : Obj} (hV : (((W.alloc a).alloc b).alloc c).alloc d = V) : V.heap[W.heap.size]? = some a ∧ V.heap[W.heap.size + 1]? = some b ∧ V.heap[W.heap.size + 1 + 1]? = some c ∧ V.heap[W.heap.size + 1 + 1 + 1]? = some d ∧
    Below W.heap.size W V ∧ V.heap.size = W.heap.size + 4 := by
  obtain ⟨V1, h1⟩ : ∃ V1, W.alloc a = V1 := ⟨_, rfl⟩
  obtain ⟨V2, h2⟩ : ∃ V2, V1.alloc b = V2 := ⟨_, rfl⟩
  obtain ⟨V3, h3⟩ : ∃ V3, V2.alloc c = V3 := ⟨_, rfl⟩
  rw [h1, h2, h3] at hV
  have s1 : V1.heap.size = W.heap.size + 1 := by rw [← h1]; simp
  have s2 : V2.heap.size = W.heap.size + 1 + 1 := by rw [← h2]; simp [s1]
  have s3 : V3.heap.size = W.heap.size + 1 + 1 + 1 := by rw [← h3]; simp [s2]
  have n1 : V1.heap[W.heap.size]? = some a := by rw [← h1]; exact World.alloc_heap_new W a
  have n2 : V2.heap[W.heap.size + 1]? = some b := by rw [← h2, ← s1]; exact World.alloc_heap_new V1 b
  have n3 : V3.heap[W.heap.size + 1 + 1]? = some c := by rw [← h3, ← s2]; exact World.alloc_heap_new V2 c
  have n4 : V.heap[W.heap.size + 1 + 1 + 1]? = some d := by rw [← hV, ← s3]; exact World.alloc_heap_new V3 d
  have b1 : Below V1.heap.size V1 V2 := by rw [← h2]; exact (Below.refl _ _).alloc (Nat.le_refl _) _
  have b2 : Below V2.heap.size V2 V3 := by rw [← h3]; exact (Below.refl _ _).alloc (Nat.le_refl _) _
  have b3 : Below V3.heap.size V3 V := by rw [← hV]; exact (Below.refl _ _).alloc (Nat.le_refl _) _
  have b0 : Below W.heap.size W V1 := by rw [← h1]; exact (Below.refl _ _).alloc (Nat.le_refl _) _
  have b23 : Below V2.heap.size V2 V := b2.trans (b3.mono (by omega))
  have b13 : Below V1.heap.size V1 V := b1.trans (b23.mono (by omega))
  refine ⟨(b13.block _ (by omega)).trans n1, (b23.block _ (by omega)).trans n2, (b3.block _ (by omega)).trans n3, n4, b0.trans (b13.mono (by omega)), ?_⟩
  rw [← hV]; simp [s3]
theorem round_any {P : Program} {n m y l' f : Nat} {tmps : Array Value} {assign body : Code} {w : World} {R : Ending → World → Prop} (h : RoundIn Fence.wide n P y f tmps assign body w R) : RoundIn (Fence.wide.inRound l') m P y f tmps assign body w R :=
  ⟨trivial, fun c cs _ => h.2 c cs (room_wide _)⟩
theorem encL_put {x : List Kp} {vals : Array Value} {C C' : Nat → Prop} {W : World} {l : Nat} {o o' : Obj} (ho : W.heap[l]? = some o) (hc : o.isCells = false) (hC : ∀ k, C k → C' k) (h : EncL x vals C' W) : EncL x vals C (W.putObj l o') := by
  obtain ⟨A, n, c, h1, h2, h3, h4, h5⟩ := h
  refine ⟨A, n, c, h1, ⟨h2.1, fun hn => ?_⟩, h3, h4, fun h0 ad e => ⟨fun hk => (h5 h0 ad e).1 (hC _ hk), by rw [size_putObj]; exact (h5 h0 ad e).2⟩⟩
  obtain ⟨ad, hA, hcell⟩ := h2.2 hn
  refine ⟨ad, hA, fun j u hu => ?_⟩
  have hx := hcell j u hu
  exact (grownBy_putObj' W l o').cell hx (by
    intro e
    injection e with e
    unfold World.cell? at hx
    rw [e, ho] at hx
    cases o <;> simp_all [Obj.isCells])
theorem wlk_put {W : World} {g : Nat} {A : Option Addr} {n c : Nat} {kind : UInt8} {key : ByteArray} {s : Wk} {e : Nat} {l : Nat} {o o' : Obj} (ho : W.heap[l]? = some o) (hc : o.isCells = false) (h : WlkAt W g A n c kind key s e) : WlkAt (W.putObj l o') g A n c kind key s e := by
  refine (World.putObj_heap_other ?_).trans h
  intro e1
  have h' : W.heap[g]? = _ := h
  first
    | (rw [e1, ho] at h'; injection h' with h'; subst h'; cases hc)
    | (rw [← e1, h'] at ho; injection ho with ho; subst ho; cases hc)
set_option maxRecDepth 100000 in
set_option maxHeartbeats 4000000 in
theorem each_seqC (q : Nat) (hq : 3 ≤ q) (b1 b2 b3 : Nat) (A : Option Addr) (n c : Nat) (l : List UInt8) (kind : UInt8) (root : Int) (w : World) (hn : n ≤ 140737488355328) (hnc : n ≤ c) (hlo : -9223372036854775808 ≤ root) (hhi : root ≤ 9223372036854775807)
    (hA : ∀ ad, A = some ad → ad.block < w.heap.size) (h1 : w.heap[b1]? = some (.cells #[.slice A n c] 22 (0, 0))) (h2 : w.heap[b2]? = some (.cells #[.int .u8 (kind.toNat : Int)] 5 (0, 0))) (h3 : w.heap[b3]? = some (.cells #[.int .i64 root] 3 (0, 0)))
    (hr : Rd8 w A n l) :
    SeqC Fence.wide q Try.prog 124 #[.pointer (some ⟨b1, 0, none⟩), .pointer (some ⟨b2, 0, none⟩), .pointer (some ⟨b3, 0, none⟩)] EncP (fun _ => False) (ProtE b1 b2 b3 A) (walkP l kind root ⟨#[]⟩).1.flatten (fun _ => True) (fun _ _ => True) w := fun y J Jx W C0 hW hJ hJx hC0 hY h0 => by
  have k1 : W.heap[b1]? = some (.cells #[.slice A n c] 22 (0, 0)) := (hW.block b1 (Array.getElem?_eq_some_iff.1 h1).1).trans h1
  have k2 : W.heap[b2]? = some (.cells #[.int .u8 (kind.toNat : Int)] 5 (0, 0)) := (hW.block b2 (Array.getElem?_eq_some_iff.1 h2).1).trans h2
  have k3 : W.heap[b3]? = some (.cells #[.int .i64 root] 3 (0, 0)) := (hW.block b3 (Array.getElem?_eq_some_iff.1 h3).1).trans h3
  have x1 := one_load' k1
  have x2 := one_load' k2
  have x3 := one_load' k3
  have y1 : ∀ o, (W.alloc o).cell? ⟨b1, 0, none⟩ = some (.slice A n c) := fun o => (((Below.refl W.heap.size W).alloc (Nat.le_refl _) o).cell (cell_lt x1)).trans x1
  have y2 : ∀ o, (W.alloc o).cell? ⟨b2, 0, none⟩ = some (.int .u8 (kind.toNat : Int)) := fun o => (((Below.refl W.heap.size W).alloc (Nat.le_refl _) o).cell (cell_lt x2)).trans x2
  have y3 : ∀ o o', ((W.alloc o).alloc o').cell? ⟨b3, 0, none⟩ = some (.int .i64 root) := fun o o' => ((((Below.refl W.heap.size W).alloc (Nat.le_refl _) o).alloc (by simp) o').cell (cell_lt x3)).trans x3
  have hmf : ∀ (fn : Fn) (first cap : Array Value) (w : World), (Instr.makeFunc fn first cap).run Try.prog w = .ok (.func fn first cap) w := fun _ _ _ _ => rfl
  refine callsIn_of_wp_marks Try.func124 rfl trivial ?_ rfl
  simp only [Try.ntmps124, List.size_toArray, List.length_cons, List.length_nil, Nat.reduceAdd, Nat.reduceSub, Array.replicate_succ, Array.replicate_zero, List.push_toArray, List.append_toArray, List.nil_append, List.cons_append]
  gi_wp2_with fail
  refine ⟨trivial, fun h => by simp [Fence.wide] at h, ?_⟩
  refine (callsIn_wide.2 (all125 _ _ _)).mono ?_
  rintro e w2 ⟨rfl, rfl⟩
  obtain ⟨V, hV⟩ : ∃ V, ((((W.alloc (.cells #[.func (.yield y) #[] #[]] 176)).alloc (.cells #[.slice A n c, .int .u8 (kind.toNat : Int), .string ⟨#[]⟩, .string ⟨#[]⟩, .int .i64 0, .int .i64 0] 179)).alloc (.cells #[.pointer (some ⟨W.heap.size + 1, 0, none⟩)] 177)).alloc (.cells #[.int .i64 root] 3)) = V := ⟨_, rfl⟩
  obtain ⟨v1, v2, v3, v4, vb, vs⟩ := four_boxes hV
  have vr : Rd8 V A n l := (hr.below hW).below vb
  have vw : WlkAt V (W.heap.size + 1) A n c kind ⟨#[]⟩ (0, ⟨#[]⟩) 0 := v2
  gi_wp2_with fail
  try rw [hV]
  clear hV y1 y2 y3 x1 x2 x3 k1 k2 k3 hmf
  refine rangeC1 (p1 := 16) rfl (by omega) (gf := 160) (lb := #[.pointer (some ⟨W.heap.size + 1 + 1, 0, none⟩), .pointer (some ⟨W.heap.size + 1 + 1 + 1, 0, none⟩)]) rfl trivial (enters_of Try.func160 (by kernel_rfl) rfl)
    (all_seq (q - 1) (by omega) (W.heap.size + 1) (W.heap.size + 1 + 1) (W.heap.size + 1 + 1 + 1) A n c l kind ⟨#[]⟩ root V hn hnc hlo hhi (fun ad e => by have := hA ad e; have := hW.size; omega) v3 v4 vw vr) (Below.refl _ _)
    (fun x vals C W h => by obtain ⟨A, n, c, h, _⟩ := h; exact ⟨_, h⟩) (fun k hk => by rcases hk with rfl | rfl | rfl | ⟨ad, e, rfl⟩; (· omega); (· omega); (· omega); (· have := hA ad e; have := hW.size; omega))
    (fun x vals C C' W l o o' ho hc hC h => encL_put ho hc hC h) (fun W l o o' _ ho hc h => wlk_put ho hc h) (fun pre W l o o' _ ho hc h => by obtain ⟨s', h⟩ := h; exact ⟨s', wlk_put ho hc h⟩)
    C0 (fun k hk => ⟨by have := (hC0 k hk).1; omega, fun hp => by rcases hp with e | e | e | ⟨ad, e, e'⟩; (· have := (hC0 k hk).1; omega); (· have := (hC0 k hk).1; omega); (· have := (hC0 k hk).1; omega); (· exact (hC0 k hk).2 (.inr (.inr (.inr ⟨ad, e, e'⟩))))⟩)
    (fun v t => t.setIfInBounds 6 v)
    (fun pre C W' => (∃ C2 : Nat → Prop, (∀ k, C2 k → C k) ∧ J pre.flatten C2 W') ∧ W'.heap[W.heap.size]? = some (.cells #[.func (.yield y) #[] #[]] 176 (0, 0)) ∧ ¬ C W.heap.size ∧ W.heap.size < W'.heap.size)
    (fun cd _ C W' => cd = .ret ∧ ∃ (pre2 : List Kp) (C2 : Nat → Prop), (∀ k, C2 k → C k) ∧ pre2 <+: (walkP l kind root ⟨#[]⟩).1.flatten ∧ Jx pre2 C2 W') ?hI ?hIx ?h0 ?assign ?body ?done ?stop
  case hI =>
    rintro s C X Y row ⟨⟨C2, hC2, hj⟩, hbx, hCb, hlt⟩ hg hrow
    exact ⟨⟨C2, hC2, hJ _ _ _ _ row hj hg (fun r e => ⟨fun h => (hrow r e).1 (hC2 r h), (hrow r e).2.elim (fun h => .inl (by omega)) (fun h => .inl (by omega))⟩)⟩,
      (hg.block _ hlt (fun e => (hrow _ e.symm).2.elim (fun h => by omega) (fun h => by omega))).trans hbx, hCb, Nat.lt_of_lt_of_le hlt hg.size⟩
  case hIx =>
    rintro cd s C X Y row ⟨rfl, pre2, C2, hC2, hp2, hj⟩ hg hrow
    exact ⟨rfl, pre2, C2, hC2, hp2, hJx _ _ _ _ row hj hg (fun r e => ⟨fun h => (hrow r e).1 (hC2 r h), (hrow r e).2.elim (fun h => .inl (by omega)) (fun h => .inl (by omega))⟩)⟩
  case h0 => exact ⟨⟨C0, fun k h => h, hJ.below vb h0⟩, v1, fun h => by have := (hC0 _ h).1; omega, by omega⟩
  case assign =>
    intro r x v C W' K he hK
    gi_wp2
    exact hK
  case done =>
    rintro D C W' hD hCD ⟨⟨C2, hC2, hj⟩, hbx, hCb, hlt⟩ _ hk
    have hj2 := Hd.mk (hJ _ _ _ _ (some D) hj (grownBy_putObj' W' D (.deferred none)) (fun r e => by cases e; exact ⟨fun h => hCD (hC2 _ h), .inl (by omega)⟩))
    gi_wp2
    refine ⟨by simp, .inl ⟨_, _, rfl, run_takeDeferred hk, ?_⟩⟩
    refine ⟨.tuple #[], by simp [results, Try.f124, go_sem], ⟨_, rfl⟩, .inl ⟨C2, hj2.out, trivial⟩⟩
  case stop =>
    rintro D cd pre C W' hD hCD hp ⟨rfl, pre2, C2, hC2, hp2, hj⟩ _ hk
    have hj2 := Hd.mk (hJx _ _ _ _ (some D) hj (grownBy_putObj' W' D (.deferred none)) (fun r e => by cases e; exact ⟨fun h => hCD (hC2 _ h), .inl (by omega)⟩))
    gi_wp2
    refine ⟨by simp, .inl ⟨_, _, rfl, run_takeDeferred hk, ?_⟩⟩
    refine ⟨.tuple #[], by simp [results, Try.f124, go_sem], ⟨_, rfl⟩, .inr ⟨pre2, C2, hp2, hj2.out, trivial⟩⟩
  case body =>
    rintro r pre x v C W' hl ⟨⟨C2, hC2, hj⟩, hbx, hCb, hlt⟩ ⟨A1, n1, c1, hv, hRx, hn1, hc1, hAx⟩ hCl hsz hp
    obtain rfl : v = .slice A1 n1 c1 := by simpa using hv
    have hxl := Hd.mk (RdK.len hRx)
    have hPf : Hd (∀ i, i < n1 → ∀ p, x[i]? = some p → pre.flatten ++ x.take i ++ [p] <+: (walkP l kind root ⟨#[]⟩).1.flatten) := ⟨fun i hi p hx => by
      obtain ⟨t, ht⟩ := hp
      rw [← ht]
      have e1 : x.take i ++ [p] = x.take (i + 1) := by rw [List.take_add_one, hx]; rfl
      rw [List.append_assoc, e1, List.flatten_append, List.flatten_append]
      refine ⟨x.drop (i + 1) ++ t.flatten, ?_⟩
      simp only [List.flatten_cons, List.flatten_nil, List.append_nil, List.append_assoc]
      rw [← List.append_assoc (x.take (i + 1)), List.take_append_drop]⟩
    have HJ0 := Hd.mk hj
    have HC2 := Hd.mk hC2
    have HRx := Hd.mk hRx
    have HBX := Hd.mk hbx
    have HCl := Hd.mk hCl
    have HCb := Hd.mk hCb
    have HAx := Hd.mk hAx
    have HJA := Hd.mk hJ
    have HYY := Hd.mk hY
    clear hj hC2 hRx hbx hCl hCb hAx hY hp hv hJx
    simp only [List.setIfInBounds_toArray, List.set_cons_zero, List.set_cons_succ]
    gi_wp2_with fail
    gi_loopw [19, 8] (fun iv _ wr => ∃ (i : Nat) (Ci : Nat → Prop), iv = .int .i64 (i : Int) ∧ i ≤ n1 ∧ Hd (J (pre.flatten ++ x.take i) Ci wr) ∧ Hd (∀ k, Ci k → C k ∨ W'.heap.size ≤ k) ∧ Hd (∀ k, Ci k → k < wr.heap.size) ∧ Hd (Tch C W' wr) ∧ Hd (RdK wr A1 n1 x) ∧ Hd (wr.heap[W.heap.size]? = some (.cells #[.func (.yield y) #[] #[]] 176 (0, 0))))
      (fun iv _ _ => n1 - (intOf iv).toNat)
    case atStart => exact ⟨0, C2, rfl, by omega, ⟨by simpa using HJ0.out⟩, ⟨fun k h => .inl (HC2.out k h)⟩, ⟨fun k h => HCl.out k (HC2.out k h)⟩, ⟨Tch.refl _ _⟩, HRx, HBX⟩
    case round =>
      obtain ⟨i, Ci, rfl, hi, hJi, hCi, hCs, hT, hR, hB⟩ := hrel
      by_cases hlt2 : i < n1
      · obtain ⟨p, hp0⟩ : ∃ p, Hd (x[i]? = some p) := ⟨x[i]'(by have := hxl.out; omega), ⟨List.getElem?_eq_getElem _⟩⟩
        obtain ⟨ad, rfl, y0, y1⟩ := RdK.get hR.out hp0.out
        have HW5 := Hd.mk (show Below wr.heap.size wr (wr.alloc (.cells #[.string p.1, .int .i64 p.2] 113)) from (Below.refl _ _).alloc (Nat.le_refl _) _)
        have hsT := hT.out.size
        obtain ⟨W5, hW5⟩ : ∃ W5, Hd (wr.alloc (.cells #[.string p.1, .int .i64 p.2] 113) = W5) := ⟨_, ⟨rfl⟩⟩
        rw [hW5.out] at HW5
        obtain ⟨fn, tm, asn, bd, hy, hRR⟩ := HYY.out (pre.flatten ++ x.take i) p #[.string p.1, .int .i64 p.2] Ci W5 (HJA.out.below HW5.out hJi.out) (hPf.out i hlt2 p hp0.out) rfl (fun k h => Nat.lt_of_lt_of_le (hCs.out k h) HW5.out.size)
        have HRR := Hd.mk hRR
        rw [← hW5.out] at hy
        have z0 : (wr.alloc (.cells #[.string p.1, .int .i64 p.2] 113)).cell? ⟨W.heap.size, 0, none⟩ = some (.func (.yield y) #[] #[]) := one_load' ((((Below.refl wr.heap.size wr).alloc (Nat.le_refl _) _).block _ (Array.getElem?_eq_some_iff.1 hB.out).1).trans hB.out)
        have hlti : (i : Int) < (n1 : Int) := by omega
        have hi00 : (0 : Int) ≤ (i : Int) := by omega
        clear hRR
        gi_wp2_with fail
        rw [hW5.out]
        refine ⟨fun h => by simp [Fence.wide] at h, ?_⟩
        refine (round_any HRR.out).mono ?_
        rintro e W6 ⟨hcase, ht6⟩
        have hs5 := HW5.out.size
        have hs6 := ht6.size
        have HC6 : Hd (∀ k, up Ci W5 W6 k → C k ∨ W'.heap.size ≤ k) := ⟨fun k h => by
          rcases h with h | h
          · exact hCi.out k h
          · right; omega⟩
        have HS6 : Hd (∀ k, up Ci W5 W6 k → k < W6.heap.size) := ⟨fun k h => by
          rcases h with h | h
          · have := hCs.out k h; omega
          · exact h.2⟩
        have HT6 : Hd (Tch C W' W6) := ⟨(hT.out.trans (Tch.of_below HW5.out)).trans (ht6.mono fun k hk h => (hCi.out k h).elim (fun h => .inl h) (fun h => .inr ⟨h, hk⟩))⟩
        have HR6 : Hd (RdK W6 (some ad) n1 x) := ⟨RdK.tch' (Rd.below hR.out HW5.out) ht6 (fun ad' e h => by
          injection e with e
          subst e
          have h1 := HAx.out (by omega) ad rfl
          exact (hCi.out _ h).elim h1.1 (fun h => by omega))⟩
        have HB6 : Hd (W6.heap[W.heap.size]? = some (.cells #[.func (.yield y) #[] #[]] 176 (0, 0))) := ⟨(ht6.block _ (by have := (Array.getElem?_eq_some_iff.1 hB.out).1; omega) (fun h => (hCi.out _ h).elim HCb.out (fun h => by omega))).trans ((HW5.out.block _ (Array.getElem?_eq_some_iff.1 hB.out).1).trans hB.out)⟩
        have hx1 : x.take i ++ [p] = x.take (i + 1) := by rw [List.take_add_one, hp0.out]; rfl
        rcases hcase with ⟨rfl, hj6⟩ | ⟨rfl, hj6⟩
        · have HJ6 : Hd (J (pre.flatten ++ x.take (i + 1)) (up Ci W5 W6) W6) := ⟨by rw [← hx1, ← List.append_assoc]; exact hj6⟩
          clear hj6 ht6 hx1 HRR hy
          gi_wp2_with fail
          go_roundw
          case rel => exact ⟨i + 1, _, by go_num, by omega, HJ6, HC6, HS6, HT6, HR6, HB6⟩
          case measure => simp [intOf]; omega
        · have HJ6 := Hd.mk hj6
          have hpf := Hd.mk (hPf.out i hlt2 p hp0.out)
          have hsub : Hd (∀ k, up Ci W5 W6 k → up C W' W6 k) := ⟨fun k h => (HC6.out k h).imp id (fun h2 => ⟨h2, HS6.out k h⟩)⟩
          clear hj6 ht6 hx1 HRR hy
          gi_wp2_with fail
          exact ⟨HT6.out, rfl, _, _, hsub.out, hpf.out, HJ6.out⟩
      · obtain rfl : i = n1 := by omega
        have hlti : ¬ ((i : Int) < (i : Int)) := by omega
        have hsub : Hd (∀ k, Ci k → up C W' wr k) := ⟨fun k h => (hCi.out k h).imp id (fun h2 => ⟨h2, hCs.out k h⟩)⟩
        have HJ6 : Hd (J (pre ++ [x]).flatten Ci wr) := ⟨by
          have := hJi.out
          rw [List.take_of_length_le (by rw [hxl.out]; exact Nat.le_refl _)] at this
          simpa using this⟩
        have hnb : Hd (¬ up C W' wr W.heap.size) := ⟨fun h => h.elim HCb.out (fun h => by omega)⟩
        clear hJi
        gi_wp2_with fail
        exact ⟨hT.out, ⟨Ci, hsub.out, HJ6.out⟩, hB.out, hnb.out, (Array.getElem?_eq_some_iff.1 hB.out).1⟩
end Go.Proofs.Ytkgdcglnkodgnaa
namespace Go.Proofs.Ytkgdcglnkodgnaa
open Go.RowKit
theorem StW.below_ {w0 w w' : World} {g : Nat} {A : Option Addr} {n c : Nat} {kind : UInt8} {q : RQ} {s : RS} {O : Option Addr} {oc : Nat} (h : StW w g A n c kind q s O oc w') (hb : Below w0.heap.size w0 w) (hF : ∀ k, FW g O oc k → w0.heap.size ≤ k) :
    ∃ O' on' oc', WkR w' g A n c kind q s O' on' oc' ∧ OwnK w' (g + 1) O' on' oc' s.out ∧ Below w0.heap.size w0 w' := by
  obtain ⟨O', on', oc', h1, h2, _⟩ := h
  exact ⟨O', on', oc', h1.1, h1.2, hb.trans (h2.below hF hb.size)⟩
theorem fw_none {g k b : Nat} (h : FW g none 0 k) (hb : b ≤ g) : b ≤ k := by
  rcases h with rfl | h
  · exact hb
  · simp [ownBlk] at h
set_option maxRecDepth 100000 in
set_option maxHeartbeats 2000000 in
theorem rfrom80 (A : Option Addr) (n c : Nat) (l : List UInt8) (kind : UInt8) (root : Int) (key : ByteArray) (most : Int) (w : World) (h : Rd8 w A n l) (hn : n ≤ 140737488355328) (hnc : n ≤ c) (hA : 0 < n → ∀ ad, A = some ad → ad.block < w.heap.size)
    (hlo : -9223372036854775808 ≤ root) (hhi : root ≤ 9223372036854775807) :
    Calls Try.prog 80 #[.slice A n c, .int .u8 (kind.toNat : Int), .int .i64 root, .string key, .int .i64 most] w (RetFm w (fromP l kind root key most)) := by
  have hmix := try_mixed
  go_enter Try.func80, Try.ntmps80
  by_cases hneg : most < 0
  · have hres : Hd (fromP l kind root key most = ([], 1)) := ⟨by unfold fromP; rw [if_pos hneg]⟩
    go_wp2_with fail
    go_ret2
    rw [hres.out]
    exact ⟨_, _, _, rfl, OwnK.nil_ _ _ _, Below.refl _ _⟩
  have WK0 := Hd.mk (show WkR (w.alloc (.cells #[.slice A n c, .int .u8 (kind.toNat : Int), .int .i64 most, .slice none 0 0, .string key, .int .i64 0, .string ⟨#[]⟩, .int .i64 0, .bool false, .int .i64 0] 185)) w.heap.size A n c kind ⟨most, key, false⟩ startR none 0 0 from heap_alloc_new w _)
  have BL0 := Hd.mk (show Below w.heap.size w (w.alloc (.cells #[.slice A n c, .int .u8 (kind.toNat : Int), .int .i64 most, .slice none 0 0, .string key, .int .i64 0, .string ⟨#[]⟩, .int .i64 0, .bool false, .int .i64 0] 185)) from (Below.refl _ _).alloc (Nat.le_refl _) _)
  by_cases hz : most = 0
  · subst hz
    have hres : Hd (fromP l kind root key 0 = ([], 0)) := ⟨by unfold fromP; rw [if_neg (by omega), if_pos (by omega)]; simp⟩
    go_wp2_with fail
    go_ret2
    rw [hres.out]
    exact ⟨_, _, _, rfl, OwnK.nil_ _ _ _, BL0.out⟩
  · have hpl := Hd.mk (from_plain (b := l) (kind := kind) (root := root) (key := key) (most := most) (by omega))
    have HN := Hd.mk (rnode126 w.heap.size A n c l kind ⟨most, key, false⟩ hn hnc hA 14 root (-1) true ⟨#[]⟩ true startR none 0 0 _ ⟨WK0.out, OwnK.nil_ _ _ _⟩ (h.below BL0.out) (goodR_start l kind) hlo hhi (.inl ⟨rfl, rfl⟩) rfl)
    have g1 : most > 0 := by omega
    obtain ⟨s', hs'⟩ : ∃ s', nodeR l kind ⟨most, key, false⟩ 14 root (-1) true ⟨#[]⟩ startR = s' := ⟨_, rfl⟩
    rw [hs'] at hpl HN
    go_wp2_with fail
    refine HN.out.mono ?_
    rintro e w2 ⟨rfl, hst⟩
    obtain ⟨O, on, oc, k1, o1, b1⟩ := hst.below_ BL0.out (fun k hk => fw_none hk (Nat.le_refl _))
    have HO := Hd.mk o1
    have HB := Hd.mk b1
    have HK := Hd.mk k1
    obtain ⟨z0, z1, z2, z3, z4, z5, z6, z7, z8, z9⟩ := wkr_load k1
    clear hst WK0 BL0 HN k1 o1 b1
    by_cases he : s'.bad = 0
    · have e1 : ((s'.bad : Int) != 0) = false := by simp; exact he
      go_wp2_with fail
      go_ret2
      rw [hpl.out, if_neg (by omega)]
      exact ⟨_, _, _, rfl, OwnK.mono HO.out (by omega), HB.out⟩
    · have e1 : ((s'.bad : Int) != 0) = true := by simp; omega
      go_wp2_with fail
      refine region_zone 6 [false, false, false, false, false, false] (by kernel_rfl) (by kernel_rfl) hmix (fun w' => WkR w' w.heap.size A n c kind ⟨most, key, false⟩ s' O on oc) [] ?_ (fun hS => ?_)
      · exact HK.out
      refine wpAnyZ_take0 (i := 0) (oi := ⟨_, _, _, _, _, _⟩) (v := ?_) rfl (by decide +kernel) (fun _ _ _ h => h) (Or.inl ⟨by rfl, ?_⟩) (fun _ => hS) ?_
      rotate_left
      focus (intro w _; go_simp; (try with_reducible rfl); done)
      simp only [Act.put, List.setIfInBounds_toArray, List.set_cons_zero, List.set_cons_succ]
      refine wpAnyZ_take0 (i := 1) (oi := ⟨_, _, _, _, _, _⟩) (v := ?_) rfl (by decide +kernel) (fun _ _ _ h => h) (Or.inl ⟨by rfl, ?_⟩) (fun _ => hS) ?_
      rotate_left
      focus (intro w _; go_simp; (try with_reducible rfl); done)
      simp only [Act.put, List.setIfInBounds_toArray, List.set_cons_zero, List.set_cons_succ]
      refine wpAnyZ_take0 (i := 2) (oi := ⟨_, _, _, _, _, _⟩) (v := ?_) rfl (by decide +kernel) (fun _ _ _ h => h) (Or.inl ⟨by rfl, ?_⟩) (fun _ => hS) ?_
      rotate_left
      focus (intro w _; go_simp; (try with_reducible rfl); done)
      simp only [Act.put, List.setIfInBounds_toArray, List.set_cons_zero, List.set_cons_succ]
      refine wpAnyZ_take (i := 3) (oi := ⟨_, _, _, _, _, _⟩) (v := ?_) rfl (by decide +kernel) (fun _ _ _ h => h) (Or.inl ⟨by rfl, ?_⟩) hS ?_
      rotate_left
      focus (intro w hSw; (try dsimp only at hSw); (obtain ⟨z0, z1, z2, z3, z4, z5, z6, z7, z8, z9⟩ := wkr_load hSw; clear hSw); go_simp; (try with_reducible rfl); done)
      simp only [Act.put, List.setIfInBounds_toArray, List.set_cons_zero, List.set_cons_succ]
      refine wpAnyZ_take0 (i := 4) (oi := ⟨_, _, _, _, _, _⟩) (v := ?_) rfl (by decide +kernel) (fun _ _ _ h => h) (Or.inl ⟨by rfl, ?_⟩) (fun _ => hS) ?_
      rotate_left
      focus (intro w _; go_simp; (try with_reducible rfl); done)
      simp only [Act.put, List.setIfInBounds_toArray, List.set_cons_zero, List.set_cons_succ]
      refine wpAnyZ_take0 (i := 5) (oi := ⟨_, _, _, _, _, _⟩) (v := ?_) rfl (by decide +kernel) (fun _ _ _ h => h) (Or.inl ⟨by rfl, ?_⟩) (fun _ => hS) ?_
      rotate_left
      focus (intro w _; go_simp; (try with_reducible rfl); done)
      simp only [Act.put, List.setIfInBounds_toArray, List.set_cons_zero, List.set_cons_succ]
      refine wpAnyZ_done (by decide +kernel) ?_
      go_wp2_with fail
      go_ret2
      rw [hpl.out, if_pos he]
      exact ⟨_, _, _, rfl, OwnK.nil_ _ _ _, HB.out.trans ((below_drewK w2).mono HB.out.size)⟩
set_option maxRecDepth 100000 in
set_option maxHeartbeats 2000000 in
theorem reach75 (A : Option Addr) (n c : Nat) (l : List UInt8) (kind : UInt8) (root : Int) (w : World) (h : Rd8 w A n l) (hn : n ≤ 140737488355328) (hnc : n ≤ c) (hA : 0 < n → ∀ ad, A = some ad → ad.block < w.heap.size)
    (hlo : -9223372036854775808 ≤ root) (hhi : root ≤ 9223372036854775807) :
    Calls Try.prog 75 #[.slice A n c, .int .u8 (kind.toNat : Int), .int .i64 root] w fun e w' => ∃ O on oc, e = .returned (.slice O on oc) ∧ OwnK w' w.heap.size O on oc (walkP l kind root ⟨#[]⟩).1.flatten ∧ Below w.heap.size w w' := by
  have hmix := try_mixed
  go_enter Try.func75, Try.ntmps75
  have WK0 := Hd.mk (show WkR (w.alloc (.cells #[.slice A n c, .int .u8 (kind.toNat : Int), .int .i64 1099511627776, .slice none 0 0, .string ⟨#[]⟩, .int .i64 0, .string ⟨#[]⟩, .int .i64 0, .bool false, .int .i64 0] 185)) w.heap.size A n c kind ⟨1099511627776, ⟨#[]⟩, false⟩ startR none 0 0 from heap_alloc_new w _)
  have BL0 := Hd.mk (show Below w.heap.size w (w.alloc (.cells #[.slice A n c, .int .u8 (kind.toNat : Int), .int .i64 1099511627776, .slice none 0 0, .string ⟨#[]⟩, .int .i64 0, .string ⟨#[]⟩, .int .i64 0, .bool false, .int .i64 0] 185)) from (Below.refl _ _).alloc (Nat.le_refl _) _)
  have hpl := Hd.mk (each_plain (b := l) (kind := kind) (root := root)).1
  have HN := Hd.mk (rnode126 w.heap.size A n c l kind ⟨1099511627776, ⟨#[]⟩, false⟩ hn hnc hA 14 root (-1) true ⟨#[]⟩ true startR none 0 0 _ ⟨WK0.out, OwnK.nil_ _ _ _⟩ (h.below BL0.out) (goodR_start l kind) hlo hhi (.inl ⟨rfl, rfl⟩) rfl)
  obtain ⟨s', hs'⟩ : ∃ s', nodeR l kind ⟨1099511627776, ⟨#[]⟩, false⟩ 14 root (-1) true ⟨#[]⟩ startR = s' := ⟨_, rfl⟩
  rw [hs'] at hpl HN
  go_wp2_with fail
  refine HN.out.mono ?_
  rintro e w2 ⟨rfl, hst⟩
  obtain ⟨O, on, oc, k1, o1, b1⟩ := hst.below_ BL0.out (fun k hk => fw_none hk (Nat.le_refl _))
  have HO := Hd.mk o1
  have HB := Hd.mk b1
  obtain ⟨z0, z1, z2, z3, z4, z5, z6, z7, z8, z9⟩ := wkr_load k1
  clear hst WK0 BL0 HN k1 o1 b1
  go_wp2_with fail
  go_ret
  exact ⟨_, _, _, rfl, by rw [← hpl.out]; exact OwnK.mono HO.out (by omega), HB.out⟩
set_option maxRecDepth 100000 in
set_option maxHeartbeats 2000000 in
theorem rcheck76 (A : Option Addr) (n c : Nat) (l : List UInt8) (kind : UInt8) (root : Int) (w : World) (h : Rd8 w A n l) (hn : n ≤ 140737488355328) (hnc : n ≤ c) (hA : 0 < n → ∀ ad, A = some ad → ad.block < w.heap.size)
    (hlo : -9223372036854775808 ≤ root) (hhi : root ≤ 9223372036854775807) :
    Calls Try.prog 76 #[.slice A n c, .int .u8 (kind.toNat : Int), .int .i64 root] w fun e w' => e = .returned (.tuple #[.int .i64 (checkP l kind root).1, .int .i64 ((checkP l kind root).2 : Int)]) ∧ Below w.heap.size w w' := by
  have hmix := try_mixed
  go_enter Try.func76, Try.ntmps76
  have WK0 := Hd.mk (show WkR (w.alloc (.cells #[.slice A n c, .int .u8 (kind.toNat : Int), .int .i64 1, .slice none 0 0, .string ⟨#[]⟩, .int .i64 0, .string ⟨#[]⟩, .int .i64 0, .bool true, .int .i64 0] 185)) w.heap.size A n c kind ⟨1, ⟨#[]⟩, true⟩ startR none 0 0 from heap_alloc_new w _)
  have BL0 := Hd.mk (show Below w.heap.size w (w.alloc (.cells #[.slice A n c, .int .u8 (kind.toNat : Int), .int .i64 1, .slice none 0 0, .string ⟨#[]⟩, .int .i64 0, .string ⟨#[]⟩, .int .i64 0, .bool true, .int .i64 0] 185)) from (Below.refl _ _).alloc (Nat.le_refl _) _)
  have hpl := Hd.mk (check_plain (b := l) (kind := kind) (root := root))
  have HN := Hd.mk (rnode126 w.heap.size A n c l kind ⟨1, ⟨#[]⟩, true⟩ hn hnc hA 14 root (-1) false ⟨#[]⟩ true startR none 0 0 _ ⟨WK0.out, OwnK.nil_ _ _ _⟩ (h.below BL0.out) (goodR_start l kind) hlo hhi (.inl ⟨rfl, rfl⟩) rfl)
  obtain ⟨s', hs'⟩ : ∃ s', nodeR l kind ⟨1, ⟨#[]⟩, true⟩ 14 root (-1) false ⟨#[]⟩ startR = s' := ⟨_, rfl⟩
  rw [hs'] at hpl HN
  go_wp2_with fail
  refine HN.out.mono ?_
  rintro e w2 ⟨rfl, hst⟩
  obtain ⟨O, on, oc, k1, o1, b1⟩ := hst.below_ BL0.out (fun k hk => fw_none hk (Nat.le_refl _))
  have HB := Hd.mk b1
  have HK := Hd.mk k1
  obtain ⟨z0, z1, z2, z3, z4, z5, z6, z7, z8, z9⟩ := wkr_load k1
  clear hst WK0 BL0 HN k1 o1 b1
  by_cases he : s'.bad = 0
  · have e1 : ((s'.bad : Int) != 0) = false := by simp; exact he
    go_wp2_with fail
    go_ret2
    rw [hpl.out, if_neg (by omega)]
    exact ⟨rfl, HB.out⟩
  · have e1 : ((s'.bad : Int) != 0) = true := by simp; omega
    go_wp2_with fail
    refine region_zone 6 [false, false, false, false, false, false] (by kernel_rfl) (by kernel_rfl) hmix (fun w' => WkR w' w.heap.size A n c kind ⟨1, ⟨#[]⟩, true⟩ s' O on oc) [] ?_ (fun hS => ?_)
    · exact HK.out
    refine wpAnyZ_take0 (i := 0) (oi := ⟨_, _, _, _, _, _⟩) (v := ?_) rfl (by decide +kernel) (fun _ _ _ h => h) (Or.inl ⟨by rfl, ?_⟩) (fun _ => hS) ?_
    rotate_left
    focus (intro w _; go_simp; (try with_reducible rfl); done)
    simp only [Act.put, List.setIfInBounds_toArray, List.set_cons_zero, List.set_cons_succ]
    refine wpAnyZ_take0 (i := 1) (oi := ⟨_, _, _, _, _, _⟩) (v := ?_) rfl (by decide +kernel) (fun _ _ _ h => h) (Or.inl ⟨by rfl, ?_⟩) (fun _ => hS) ?_
    rotate_left
    focus (intro w _; go_simp; (try with_reducible rfl); done)
    simp only [Act.put, List.setIfInBounds_toArray, List.set_cons_zero, List.set_cons_succ]
    refine wpAnyZ_take0 (i := 2) (oi := ⟨_, _, _, _, _, _⟩) (v := ?_) rfl (by decide +kernel) (fun _ _ _ h => h) (Or.inl ⟨by rfl, ?_⟩) (fun _ => hS) ?_
    rotate_left
    focus (intro w _; go_simp; (try with_reducible rfl); done)
    simp only [Act.put, List.setIfInBounds_toArray, List.set_cons_zero, List.set_cons_succ]
    refine wpAnyZ_take (i := 3) (oi := ⟨_, _, _, _, _, _⟩) (v := ?_) rfl (by decide +kernel) (fun _ _ _ h => h) (Or.inl ⟨by rfl, ?_⟩) hS ?_
    rotate_left
    focus (intro w hSw; (try dsimp only at hSw); (obtain ⟨z0, z1, z2, z3, z4, z5, z6, z7, z8, z9⟩ := wkr_load hSw; clear hSw); go_simp; (try with_reducible rfl); done)
    simp only [Act.put, List.setIfInBounds_toArray, List.set_cons_zero, List.set_cons_succ]
    refine wpAnyZ_take0 (i := 4) (oi := ⟨_, _, _, _, _, _⟩) (v := ?_) rfl (by decide +kernel) (fun _ _ _ h => h) (Or.inl ⟨by rfl, ?_⟩) (fun _ => hS) ?_
    rotate_left
    focus (intro w _; go_simp; (try with_reducible rfl); done)
    simp only [Act.put, List.setIfInBounds_toArray, List.set_cons_zero, List.set_cons_succ]
    refine wpAnyZ_take0 (i := 5) (oi := ⟨_, _, _, _, _, _⟩) (v := ?_) rfl (by decide +kernel) (fun _ _ _ h => h) (Or.inl ⟨by rfl, ?_⟩) (fun _ => hS) ?_
    rotate_left
    focus (intro w _; go_simp; (try with_reducible rfl); done)
    simp only [Act.put, List.setIfInBounds_toArray, List.set_cons_zero, List.set_cons_succ]
    refine wpAnyZ_done (by decide +kernel) ?_
    go_wp2_with fail
    go_ret2
    rw [hpl.out, if_pos he]
    exact ⟨rfl, HB.out.trans ((below_drewK w2).mono HB.out.size)⟩
end Go.Proofs.Ytkgdcglnkodgnaa
namespace Go.Proofs.Ytkgdcglnkodgnaa
open Go.RowKit Go.Shelf
attribute [local go_sem] Oper.semAt_some
/-- A loop's law with what a round hands on hidden from the walk. -/
theorem wpIn_loop_k {F : Fence} {n : Nat} {P : Program} {Q : Exit → Act → World → Prop} {a : Act} {w : World} {c : Code} (I : Act → World → Prop) (μ : Act → World → Nat) (h₀ : I a w)
    (round : ∀ a w, I a w → ∀ K : Act → World → Prop, (∀ a' w', I a' w' ∧ μ a' w' < μ a w → K a' w') → c.wpIn F n P (Exit.then K Q) a w) : (Code.loop c).wpIn F n P Q a w :=
  wpIn_loop I μ h₀ fun a w h => round a w h _ fun _ _ q => q
theorem three_boxesG {W V : World} {a b c : Obj} (hV : V = ((W.alloc a).alloc b).alloc c) : V.heap[W.heap.size]? = some a ∧ V.heap[W.heap.size + 1]? = some b ∧ V.heap[W.heap.size + 1 + 1]? = some c ∧ V.heap.size = W.heap.size + 3 := by
  obtain ⟨h1, h2, h3, _, _, _⟩ := four_boxes (d := c) (V := V.alloc c) (by rw [hV])
  have bb : Below V.heap.size V (V.alloc c) := (Below.refl _ _).alloc (Nat.le_refl _) _
  have hs : V.heap.size = W.heap.size + 3 := by rw [hV]; simp
  exact ⟨(bb.block _ (by omega)).symm.trans h1, (bb.block _ (by omega)).symm.trans h2, (bb.block _ (by omega)).symm.trans h3, hs⟩
/-- What the law has at hand between two passes. -/
structure GoI (w : World) (wbk : Nat) (A : Option Addr) (n : Nat) (l : List UInt8) (most : Int) (O : Option Addr) (on oc : Nat) (L : List Kp) (k kb : Nat) (Ds : List Nat) (W : World) : Prop where
  mb : W.heap[w.heap.size]? = some (.cells #[.int .i64 most] 3 (0, 0))
  rb : W.heap[w.heap.size + 1]? = some (.cells #[.bool false] 4 (0, 0))
  wb : W.heap[wbk]? = some (.cells #[.slice O on oc] 84 (0, 0))
  kx : W.heap[kb]? = some (.cells #[.int .i64 (k : Int)] 3 (0, 0))
  rd : RdK W O on L
  r8 : Rd8 W A n l
  bel : Below w.heap.size w W
  dl : Ds.length = k
  dn : Ds.Pairwise (· ≠ ·)
  dd : ∀ D ∈ Ds, W.heap[D]? = some (.deferred (some [])) ∧ w.heap.size + 2 ≤ D
theorem GoI.below {w : World} {wbk : Nat} {A : Option Addr} {n : Nat} {l : List UInt8} {most : Int} {O : Option Addr} {on oc : Nat} {L : List Kp} {k kb : Nat} {Ds : List Nat} {W W' : World} (h : GoI w wbk A n l most O on oc L k kb Ds W) (hb : Below W.heap.size W W') :
    GoI w wbk A n l most O on oc L k kb Ds W' :=
  ⟨(hb.block _ (Array.getElem?_eq_some_iff.1 h.mb).1).trans h.mb, (hb.block _ (Array.getElem?_eq_some_iff.1 h.rb).1).trans h.rb, (hb.block _ (Array.getElem?_eq_some_iff.1 h.wb).1).trans h.wb, (hb.block _ (Array.getElem?_eq_some_iff.1 h.kx).1).trans h.kx,
   Rd.below h.rd hb, h.r8.below hb, h.bel.trans (hb.mono h.bel.size), h.dl, h.dn, fun D hD => ⟨(hb.block _ (Array.getElem?_eq_some_iff.1 (h.dd D hD).1).1).trans (h.dd D hD).1, (h.dd D hD).2⟩⟩
theorem GoI.next {w : World} {wbk : Nat} {A : Option Addr} {n : Nat} {l : List UInt8} {most : Int} {O : Option Addr} {on oc : Nat} {L : List Kp} {k kb D : Nat} {Ds : List Nat} {W : World} (h : GoI w wbk A n l most O on oc L k kb Ds W)
    (hD : W.heap[D]? = some (.deferred (some []))) (hn : ¬ D ∈ Ds) (hb : w.heap.size + 2 ≤ D) : GoI w wbk A n l most O on oc L (k + 1) W.heap.size (D :: Ds) (W.alloc (.cells #[.int .i64 ((k + 1 : Nat) : Int)] 3)) := by
  have h1 := h.below (W' := W.alloc (.cells #[.int .i64 ((k + 1 : Nat) : Int)] 3)) ((Below.refl _ _).alloc (Nat.le_refl _) _)
  refine ⟨h1.mb, h1.rb, h1.wb, World.alloc_heap_new W _, h1.rd, h1.r8, h1.bel, by simp [h.dl], ?_, fun E hE => ?_⟩
  · refine List.pairwise_cons.2 ⟨fun E hE e => hn (by rw [e]; exact hE), h.dn⟩
  · rcases List.mem_cons.1 hE with rfl | hE
    · exact ⟨(Below.heap_alloc _ _ _ (Array.getElem?_eq_some_iff.1 hD).1).trans hD, hb⟩
    · exact h1.dd E hE
set_option maxRecDepth 100000 in
set_option maxHeartbeats 4000000 in
theorem treeGoes18 (A : Option Addr) (n c : Nat) (l : List UInt8) (kind : UInt8) (root most : Int) (w : World) (h : Rd8 w A n l) (hn : n ≤ 140737488355328) (hnc : n ≤ c) (hlo : -9223372036854775808 ≤ root) (hhi : root ≤ 9223372036854775807) :
    CallsIn Fence.wide 9 Try.prog 18 #[.slice A n c, .int .u8 (kind.toNat : Int), .int .i64 root, .int .i64 most] w fun e w' => e = .returned (.bool true) ∧ Below w.heap.size w w' := by
  have hmix := try_mixed
  have hAb : Hd (∀ W, Below w.heap.size w W → 0 < n → ∀ ad, A = some ad → ad.block < W.heap.size) := ⟨fun W hb hn0 ad e => by
    obtain ⟨ad', e', hc⟩ := h.2 hn0
    rw [e] at e'; injection e' with e'; subst e'
    have hl : 0 < (bc l).length := by rw [h.1]; omega
    have := cell_lt (hc 0 _ (List.getElem?_eq_getElem hl))
    rw [block_add] at this
    exact Nat.lt_of_lt_of_le this hb.size⟩
  have HD := Hd.mk h
  obtain ⟨V, hV⟩ : ∃ V, ((w.alloc (.cells #[.int .i64 most] 3)).alloc (.cells #[.bool false] 4)) = V := ⟨_, rfl⟩
  have v1 : V.heap[w.heap.size]? = some (.cells #[.int .i64 most] 3 (0, 0)) := by
    rw [← hV]; exact (Below.heap_alloc _ _ _ (by simp)).trans (World.alloc_heap_new w _)
  have v2 : V.heap[w.heap.size + 1]? = some (.cells #[.bool false] 4 (0, 0)) := by
    rw [← hV]; have := World.alloc_heap_new (w.alloc (.cells #[.int .i64 most] 3)) (.cells #[.bool false] 4); rwa [World.size_alloc] at this
  have vb : Below w.heap.size w V := by rw [← hV]; exact ((Below.refl _ _).alloc (Nat.le_refl _) _).alloc (by simp) _
  have vs : V.heap.size = w.heap.size + 2 := by rw [← hV]; simp
  refine callsIn_of_wp_marks Try.func18 rfl trivial ?_ rfl
  simp only [Try.ntmps18, List.size_toArray, List.length_cons, List.length_nil, Nat.reduceAdd, Nat.reduceSub, Array.replicate_succ, Array.replicate_zero, List.push_toArray, List.append_toArray, List.nil_append, List.cons_append]
  gi_wp2_with fail
  try rw [hV]
  refine ⟨trivial, ?_⟩
  refine (callsIn_wide.2 (awake64 _)).mono ?_
  rintro e w1 ⟨rfl, hb1⟩
  have hs1 : w.heap.size + 2 ≤ w1.heap.size := by have := hb1.size; omega
  have H1 := Hd.mk ((hb1.block _ (by omega)).trans v1)
  have H2 := Hd.mk ((hb1.block _ (by omega)).trans v2)
  have HB1 := Hd.mk (vb.trans (hb1.mono (by omega)))
  have HE := Hd.mk (reach75 A n c l kind root w1 (HD.out.below HB1.out) hn hnc (hAb.out w1 HB1.out) hlo hhi)
  clear hV v1 v2 vb vs hb1 h
  gi_wp2_with fail
  refine ⟨trivial, ?_⟩
  refine (callsIn_wide.2 HE.out).mono ?_
  rintro e w2 ⟨O, on, oc, rfl, o2, b2⟩
  obtain ⟨L, hL⟩ : ∃ L, Hd ((walkP l kind root ⟨#[]⟩).1.flatten = L) := ⟨_, ⟨rfl⟩⟩
  have hLb : Hd (L.length ≤ 4194304) := ⟨by rw [← hL.out]; exact each_plain.2⟩
  rw [hL.out] at o2
  have H2b := Hd.mk (HB1.out.trans (b2.mono HB1.out.size))
  have hs2 : w.heap.size + 2 ≤ w2.heap.size := by have := b2.size; omega
  obtain ⟨wbk, hwb⟩ : ∃ wbk, w2.heap.size = wbk := ⟨_, rfl⟩
  have hba : Below w2.heap.size w2 ((w2.alloc (.cells #[.slice O on oc] 84)).alloc (.cells #[.int .i64 0] 3)) := ((Below.refl _ _).alloc (Nat.le_refl _) _).alloc (by simp) _
  have hb02 := H1.out
  have G0 : Hd (GoI w wbk A n l most O on oc L 0 (wbk + 1) [] ((w2.alloc (.cells #[.slice O on oc] 84)).alloc (.cells #[.int .i64 0] 3))) := ⟨by
    refine ⟨(hba.block _ (by omega)).trans ((b2.block _ (by omega)).trans H1.out), (hba.block _ (by omega)).trans ((b2.block _ (by omega)).trans H2.out), ?_, ?_, Rd.below (Own.rd o2) hba, (HD.out.below H2b.out).below hba, H2b.out.trans (hba.mono (by omega)), rfl, by simp, by simp⟩
    · rw [← hwb]; exact (Below.heap_alloc _ _ _ (by simp)).trans (World.alloc_heap_new w2 _)
    · have := World.alloc_heap_new (w2.alloc (.cells #[.slice O on oc] 84)) (.cells #[.int .i64 0] 3); rw [World.size_alloc, hwb] at this; exact this⟩
  clear HE H1 H2 HB1 hs1 hba hb02 o2 b2
  gi_wp2_with fail
  try rw [hwb]
  refine wpIn_loop_k (fun a W => ∃ (ds : List Deferred) (Ds : List Nat) (k kb : Nat) (u11 u12 u13 u24 u25 u26 u27 u28 u29 u30 u31 u32 u33 u34 u35 u36 u37 u38 u39 u40 u41 u42 u43 u44 u45 u46 u47 u48 u49 u50 u51 u52 u53 u54 u55 u56 u57 u58 u59 u60 u61 u62 u63 u64 u65 u66 u67 u68 u69 u70 u71 u72 u73 u74 : Value), a = { tmps := #[Value.slice A n c, .int .u8 (kind.toNat : Int), .int .i64 root, .int .i64 most, undef, undef, undef, .pointer (some ⟨w.heap.size, 0, none⟩), .pointer (some ⟨w.heap.size + 1, 0, none⟩), .pointer (some ⟨wbk, 0, none⟩), .pointer (some ⟨kb, 0, none⟩), u11, u12, u13, undef, undef, undef, undef, .bool true, .bool false, .slice A n c, .int .u8 (kind.toNat : Int), .int .i64 root, .slice O on oc, u24, u25, u26, u27, u28, u29, u30, u31, u32, u33, u34, u35, u36, u37, u38, u39, u40, u41, u42, u43, u44, u45, u46, u47, u48, u49, u50, u51, u52, u53, u54, u55, u56, u57, u58, u59, u60, u61, u62, u63, u64, u65, u66, u67, u68, u69, u70, u71, u72, u73, u74, undef, undef, undef, undef, undef, undef, undef, undef, undef, undef, undef, undef, undef, undef, undef, undef, undef, undef, undef, undef, undef, undef, undef, undef, undef, undef, undef, undef, undef, undef, undef, undef, undef, undef, undef, undef, undef, undef, undef, undef, undef, undef, undef, undef, undef, undef], defers := ds } ∧ ds = Ds.map (fun D => { target := .collected D, args := #[] }) ∧ k ≤ 2 ∧ Hd (GoI w wbk A n l most O on oc L k kb Ds W))
    (fun a _ => 2 - a.defers.length) ⟨[], [], 0, wbk + 1, _, _, _, _, _, _, _, _, _, _, _, _, _, _, _, _, _, _, _, _, _, _, _, _, _, _, _, _, _, _, _, _, _, _, _, _, _, _, _, _, _, _, _, _, _, _, _, _, _, _, _, _, _, _, rfl, rfl, by omega, G0⟩ ?_
  intro a W hI KL hKL
  obtain ⟨ds, hI⟩ := hI
  obtain ⟨Ds, hI⟩ := hI
  obtain ⟨k, hI⟩ := hI
  obtain ⟨kb, hI⟩ := hI
  obtain ⟨u11, hI⟩ := hI
  obtain ⟨u12, hI⟩ := hI
  obtain ⟨u13, hI⟩ := hI
  obtain ⟨u24, hI⟩ := hI
  obtain ⟨u25, hI⟩ := hI
  obtain ⟨u26, hI⟩ := hI
  obtain ⟨u27, hI⟩ := hI
  obtain ⟨u28, hI⟩ := hI
  obtain ⟨u29, hI⟩ := hI
  obtain ⟨u30, hI⟩ := hI
  obtain ⟨u31, hI⟩ := hI
  obtain ⟨u32, hI⟩ := hI
  obtain ⟨u33, hI⟩ := hI
  obtain ⟨u34, hI⟩ := hI
  obtain ⟨u35, hI⟩ := hI
  obtain ⟨u36, hI⟩ := hI
  obtain ⟨u37, hI⟩ := hI
  obtain ⟨u38, hI⟩ := hI
  obtain ⟨u39, hI⟩ := hI
  obtain ⟨u40, hI⟩ := hI
  obtain ⟨u41, hI⟩ := hI
  obtain ⟨u42, hI⟩ := hI
  obtain ⟨u43, hI⟩ := hI
  obtain ⟨u44, hI⟩ := hI
  obtain ⟨u45, hI⟩ := hI
  obtain ⟨u46, hI⟩ := hI
  obtain ⟨u47, hI⟩ := hI
  obtain ⟨u48, hI⟩ := hI
  obtain ⟨u49, hI⟩ := hI
  obtain ⟨u50, hI⟩ := hI
  obtain ⟨u51, hI⟩ := hI
  obtain ⟨u52, hI⟩ := hI
  obtain ⟨u53, hI⟩ := hI
  obtain ⟨u54, hI⟩ := hI
  obtain ⟨u55, hI⟩ := hI
  obtain ⟨u56, hI⟩ := hI
  obtain ⟨u57, hI⟩ := hI
  obtain ⟨u58, hI⟩ := hI
  obtain ⟨u59, hI⟩ := hI
  obtain ⟨u60, hI⟩ := hI
  obtain ⟨u61, hI⟩ := hI
  obtain ⟨u62, hI⟩ := hI
  obtain ⟨u63, hI⟩ := hI
  obtain ⟨u64, hI⟩ := hI
  obtain ⟨u65, hI⟩ := hI
  obtain ⟨u66, hI⟩ := hI
  obtain ⟨u67, hI⟩ := hI
  obtain ⟨u68, hI⟩ := hI
  obtain ⟨u69, hI⟩ := hI
  obtain ⟨u70, hI⟩ := hI
  obtain ⟨u71, hI⟩ := hI
  obtain ⟨u72, hI⟩ := hI
  obtain ⟨u73, hI⟩ := hI
  obtain ⟨u74, hI⟩ := hI
  obtain ⟨ha, hds, hk2, HG⟩ := hI
  subst ha
  subst hds
  have HKL := Hd.mk hKL
  clear hKL G0
  have hsW : wbk ≤ W.heap.size := Nat.le_of_lt (Array.getElem?_eq_some_iff.1 HG.out.wb).1
  have zk := one_load' HG.out.kx
  by_cases hk : k < 2
  · have hk1 : decide ((k : Int) < 2) = true := by simp; omega
    have hk1' : (k : Int) < 2 := by omega
    have bi : Hd (Below W.heap.size W (W.alloc (.cells #[.int .i64 0] 3))) := ⟨(Below.refl _ _).alloc (Nat.le_refl _) _⟩
    gi_wp2_with fail
    refine ⟨trivial, ?_⟩
    refine (callsIn_wide.2 (bytes66w A n c l _ (HG.out.r8.below bi.out) hn)).mono ?_
    rintro e W2 ⟨A6, n6, c6, rfl, o6, b6, ba6⟩
    have hnc6 := (Own8.le o6).1
    have hl6 : n6 ≤ 140737488355328 := by rw [← Own8.len o6, HG.out.r8.len]; exact hn
    have hA6 : ∀ ad, A6 = some ad → W.heap.size + 1 ≤ ad.block ∧ ad.block < W2.heap.size := fun ad e => by have := ba6 ad e; simp at this; omega
    have S2 := Hd.mk (bi.out.trans (b6.mono bi.out.size))
    have hib2 : W2.heap[W.heap.size]? = some (.cells #[.int .i64 0] 3 (0, 0)) := (b6.block _ (by simp)).trans (World.alloc_heap_new W _)
    have hs22 : W.heap.size + 1 ≤ W2.heap.size := by have := b6.size; simp at this; omega
    gi_wp2_with fail
    refine ⟨trivial, ?_⟩
    refine (callsIn_wide.2 (each74 A6 n6 c6 kind root W2)).mono ?_
    rintro e W3 ⟨rfl, hw3⟩
    have b7 : Below W2.heap.size W2 W3 := by
      rw [hw3]
      exact (((Below.refl _ _).alloc (Nat.le_refl _) _).alloc (by simp) _).alloc (by simp; omega) _
    have S3 := Hd.mk (S2.out.trans (b7.mono S2.out.size))
    obtain ⟨v1, v2, v3, vs⟩ := three_boxesG hw3
    have vr : Rd8 W3 A6 n6 l := Rd8.below (Own8.rd o6) b7
    have hib3 : W3.heap[W.heap.size]? = some (.cells #[.int .i64 0] 3 (0, 0)) := (b7.block _ (by omega)).trans hib2
    have hF0 := Hd.mk hib3
    have hw3' := Hd.mk hw3
    clear hw3 o6 b6 ba6 hib2 hib3
    gi_wp2_with fail
    refine rangeC2 (p1 := 33) (p2 := 34) rfl (by omega) (gf := 124) (lb := #[.pointer (some ⟨W2.heap.size, 0, none⟩), .pointer (some ⟨W2.heap.size + 1, 0, none⟩), .pointer (some ⟨W2.heap.size + 1 + 1, 0, none⟩)]) rfl trivial (enters_of Try.func124 (by kernel_rfl) rfl)
      (each_seqC 8 (by omega) W2.heap.size (W2.heap.size + 1) (W2.heap.size + 1 + 1) A6 n6 c6 l kind root W3 hl6 hnc6 hlo hhi (fun ad e => by have := hA6 ad e; omega) v1 v2 v3 vr) (Below.refl _ _)
      (fun x vals C W h => ⟨_, _, h⟩) (fun k hk => by rcases hk with rfl | rfl | rfl | ⟨ad, e, rfl⟩; (· omega); (· omega); (· omega); (· have := hA6 ad e; omega))
      (fun x vals C C' W l o o' ho hc hC h => h) (fun W l o o' _ ho hc h => trivial) (fun pre W l o o' _ ho hc h => trivial)
      (fun q => q = W.heap.size) (fun q hq => ⟨by omega, fun hp => by rcases hp with e | e | e | ⟨ad, e, e'⟩; (· omega); (· omega); (· omega); (· have := hA6 ad e; omega)⟩) (fun v u t => (t.setIfInBounds 12 v).setIfInBounds 13 u)
      (fun pre C W' => C W.heap.size ∧ Below W.heap.size W W' ∧ W'.heap[W.heap.size]? = some (.cells #[.int .i64 (pre.length : Int)] 3 (0, 0)))
      (fun cd pre C W' => cd = .exit 2 ∧ k = 1 ∧ C W.heap.size ∧ Below W.heap.size W W' ∧ W'.heap[W.heap.size]? = some (.cells #[.int .i64 (pre.length : Int)] 3 (0, 0))) ?hI ?hIx ?h0 ?assign ?body ?done ?stop
    case hI =>
      rintro s C X Y row ⟨i1, i2, i3⟩ hg hrow
      refine ⟨i1, i2.grown hg i2.size (fun q e => ?_), (hg.block _ (Array.getElem?_eq_some_iff.1 i3).1 (fun e => (hrow _ e.symm).1 i1)).trans i3⟩
      rcases (hrow q e).2 with h1 | h1
      · omega
      · exact h1.elim
    case hIx =>
      rintro cd s C X Y row ⟨i0, i00, i1, i2, i3⟩ hg hrow
      refine ⟨i0, i00, i1, i2.grown hg i2.size (fun q e => ?_), (hg.block _ (Array.getElem?_eq_some_iff.1 i3).1 (fun e => (hrow _ e.symm).1 i1)).trans i3⟩
      rcases (hrow q e).2 with h1 | h1
      · omega
      · exact h1.elim
    case h0 => exact ⟨rfl, S3.out, hF0.out⟩
    case assign =>
      intro r x v u C W' K he hK
      gi_wp2
      exact hK
    case body =>
      rintro r pre x v u C W' hl ⟨i1, i2, i3⟩ he hCl hsz hp
      obtain ⟨rfl, rfl⟩ : v = .string x.1 ∧ u = .int .i64 x.2 := by
        have e1 : #[v, u] = #[Value.string x.1, .int .i64 x.2] := he
        simpa using e1
      rw [hL.out] at hp
      have hx : L[pre.length]? = some x := by obtain ⟨t, ht⟩ := hp; rw [← ht]; simp
      have GW := Hd.mk (HG.out.below i2)
      have hplt : pre.length < on := by have := RdK.len GW.out.rd; have := (List.getElem?_eq_some_iff.1 hx).1; omega
      obtain ⟨ad, rfl, q0, q1⟩ := RdK.get GW.out.rd hx
      have zi := one_load' i3
      have zf := frozen_of_row _ _ 0 _ _ i3
      have zk' := one_load' GW.out.kx
      have zm := one_load' GW.out.mb
      have zw := one_load' GW.out.wb
      have j1 : decide ((pre.length : Int) ≥ (on : Int)) = false := by simp; omega
      have j2 : (x.1.toList != x.1.toList) = false := by simp
      have j3 : (x.2 != x.2) = false := by simp
      have j4 : (pre.length : Int) < (on : Int) := by omega
      have j5 : (0 : Int) ≤ (pre.length : Int) := by omega
      have j6 : IntKind.i64.wrap ((pre.length : Int) + 1) = (pre.length : Int) + 1 := by rw [IntKind.wrap_i64]; have := hLb.out; have := RdK.len GW.out.rd; omega
      have HI := Hd.mk (And.intro i1 (And.intro i2 i3))
      have hbs : Below W.heap.size W (W'.setCell ⟨W.heap.size, 0, none⟩ (.int .i64 ((pre.length : Int) + 1))) := i2.grown (grown_cell _) i2.size (fun q e => by injection e with e; omega)
      have GS := Hd.mk (HG.out.below hbs)
      have yk := one_load' GS.out.kx
      have ym := one_load' GS.out.mb
      have yi := Hd.mk (heap_setCell_same W' W.heap.size 0 _ 3 (.int .i64 ((pre.length : Int) + 1)) i3)
      have yi' := one_load' yi.out
      have hT := Hd.mk (Tch.setCell C W' W.heap.size 0 (.int .i64 ((pre.length : Int) + 1)) (.inl i1))
      have hbs' := Hd.mk hbs
      clear hbs i2 i3 hx hl he hCl hp HG GW
      simp only [List.setIfInBounds_toArray, List.set_cons_zero, List.set_cons_succ]
      have hk01 : k = 0 ∨ k = 1 := by omega
      rcases hk01 with rfl | rfl
      · have k1 : ((((0 : Nat) : Int)) == 1) = false := rfl
        gi_wp2_with fail
        refine ⟨hT.out, .inl HI.out.1, hbs'.out, ?_⟩
        rw [show ((pre ++ [x]).length : Int) = (pre.length : Int) + 1 by simp]
        exact yi.out.trans rfl
      · have k1 : ((((1 : Nat) : Int)) == 1) = true := rfl
        by_cases hmm : (pre.length : Int) + 1 > most
        · have m1 : decide ((pre.length : Int) + 1 > most) = true := by simpa using hmm
          gi_wp2_with fail
          refine ⟨hT.out, rfl, .inl HI.out.1, hbs'.out, ?_⟩
          rw [show ((pre ++ [x]).length : Int) = (pre.length : Int) + 1 by simp]
          exact yi.out.trans rfl
        · have m1 : decide ((pre.length : Int) + 1 > most) = false := by simpa using hmm
          gi_wp2_with fail
          refine ⟨hT.out, .inl HI.out.1, hbs'.out, ?_⟩
          rw [show ((pre ++ [x]).length : Int) = (pre.length : Int) + 1 by simp]
          exact yi.out.trans rfl
    case done =>
      rintro D C W' hD hCD ⟨i1, i2, i3⟩ _ hkD
      rw [hL.out] at i3
      have GW := Hd.mk (HG.out.below i2)
      have hlen := RdK.len GW.out.rd
      have zi := one_load' i3
      rw [hlen] at zi
      have zk' := one_load' GW.out.kx
      have zw := one_load' GW.out.wb
      have HkD := Hd.mk hkD
      have hDn := Hd.mk (show ¬ D ∈ Ds from fun hm => by have := (Array.getElem?_eq_some_iff.1 (HG.out.dd D hm).1).1; have := S3.out.size; omega)
      have j1 : ((on : Int) != (on : Int)) = false := by simp
      have GN := Hd.mk (GW.out.next HkD.out hDn.out (by omega))
      have HDl := Hd.mk HG.out.dl
      clear i1 i2 i3 hkD HG GW
      have hk01 : k = 0 ∨ k = 1 := by omega
      rcases hk01 with rfl | rfl
      · have k1 : ((((0 : Nat) : Int)) == 0) = true := rfl
        gi_wp2_with fail
        exact HKL.out _ _ ⟨⟨_, D :: Ds, 1, W'.heap.size, _, _, _, _, _, _, _, _, _, _, _, _, _, _, _, _, _, _, _, _, _, _, _, _, _, _, _, _, _, _, _, _, _, _, _, _, _, _, _, _, _, _, _, _, _, _, _, _, _, _, _, _, _, _, rfl, rfl, by omega, ⟨GN.out⟩⟩, by have := HDl.out; simp only [List.length_cons, List.length_map]; omega⟩
      · have k1 : ((((1 : Nat) : Int)) == 0) = false := rfl
        gi_wp2_with fail
        exact HKL.out _ _ ⟨⟨_, D :: Ds, 2, W'.heap.size, _, _, _, _, _, _, _, _, _, _, _, _, _, _, _, _, _, _, _, _, _, _, _, _, _, _, _, _, _, _, _, _, _, _, _, _, _, _, _, _, _, _, _, _, _, _, _, _, _, _, _, _, _, _, rfl, rfl, by omega, ⟨GN.out⟩⟩, by have := HDl.out; simp only [List.length_cons, List.length_map]; omega⟩
    case stop =>
      rintro D cd pre C W' hD hCD hp ⟨rfl, rfl, i1, i2, i3⟩ _ hkD
      have GW := Hd.mk (HG.out.below i2)
      have zi := one_load' i3
      have zk' := one_load' GW.out.kx
      have zw := one_load' GW.out.wb
      have hDn := Hd.mk (show ¬ D ∈ Ds from fun hm => by have := (Array.getElem?_eq_some_iff.1 (HG.out.dd D hm).1).1; have := S3.out.size; omega)
      have GN := Hd.mk (GW.out.next hkD hDn.out (by omega))
      have HDl := Hd.mk HG.out.dl
      clear i1 i2 i3 hkD HG GW
      have k1 : ((((1 : Nat) : Int)) == 0) = false := rfl
      gi_wp2_with fail
      exact HKL.out _ _ ⟨⟨_, D :: Ds, 2, W'.heap.size, _, _, _, _, _, _, _, _, _, _, _, _, _, _, _, _, _, _, _, _, _, _, _, _, _, _, _, _, _, _, _, _, _, _, _, _, _, _, _, _, _, _, _, _, _, _, _, _, _, _, _, _, _, _, rfl, rfl, by omega, ⟨GN.out⟩⟩, by have := HDl.out; simp only [List.length_cons, List.length_map]; omega⟩
  · obtain rfl : k = 2 := by omega
    have hk1 : decide ((((2 : Nat) : Int)) < 2) = false := rfl
    obtain ⟨D1, D2, rfl⟩ : ∃ D1 D2, Ds = [D1, D2] := by
      have := HG.out.dl
      match Ds, this with
      | [a, b], _ => exact ⟨a, b, rfl⟩
    have d1 := (HG.out.dd D1 (by simp)).1
    have d2 := (HG.out.dd D2 (by simp)).1
    have dne : D1 ≠ D2 := by have := HG.out.dn; simpa using this
    obtain ⟨cm, ce, hck⟩ : ∃ cm ce, Hd (checkP l kind root = (cm, ce)) := ⟨_, _, ⟨rfl⟩⟩
    obtain ⟨dm, de, hdp⟩ : ∃ dm de, Hd (depthP l kind root = (dm, de)) := ⟨_, _, ⟨rfl⟩⟩
    have x1 : (cm != cm) = false := by simp
    have x2 : ((ce : Int) != (ce : Int)) = false := by simp
    have x3 : (dm == dm) = true := by simp
    have x4 : ((de : Int) == (de : Int)) = true := by simp
    have hbW := HG.out.bel.size
    have hD1 := (HG.out.dd D1 (by simp)).2
    have hD2 := (HG.out.dd D2 (by simp)).2
    have Hd1 := Hd.mk d1
    have Hd2 := Hd.mk d2
    have Hne := Hd.mk dne
    clear HKL d1 d2 dne
    gi_wp2_with fail
    refine ⟨trivial, ?_⟩
    refine (callsIn_wide.2 (bytes66w A n c l W HG.out.r8 hn)).mono ?_
    rintro e W1 ⟨A1, n1, c1, rfl, o1, b1, ba1⟩
    have hn1 : n1 ≤ 140737488355328 := by rw [← Own8.len o1, HG.out.r8.len]; exact hn
    have B1 := Hd.mk b1
    have HC := check67 A1 n1 c1 l kind root W1 (Own8.rd o1) hn1 (Own8.le o1).1 (fun ad e => (ba1 ad e).2) hlo hhi
    rw [hck.out] at HC
    have HC1 := Hd.mk HC
    clear HC o1 b1 ba1
    gi_wp2_with fail
    refine ⟨trivial, ?_⟩
    refine (callsIn_wide.2 HC1.out).mono ?_
    rintro e W2 ⟨rfl, b2⟩
    have B2 := Hd.mk (B1.out.trans (b2.mono B1.out.size))
    have HC := rcheck76 A n c l kind root W2 (HG.out.r8.below B2.out) hn hnc (hAb.out W2 (HG.out.bel.trans (B2.out.mono hbW))) hlo hhi
    rw [hck.out] at HC
    have HC2 := Hd.mk HC
    clear HC b2 HC1
    gi_wp2_with fail
    refine ⟨trivial, ?_⟩
    refine (callsIn_wide.2 HC2.out).mono ?_
    rintro e W3 ⟨rfl, b3⟩
    have B3 := Hd.mk (B2.out.trans (b3.mono B2.out.size))
    clear b3 HC2
    gi_wp2_with fail
    refine ⟨trivial, ?_⟩
    refine (callsIn_wide.2 (bytes66w A n c l W3 (HG.out.r8.below B3.out) hn)).mono ?_
    rintro e W4 ⟨A4, n4, c4, rfl, o4, b4, ba4⟩
    have hn4 : n4 ≤ 140737488355328 := by rw [← Own8.len o4, HG.out.r8.len]; exact hn
    have B4 := Hd.mk (B3.out.trans (b4.mono B3.out.size))
    have HC := depth70 A4 n4 c4 l kind root W4 (Own8.rd o4) hn4 (Own8.le o4).1 hlo hhi
    rw [hdp.out] at HC
    have HC4 := Hd.mk HC
    clear HC o4 b4 ba4
    gi_wp2_with fail
    refine ⟨trivial, ?_⟩
    refine (callsIn_wide.2 HC4.out).mono ?_
    rintro e W5 ⟨rfl, b5⟩
    have B5 := Hd.mk (B4.out.trans (b5.mono B4.out.size))
    have HC := rdepth77 A n c l kind root W5 (HG.out.r8.below B5.out) hn hnc hlo hhi
    rw [hdp.out] at HC
    have HC5 := Hd.mk HC
    clear HC b5 HC4
    gi_wp2_with fail
    refine ⟨trivial, ?_⟩
    refine (callsIn_wide.2 HC5.out).mono ?_
    rintro e W6 ⟨rfl, b6⟩
    have B6 := Hd.mk (B5.out.trans (b6.mono B5.out.size))
    have G6 := Hd.mk (HG.out.below B6.out)
    have zr := one_load' G6.out.rb
    have zf := frozen_of_row _ _ 0 _ _ G6.out.rb
    clear b6 HC5
    gi_wp2_with fail
    have e1 := (G6.out.dd D1 (by simp)).1
    have e2 := (G6.out.dd D2 (by simp)).1
    obtain ⟨W7, hW7⟩ : ∃ W7, Hd (W6.setCell ⟨w.heap.size + 1, 0, none⟩ (.bool true) = W7) := ⟨_, ⟨rfl⟩⟩
    have s1 : W7.heap[D1]? = some (.deferred (some [])) := by rw [← hW7.out]; exact (heap_setCell_other W6 ⟨w.heap.size + 1, 0, none⟩ D1 _ (by show D1 ≠ w.heap.size + 1; omega)).trans e1
    have s2 : W7.heap[D2]? = some (.deferred (some [])) := by rw [← hW7.out]; exact (heap_setCell_other W6 ⟨w.heap.size + 1, 0, none⟩ D2 _ (by show D2 ≠ w.heap.size + 1; omega)).trans e2
    have s3 : (W7.putObj D1 (.deferred none)).heap[D2]? = some (.deferred (some [])) := (World.putObj_heap_other (by have := Hne.out; omega)).trans s2
    have r7 : W7.heap[w.heap.size + 1]? = some (.cells #[.bool true] 4 (0, 0)) := by rw [← hW7.out]; exact (heap_setCell_same W6 (w.heap.size + 1) 0 _ 4 (.bool true) G6.out.rb).trans rfl
    have b7 : Below w.heap.size w W7 := by rw [← hW7.out]; exact G6.out.bel.grown (grown_cell _) G6.out.bel.size (fun k e => by injection e with e; omega)
    have r8 : ((W7.putObj D1 (.deferred none)).putObj D2 (.deferred none)).heap[w.heap.size + 1]? = some (.cells #[.bool true] 4 (0, 0)) := (World.putObj_heap_other (by omega)).trans ((World.putObj_heap_other (by omega)).trans r7)
    have b8 : Below w.heap.size w ((W7.putObj D1 (.deferred none)).putObj D2 (.deferred none)) := (b7.grown (grownBy_putObj' W7 D1 (.deferred none)) b7.size (fun k e => by injection e with e; omega)).grown (grownBy_putObj' _ D2 (.deferred none)) (by rw [size_putObj]; exact b7.size) (fun k e => by injection e with e; omega)
    have x5 := one_load' r8
    rw [hW7.out]
    refine ⟨by simp, .inl ⟨_, _, rfl, run_takeDeferred s1, ?_⟩⟩
    refine ⟨by simp, .inl ⟨_, _, rfl, run_takeDeferred s3, ?_⟩⟩
    exact ⟨.bool true, by simp [results, Try.f18, go_sem, x5], rfl, b8⟩
end Go.Proofs.Ytkgdcglnkodgnaa
namespace Go.Proofs.Ytkgdcglnkodgnaa
open Go.ChangeShapes Go.WideShapes Go.ChangeAt Go.RowKit

theorem try_own : ownKnob Try.prog.godebug = none := by kernel_rfl
theorem try_laidOut : laidOutB Try.prog = true := by kernel_rfl
theorem try_cells5 : Try.prog.cellsOf 5 = 1 := by kernel_rfl
theorem try_bytes5 : Try.prog.bytesOf 5 = 1 := by kernel_rfl

section
variable {H : Type} {enc : TypeId × Value → H} {W : World} {base : Nat}
set_option maxRecDepth 100000 in
/-- A slice of bytes that came in. -/
theorem open8 {v : Value} {d : DataW H} {p : List MemPlace} (hj : DataW.Trod enc Try.prog W 0 (fun _ => true) true 22 v d p) (hv : Value.okWide Try.prog W .any base 22 v) :
    ∃ A n c l, v = .slice A n c ∧ Rd8 W A n l ∧ n ≤ c ∧ (c = 0 ∨ ∃ es sp, d = .slice es sp ∧ es.length + sp.length = c) := by
  obtain ⟨A, n, c, rfl⟩ := okWide_slice Try.underlying22 hv
  obtain ⟨fuel, hf⟩ := hj
  rcases open_ints Try.underlying22 Try.underlying5 try_cells5 hf with ⟨hcs, _⟩ | ⟨x, l, c', zs, hcs, _, hl, hm, hz, hx, hcell, hwz⟩
  · simp [Value.cells] at hcs
    obtain ⟨rfl, rfl, rfl⟩ := hcs
    exact ⟨none, 0, 0, [], rfl, Rd8.nil_, Nat.le_refl _, .inl rfl⟩
  · simp [Value.cells] at hcs
    obtain ⟨rfl, rfl, rfl⟩ := hcs
    have hz' : zs.length = c := by simpa using hz
    refine ⟨some x, n, c, (zs.take n).map (fun z => UInt8.ofNat z.toNat), rfl, ?_, hl, .inr ⟨_, _, (Prod.mk.inj hx).1, ?_⟩⟩
    · have hbc : bc ((zs.take n).map (fun z => UInt8.ofNat z.toNat)) = (zs.take n).map (Value.int .u8) := by
        simp only [bc, List.map_map]
        refine List.map_congr_left fun z hz => ?_
        have hw := hwz z (List.mem_of_mem_take hz)
        have hb := bounds_u8 hw
        simp only [Function.comp_apply, UInt8.toNat_ofNat']
        congr 1
        omega
      refine ⟨by rw [bc_length, List.length_map, List.length_take]; omega, fun hn => ⟨x, rfl, fun j u hu => ?_⟩⟩
      rw [hbc, List.getElem?_map, List.getElem?_take] at hu
      by_cases hjn : j < n
      · rw [if_pos hjn, List.getElem?_eq_getElem (by omega)] at hu
        rw [hcell j (by omega), List.getD_eq_getElem?_getD, List.getElem?_eq_getElem (by omega)]
        simpa using hu
      · rw [if_neg hjn] at hu; simp at hu
    · simp [lits, List.length_map, List.length_take, List.length_drop]; omega
end
end Go.Proofs.Ytkgdcglnkodgnaa
namespace Go.Proofs.Ytkgdcglnkodgnaa.treeGoes
open Go.ChangeShapes Go.WideShapes Go.ChangeAt Go.RowKit
open Go.ChangeMaps (open_string shut_string)
set_option maxRecDepth 100000 in
theorem lifted (os : Os) (started : os.Started) (H : Type) (enc : TypeId × Value → H) :
    ReturnsInHanded {} Try.checked os 18 .any (Rows.treeGoesSpec.pre6 enc Try.prog Try.f18 Rows.treeGoesRow.domain false) (Rows.treeGoesSpec.post enc Try.prog Try.f18 false true false false) := by
  refine returnsInHanded_of_change_sized (C := Try.checked) try_own started (by kernel_rfl) Try.func18
    (ChangeSpec.witness6 (enc := enc) (C := Try.checked) false ⟨#[], #[.slice none 0 0, .int .u8 0, .int .i64 0, .int .i64 0], []⟩ 8 (by kernel_rfl) (by kernel_rfl) (by kernel_rfl) (by kernel_rfl)) ?_
  intro W base args ds gs before hval0 hW _ hsz0 _
  have hval : ∀ (j : Nat) t v, Try.f18.params[j]? = some t → args[j]? = some v → Value.okWide Try.prog W .any base t v := hval0
  have hsz : (DataW.weightsEach Try.prog (Try.f18.params.toList ++ Rows.treeGoesSpec.plain.varTypes Try.prog) (ds ++ gs)).all (· ≤ reachBytes) = true := hsz0
  have hW' := hW
  obtain ⟨p, q, hA0, hV, rfl, hfz, hnd⟩ := hW
  have hA : DataW.TrodAll enc Try.prog W 0 (fun _ => true) true Try.f18.params.toList args.toList ds p := hA0
  rw [Try.params18] at hA hval hsz
  obtain ⟨v0, vs0, d0, ds0, p0, q0, hargs, rfl, rfl, h0, r0⟩ := trodAll_cons hA
  obtain ⟨v1, vs1, d1, ds1, p1, q1, rfl, rfl, rfl, h1, r1⟩ := trodAll_cons r0
  obtain ⟨v2, vs2, d2, ds2, p2, q2, rfl, rfl, rfl, h2, r2⟩ := trodAll_cons r1
  obtain ⟨v3, vs3, d3, ds3, p3, q3, rfl, rfl, rfl, h3, r3⟩ := trodAll_cons r2
  obtain ⟨rfl, rfl, rfl⟩ := trodAll_nil r3
  obtain rfl : args = #[v0, v1, v2, v3] := by cases args; simp_all
  obtain ⟨rfl, rfl⟩ := trodVars_none hV
  have k0 := h0
  have lt0 : ∀ x ∈ p0, x.block < W.heap.size := by obtain ⟨m, hm⟩ := k0; exact DataW.trod_lt m _ _ _ hm
  obtain ⟨A0, n0, c0, l0, hv0, r80, nc0, hd0⟩ := open8 h0 (hval 0 22 v0 rfl rfl)
  subst hv0
  have b0 : n0 ≤ 140737488355328 := by
    rcases hd0 with h0 | ⟨es, sp, hd, hl⟩
    · omega
    · have := sized_slice hsz (j := 0) (t := 22) (e := 5) rfl (by rw [← hd]; rfl) Try.underlying22
      rw [try_bytes5, hl] at this
      simp only [reachBytes] at this
      omega
  obtain ⟨a1, rfl, rfl, rfl, w1⟩ := open_int Try.underlying5 (hval 1 5 v1 rfl rfl) h1
  have bd1 := bounds_u8 w1
  obtain ⟨k1, rfl⟩ : ∃ k : UInt8, a1 = (k.toNat : Int) := ⟨UInt8.ofNat a1.toNat, by simp; omega⟩
  obtain ⟨a2, rfl, rfl, rfl, w2⟩ := open_int Try.underlying3 (hval 2 3 v2 rfl rfl) h2
  have bd2 := bounds_i64 w2
  obtain ⟨a3, rfl, rfl, rfl, w3⟩ := open_int Try.underlying3 (hval 3 3 v3 rfl rfl) h3
  have bd3 := bounds_i64 w3
  clear hA0 hval0 hsz0
  refine (callsIn_wide.1 (treeGoes18 A0 n0 c0 l0 k1 a2 a3 W r80 b0 nc0 bd2.1 bd2.2)).mono fun e W' ⟨he, bel⟩ => ?_
  subst he
  exact ⟨_, rfl, _, _, _, [], _, [], hW', trodAll_mk1 (shut_bool Try.underlying4 _), (trodAll_cons_mk (Below.trod try_laidOut (by kernel_rfl) (of_decide_eq_true (by kernel_rfl)) k0 bel lt0) (trodAll_cons_mk (shut_int Try.underlying5 w1) (trodAll_cons_mk (shut_int Try.underlying3 w2) (trodAll_cons_mk (shut_int Try.underlying3 w3) trodAll_mk0)))), rfl, bel.frame _, fun h => by cases h⟩

theorem over : Rows.treeGoesRow.holds Try.pinned (OpenSpec.ofChange Rows.treeGoesSpec) :=
  OpenClaim.holds_of_wide 18 Try.f18 rfl rfl rfl rfl rfl rfl rfl ⟨rfl, rfl, rfl, rfl, rfl⟩ rfl rfl rfl rfl rfl (by kernel_rfl) Try.func18 (by kernel_rfl)
    (of_decide_eq_true (by kernel_rfl)) (by unfold Func.isWrapper; first | (rw [if_pos (by decide +kernel)]; kernel_rfl) | (rw [if_neg (by decide +kernel)]; exact ⟨rfl, rfl⟩))
    (fun os started H enc _ => lifted os started H enc)
end Go.Proofs.Ytkgdcglnkodgnaa.treeGoes
namespace Go.Proofs.Ytkgdcglnkodgnaa
theorem treeGoes_holds : Rows.TreeGoesSaid := treeGoes.over
#print axioms treeGoes_holds
end Go.Proofs.Ytkgdcglnkodgnaa
