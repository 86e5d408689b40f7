/-
  nav: Ahead, Marks, Save walked. No condition but sizes.
-/
import Derived.Test.YtkgdcglnkodgnaaNav1
import Derived.Test.YtkgdcglnkodgnaaNavS
import Derived.Test.YtkgdcglnkodgnaaPut
import Derived.Lib.SlBytesConst
namespace Go.Proofs.Ytkgdcglnkodgnaa
open Go.RowKit
set_option maxRecDepth 100000 in
set_option maxHeartbeats 400000 in
theorem ahead49 (g : Nat) (F : Nat → Prop) (s : NS) (w : World) (h : NavAt w g F s) (hl : s.ah.length ≤ 100) :
    Calls Try.prog 49 #[.pointer (some ⟨g, 0, none⟩)] w fun e w' => ∃ A n c, e = .returned (.slice A n c) ∧ OwnP w' w.heap.size A n c s.ah ∧ Below w.heap.size w w' := by
  obtain ⟨A1, n1, c1, A2, n2, c2, A3, n3, c3, h⟩ := h
  have hln := Hd.mk h.o2.len
  have hn2 : n2 ≤ 100 := by rw [← hln.out]; exact hl
  obtain ⟨a0, a1, a2, a3, a4, a5, a6, af⟩ := nav_cells h.heap
  go_enter Try.func49, Try.ntmps49
  go_wp2_with (first
    | (go_at_call 96; refine (is96 g _ h.made).mono ?_; rintro e w' ⟨rfl, rfl⟩)
    | (go_at_call 99; refine (clone99 A2 n2 c2 s.ah w (Own.rd h.o2) (by omega) h.o2.some_).mono ?_; rintro e w1 ⟨B, cb, rfl, ho, hb⟩))
  go_ret
  exact ⟨_, _, _, rfl, ho, hb⟩
set_option maxRecDepth 100000 in
set_option maxHeartbeats 400000 in
theorem marks53 (g : Nat) (F : Nat → Prop) (s : NS) (w : World) (h : NavAt w g F s) (hl : s.mks.length ≤ 100) :
    Calls Try.prog 53 #[.pointer (some ⟨g, 0, none⟩)] w fun e w' => ∃ A n c, e = .returned (.slice A n c) ∧ OwnP w' w.heap.size A n c s.mks ∧ Below w.heap.size w w' := by
  obtain ⟨A1, n1, c1, A2, n2, c2, A3, n3, c3, h⟩ := h
  have hln := Hd.mk h.o3.len
  have hn3 : n3 ≤ 100 := by rw [← hln.out]; exact hl
  obtain ⟨a0, a1, a2, a3, a4, a5, a6, af⟩ := nav_cells h.heap
  go_enter Try.func53, Try.ntmps53
  go_wp2_with (first
    | (go_at_call 96; refine (is96 g _ h.made).mono ?_; rintro e w' ⟨rfl, rfl⟩)
    | (go_at_call 99; refine (clone99 A3 n3 c3 s.mks w (Own.rd h.o3) (by omega) h.o3.some_).mono ?_; rintro e w1 ⟨B, cb, rfl, ho, hb⟩))
  go_ret
  exact ⟨_, _, _, rfl, ho, hb⟩
theorem putU_len20 {p : Pl} (h : mayQ p = true) : (putPl p).length ≤ 20 := by
  have := (mayQ_iff p).1 h
  have h1 := putU_length p.1.toNat (by omega)
  have h2 := putU_length p.2.toNat (by omega)
  unfold putPl
  rw [List.length_append]; omega
theorem putPs_len {l : List Pl} (h : ∀ p ∈ l, mayQ p = true) : (putPs l).length ≤ 20 * l.length := by
  induction l with
  | nil => simp [putPs]
  | cons p r ih =>
    have h1 := putU_len20 (h p (by simp))
    have h2 := ih (fun q hq => h q (by simp [hq]))
    simp only [putPs, List.length_append, List.length_cons]; omega
theorem RdP.get {w : World} {A : Option Addr} {n : Nat} {l : List Pl} (h : RdP w A n l) {k : Nat} {p : Pl} (hk : l[k]? = some p) :
    ∃ ad, A = some ad ∧ w.cell? (ad.add (k * 2)) = some (.int .i64 p.1) ∧ w.cell? ((ad.add (k * 2)).add 1) = some (.int .i64 p.2) := by
  have hkl : k < l.length := (List.getElem?_eq_some_iff.1 hk).1
  have hn : l.length = n := by have := h.1; rw [pc_length] at this; omega
  have hcells : ∀ (l : List Pl) (k : Nat) (p : Pl), l[k]? = some p → (pc l)[k * 2]? = some (.int .i64 p.1) ∧ (pc l)[k * 2 + 1]? = some (.int .i64 p.2) := by
    intro l
    induction l with
    | nil => intro k p h; simp at h
    | cons q r ih =>
      intro k p h
      cases k with
      | zero => simp at h; subst h; exact ⟨rfl, rfl⟩
      | succ k => rw [show (k + 1) * 2 = k * 2 + 2 by omega]; exact ih k p h
  obtain ⟨h1, h2⟩ := hcells l k p hk
  obtain ⟨ad, hA, hc⟩ := h.2 (by omega)
  exact ⟨ad, hA, hc _ _ h1, by rw [add_add']; exact hc _ _ h2⟩
theorem RdP.len {w : World} {A : Option Addr} {n : Nat} {l : List Pl} (h : RdP w A n l) : l.length = n := by have := h.1; rw [pc_length] at this; omega
theorem take_snocP {l : List Pl} {k : Nat} {x : Pl} (h : l[k]? = some x) : l.take (k + 1) = l.take k ++ [x] := by
  obtain ⟨hk, e⟩ := List.getElem?_eq_some_iff.1 h
  rw [List.take_succ_eq_append_getElem hk, e]
set_option maxRecDepth 100000 in
set_option maxHeartbeats 1000000 in
theorem put97 (A : Option Addr) (n c : Nat) (l : List UInt8) (B : Option Addr) (m d : Nat) (ps : List Pl) (w : World) (h : Rd8 w A n l) (hp : RdP w B m ps) (hv : ∀ p ∈ ps, mayQ p = true) (hm : m ≤ 100) (hn : n ≤ 1000000) :
    Calls Try.prog 97 #[.slice A n c, .slice B m d] w (Ret8 w (l ++ putL ps)) := by
  have HL := Hd.mk h.len
  have HM := Hd.mk hp.len
  have hmix := try_mixed
  have hpl : ∀ k, (putPs (ps.take k)).length ≤ 2000 := fun k => by
    have h1 := putPs_len (l := ps.take k) (fun p hp => hv p (List.mem_of_mem_take hp))
    have h2 : (ps.take k).length ≤ 100 := by rw [List.length_take]; have := HM.out; omega
    omega
  have HP := Hd.mk hpl
  have hv' := Hd.mk hv
  have HU := Hd.mk (putU_length m (by omega))
  clear hpl hv
  have hwm : IntKind.u64.wrap (m : Int) = (m : Int) := by rw [IntKind.wrap_u64]; omega
  go_enter Try.func97, Try.ntmps97
  go_wp2_with (go_at_call 145; refine (putu145 A n c l m w h (by omega) (by omega)).mono ?_; rintro e w1 ⟨A1, n1, c1, rfl, ho, hb⟩)
  have hn1 : Hd (n1 ≤ 1000010) := ⟨by have h1 := ho.len; have := HU.out; have := HL.out; rw [List.length_append] at h1; omega⟩
  go_loopw [0, 14] (fun t i wr => ∃ (k : Nat) (A' : Option Addr) (n' c' : Nat), t = .slice A' n' c' ∧ i = .int .i64 (k : Int) ∧ k ≤ m ∧ Own8 wr w.heap.size A' n' c' (l ++ putU m ++ putPs (ps.take k)) ∧ Hd (Below w.heap.size w wr))
    (fun _ i _ => m - (intOf i).toNat)
  case atStart => exact ⟨0, A1, n1, c1, rfl, rfl, by omega, by simpa [putPs] using ho, ⟨hb⟩⟩
  case round =>
    obtain ⟨k, A', n', c', rfl, rfl, hk, ho', hb'⟩ := hrel
    have hn' : Hd (n' ≤ 1010000) := ⟨by have h1 := ho'.len; have := HU.out; have := HL.out; have := HP.out k; rw [List.length_append, List.length_append] at h1; omega⟩
    by_cases hlt : k < m
    · obtain ⟨p, hpk⟩ : ∃ p, ps[k]? = some p := ⟨ps[k]'(by have := HM.out; omega), List.getElem?_eq_getElem _⟩
      have hmq := (mayQ_iff p).1 (hv'.out p (List.mem_of_getElem? hpk))
      obtain ⟨ad, rfl, q0, q1⟩ := RdP.get (Rd.below hp hb'.out) hpk
      obtain ⟨a, ha⟩ : ∃ a : Nat, p.1 = (a : Int) := ⟨p.1.toNat, by omega⟩
      obtain ⟨b, hb2⟩ : ∃ b : Nat, p.2 = (b : Int) := ⟨p.2.toNat, by omega⟩
      have hts := Hd.mk (take_snocP hpk)
      have hpp : Hd (putPs [p] = putU a ++ putU b) := ⟨by simp [putPs, putPl, ha, hb2]⟩
      have hab : a < 1000 ∧ b < 2000 := by omega
      obtain ⟨hla, hlb⟩ := hab
      rw [ha] at q0
      rw [hb2] at q1
      have q2 : wr.cell? ⟨(ad.add (k * 2)).block, (ad.add (k * 2)).off + 1, none⟩ = some (.int .i64 (b : Int)) := q1
      have hwa : IntKind.u64.wrap (a : Int) = (a : Int) := by rw [IntKind.wrap_u64]; omega
      have hwb : IntKind.u64.wrap (b : Int) = (b : Int) := by rw [IntKind.wrap_u64]; omega
      have hki : (k : Int) < (m : Int) := by omega
      have hbox := Hd.mk (heap_alloc_new wr (.cells #[.int .i64 (a : Int), .int .i64 (b : Int)] 58))
      have hUA := Hd.mk (putU_length a (by omega))
      have hHB := Hd.mk (hb'.out.alloc hb'.out.size (.cells #[.int .i64 (a : Int), .int .i64 (b : Int)] 58))
      have hoA := Hd.mk (ho'.alloc (.cells #[.int .i64 (a : Int), .int .i64 (b : Int)] 58))
      have hsz := Hd.mk (show w.heap.size ≤ (wr.alloc (.cells #[.int .i64 (a : Int), .int .i64 (b : Int)] 58)).heap.size by have := hb'.out.size; simp; omega)
      clear ha hb2 hmq hpk
      go_wp2_with fail
      clear q0 q1 q2
      generalize wr.alloc (.cells #[.int .i64 (a : Int), .int .i64 (b : Int)] 58) = w2 at *
      refine region_zone 10 [false, false, false, false, false, false, false, false, false, false] (by kernel_rfl) (by kernel_rfl) hmix (fun w' => w'.heap[wr.heap.size]? = some (.cells #[.int .i64 (a : Int), .int .i64 (b : Int)] 58 (0, 0))) [] ?_ (fun hS => ?_)
      · exact hbox.out
      refine wpAnyZ_take0 (i := 0) (oi := ⟨_, _, _, _, _, _⟩) (v := ?_) rfl (by decide +kernel) (fun _ _ _ h => h) (Or.inl ⟨by rfl, ?_⟩) (fun _ => hS) ?_
      rotate_left
      focus (intro w _; go_simp; (try with_reducible rfl); done)
      simp only [Act.put, List.setIfInBounds_toArray, List.set_cons_zero, List.set_cons_succ]
      refine wpAnyZ_take0 (i := 1) (oi := ⟨_, _, _, _, _, _⟩) (v := ?_) rfl (by decide +kernel) (fun _ _ _ h => h) (Or.inl ⟨by rfl, ?_⟩) (fun _ => hS) ?_
      rotate_left
      focus (intro w _; go_simp; (try with_reducible rfl); done)
      simp only [Act.put, List.setIfInBounds_toArray, List.set_cons_zero, List.set_cons_succ]
      refine wpAnyZ_take (i := 2) (oi := ⟨_, _, _, _, _, _⟩) (v := ?_) rfl (by decide +kernel) (fun _ _ _ h => h) (Or.inl ⟨by rfl, ?_⟩) hS ?_
      rotate_left
      focus (intro w hSw; (try dsimp only at hSw); have z0 := cell_of_row _ _ 0 _ _ _ hSw; have z1 := cell_of_row _ _ 1 _ _ _ hSw; simp only [List.getElem?_toArray, List.getElem?_cons_zero, List.getElem?_cons_succ] at z0 z1; clear hSw; go_simp; (try with_reducible rfl); done)
      simp only [Act.put, List.setIfInBounds_toArray, List.set_cons_zero, List.set_cons_succ]
      refine wpAnyZ_take0 (i := 3) (oi := ⟨_, _, _, _, _, _⟩) (v := ?_) rfl (by decide +kernel) (fun _ _ _ h => h) (Or.inl ⟨by rfl, ?_⟩) (fun _ => hS) ?_
      rotate_left
      focus (intro w _; go_simp; (try with_reducible rfl); done)
      simp only [Act.put, List.setIfInBounds_toArray, List.set_cons_zero, List.set_cons_succ]
      refine wpAnyZ_take0 (i := 5) (oi := ⟨_, _, _, _, _, _⟩) (v := ?_) rfl (by decide +kernel) (fun _ _ _ h => h) (Or.inl ⟨by rfl, ?_⟩) (fun _ => hS) ?_
      rotate_left
      focus (intro w _; go_simp; (try with_reducible rfl); done)
      simp only [Act.put, List.setIfInBounds_toArray, List.set_cons_zero, List.set_cons_succ]
      refine wpAnyZ_take (i := 6) (oi := ⟨_, _, _, _, _, _⟩) (v := ?_) rfl (by decide +kernel) (fun _ _ _ h => h) (Or.inl ⟨by rfl, ?_⟩) hS ?_
      rotate_left
      focus (intro w hSw; (try dsimp only at hSw); have z0 := cell_of_row _ _ 0 _ _ _ hSw; have z1 := cell_of_row _ _ 1 _ _ _ hSw; simp only [List.getElem?_toArray, List.getElem?_cons_zero, List.getElem?_cons_succ] at z0 z1; clear hSw; go_simp; (try with_reducible rfl); done)
      simp only [Act.put, List.setIfInBounds_toArray, List.set_cons_zero, List.set_cons_succ]
      refine wpAnyZ_take0 (i := 7) (oi := ⟨_, _, _, _, _, _⟩) (v := ?_) rfl (by decide +kernel) (fun _ _ _ h => h) (Or.inl ⟨by rfl, ?_⟩) (fun _ => hS) ?_
      rotate_left
      focus (intro w _; go_simp; (try with_reducible rfl); done)
      simp only [Act.put, List.setIfInBounds_toArray, List.set_cons_zero, List.set_cons_succ]
      refine wpAnyZ_one (i := 4) rfl (by decide +kernel) (fun K hKK => ?_)
      go_simp
      refine (putu145 A' n' c' _ a _ hoA.out.rd.drew (by have := hn'.out; omega) (by omega)).mono ?_
      rintro e w3 ⟨A3, n3, c3, rfl, ho3, hb3⟩
      clear hS
      have hS := (hb3.block wr.heap.size (Array.getElem?_eq_some_iff.1 hbox.out).1).trans hbox.out
      refine hKK.out _ _ (fun _ => hS) ?_
      clear hKK
      refine wpAnyZ_one (i := 8) rfl (by decide +kernel) (fun K hKK => ?_)
      go_simp
      have hn3 : Hd (n3 ≤ 1010010) := ⟨by have h1 := ho3.len; have h2 := hoA.out.len; have := hn'.out; have := hUA.out; rw [List.length_append] at h1; omega⟩
      refine (putu145 A3 n3 c3 _ b _ ho3.rd (by have := hn3.out; omega) (by omega)).mono ?_
      rintro e w4 ⟨A4, n4, c4, rfl, ho4, hb4⟩
      clear hS
      have hS := (hb4.block wr.heap.size (Nat.lt_of_lt_of_le (Array.getElem?_eq_some_iff.1 hbox.out).1 hb3.size)).trans ((hb3.block wr.heap.size (Array.getElem?_eq_some_iff.1 hbox.out).1).trans hbox.out)
      refine hKK.out _ _ (fun _ => hS) ?_
      clear hKK
      refine wpAnyZ_take0 (i := 9) (oi := ⟨_, _, _, _, _, _⟩) (v := ?_) rfl (by decide +kernel) (fun _ _ _ h => h) (Or.inl ⟨by rfl, ?_⟩) (fun _ => hS) ?_
      rotate_left
      focus (intro w _; go_simp; (try with_reducible rfl); done)
      simp only [Act.put, List.setIfInBounds_toArray, List.set_cons_zero, List.set_cons_succ]
      refine wpAnyZ_done (by decide +kernel) ?_
      have hB4 := Hd.mk (hHB.out.trans (below_drewN' (k := 1) ((hb3.trans (hb4.mono hb3.size)).mono hsz.out)))
      have hO4 := Hd.mk (ho4.mono (b := w.heap.size) (by have h1 : w2.heap.size ≤ w3.heap.size := hb3.size; have h2 := hsz.out; omega))
      clear hS hb3 hb4 ho3 ho4
      go_wp2
      go_roundw
      case rel => exact ⟨k + 1, A4, n4, c4, rfl, by go_num, by omega, by rw [hts.out, putPs_append, hpp.out]; have := hO4.out; simp only [List.append_assoc] at this ⊢; exact this, hB4⟩
      case measure => simp [intOf]; omega
    · obtain rfl : k = m := by omega
      have hki : ¬ ((k : Int) < (k : Int)) := by omega
      go_wp2
      go_ret
      refine ⟨_, _, _, rfl, ?_, hb'.out⟩
      rw [List.take_of_length_le (by have := HM.out; omega)] at ho'
      rw [putL, HM.out, ← List.append_assoc]
      exact ho'
theorem Rd8.newM (w : World) (k : List UInt8) {cs : Array Value} (h : cs = (bc k).toArray) {m : Nat} (hm : m = k.length) (fr : Nat × Nat) : Rd8 (w.alloc (.cells cs 5 fr)) (some ⟨w.heap.size, 0, none⟩) m k := by
  subst h; subst hm
  refine ⟨by rw [bc_length]; omega, fun _ => ⟨_, rfl, fun j u hu => ?_⟩⟩
  rw [add_plain, cell_of_row _ _ _ _ _ _ (heap_alloc_new w _), Nat.zero_add]
  simpa using hu
theorem putL_len {l : List Pl} (h : ∀ p ∈ l, mayQ p = true) (hl : l.length ≤ 100) : (putL l).length ≤ 2010 := by
  have h1 := putPs_len h
  have h2 := putU_length l.length (by omega)
  rw [putL, List.length_append]; omega
set_option maxRecDepth 100000 in
set_option maxHeartbeats 1000000 in
theorem save44 (g : Nat) (F : Nat → Prop) (s : NS) (w : World) (h : NavAt w g F s) (hi : NInv s) :
    Calls Try.prog 44 #[.pointer (some ⟨g, 0, none⟩)] w (Ret8 w s.save) := by
  obtain ⟨A1, n1, c1, A2, n2, c2, A3, n3, c3, h⟩ := h
  obtain ⟨a0, a1, a2, a3, a4, a5, a6, af⟩ := nav_cells h.heap
  have hg := h.glt
  have hlong := hi.long
  have hmarks := hi.marks
  have hl1 := h.o1.len
  have hl2 := h.o2.len
  have hl3 := h.o3.len
  have hmix := try_mixed
  have hn1 : n1 ≤ 32 := by omega
  have hn2 : n2 ≤ 32 := by omega
  have hn3 : n3 ≤ 16 := by omega
  have hh := h.heap
  have e1 := Hd.mk hi.bh
  have e2 := Hd.mk hi.ah
  have e3 := Hd.mk hi.mks
  clear hlong hmarks hl1 hl2 hl3
  obtain ⟨hz, hhz, hn01⟩ : ∃ hz : Nat, (if s.has then (1 : Int) else 0) = (hz : Int) ∧ Hd (s.now1 = [s.now].take hz ∧ s.now1.length = hz ∧ hz ≤ 1) := by
    unfold NS.now1
    cases s.has
    · exact ⟨0, rfl, ⟨rfl, rfl, by omega⟩⟩
    · exact ⟨1, rfl, ⟨rfl, rfl, by omega⟩⟩
  have hz1 : (hz : Int) ≤ 1 := by have := hn01.out; omega
  have hz0 : (0 : Int) ≤ (hz : Int) := by omega
  have hz2 : hz ≤ 1 := by omega
  have e4 : Hd (∀ p ∈ s.now1, mayQ p = true) := ⟨by
    unfold NS.now1
    cases hh : s.has
    · simp
    · intro p hp; simp at hp; subst hp; exact hi.now hh⟩
  rw [hhz] at hh a1
  go_enter Try.func44, Try.ntmps44
  go_wp2_with (go_at_call 96; refine (is96 g _ h.made).mono ?_; rintro e w' ⟨rfl, rfl⟩)
  clear a0 a1 a2 a3 a4 a5 a6 af
  refine region_zone 11 [false, false, false, false, false, false, false, false, false, false, false] (by kernel_rfl) (by kernel_rfl) hmix (fun w' => w'.heap[g]? = some (.cells #[.int .i64 1, .int .i64 (hz : Int), .int .i64 s.now.1, .int .i64 s.now.2, .slice A1 n1 c1, .slice A2 n2 c2, .slice A3 n3 c3] 78 (0, 0))) [] ?_ (fun hS => ?_)
  · exact hh
  refine wpAnyZ_take0 (i := 0) (oi := ⟨_, _, _, _, _, _⟩) (v := ?_) rfl (by decide +kernel) (fun _ _ _ h => h) (Or.inl ⟨by rfl, ?_⟩) (fun _ => hS) ?_
  rotate_left
  focus (intro w _; go_simp; (try with_reducible rfl); done)
  simp only [Act.put, List.setIfInBounds_toArray, List.set_cons_zero, List.set_cons_succ]
  refine wpAnyZ_take0 (i := 1) (oi := ⟨_, _, _, _, _, _⟩) (v := ?_) rfl (by decide +kernel) (fun _ _ _ h => h) (Or.inl ⟨by rfl, ?_⟩) (fun _ => hS) ?_
  rotate_left
  focus (intro w _; go_simp; (try with_reducible rfl); done)
  simp only [Act.put, List.setIfInBounds_toArray, List.set_cons_zero, List.set_cons_succ]
  refine wpAnyZ_take0 (i := 2) (oi := ⟨_, _, _, _, _, _⟩) (v := ?_) rfl (by decide +kernel) (fun _ _ _ h => h) (Or.inl ⟨by rfl, ?_⟩) (fun _ => hS) ?_
  rotate_left
  focus (intro w _; go_simp; (try with_reducible rfl); done)
  simp only [Act.put, List.setIfInBounds_toArray, List.set_cons_zero, List.set_cons_succ]
  refine wpAnyZ_take (i := 3) (oi := ⟨_, _, _, _, _, _⟩) (v := ?_) rfl (by decide +kernel) (fun _ _ _ h => h) (Or.inl ⟨by rfl, ?_⟩) hS ?_
  rotate_left
  focus (intro w hSw; (try dsimp only at hSw); obtain ⟨z0, z1, z2, z3, z4, z5, z6, zf⟩ := nav_cells hSw; clear hSw; go_simp; (try with_reducible rfl); done)
  simp only [Act.put, List.setIfInBounds_toArray, List.set_cons_zero, List.set_cons_succ]
  refine wpAnyZ_take0 (i := 5) (oi := ⟨_, _, _, _, _, _⟩) (v := ?_) rfl (by decide +kernel) (fun _ _ _ h => h) (Or.inl ⟨by rfl, ?_⟩) (fun _ => hS) ?_
  rotate_left
  focus (intro w _; go_simp; (try with_reducible rfl); done)
  simp only [Act.put, List.setIfInBounds_toArray, List.set_cons_zero, List.set_cons_succ]
  refine wpAnyZ_take0 (i := 6) (oi := ⟨_, _, _, _, _, _⟩) (v := ?_) rfl (by decide +kernel) (fun _ _ _ h => h) (Or.inl ⟨by rfl, ?_⟩) (fun _ => hS) ?_
  rotate_left
  focus (intro w _; go_simp; (try with_reducible rfl); done)
  simp only [Act.put, List.setIfInBounds_toArray, List.set_cons_zero, List.set_cons_succ]
  refine wpAnyZ_take0 (i := 7) (oi := ⟨_, _, _, _, _, _⟩) (v := ?_) rfl (by decide +kernel) (fun _ _ _ h => h) (Or.inl ⟨by rfl, ?_⟩) (fun _ => hS) ?_
  rotate_left
  focus (intro w _; go_simp; (try with_reducible rfl); done)
  simp only [Act.put, List.setIfInBounds_toArray, List.set_cons_zero, List.set_cons_succ]
  refine wpAnyZ_take (i := 8) (oi := ⟨_, _, _, _, _, _⟩) (v := ?_) rfl (by decide +kernel) (fun _ _ _ h => h) (Or.inl ⟨by rfl, ?_⟩) hS ?_
  rotate_left
  focus (intro w hSw; (try dsimp only at hSw); obtain ⟨z0, z1, z2, z3, z4, z5, z6, zf⟩ := nav_cells hSw; clear hSw; go_simp; (try with_reducible rfl); done)
  simp only [Act.put, List.setIfInBounds_toArray, List.set_cons_zero, List.set_cons_succ]
  refine wpAnyZ_one (i := 4) rfl (by decide +kernel) (fun K hKK => ?_)
  go_simp
  clear hS
  have hS := ((h.drew.alloc (.cells #[.int .i64 s.now.1, .int .i64 s.now.2] 58)).heap.trans (by rw [hhz]))
  refine hKK.out _ _ (fun _ => hS) ?_
  clear hKK
  refine wpAnyZ_take0 (i := 9) (oi := ⟨_, _, _, _, _, _⟩) (v := ?_) rfl (by decide +kernel) (fun _ _ _ h => h) (Or.inl ⟨by rfl, ?_⟩) (fun _ => hS) ?_
  rotate_left
  focus (intro w _; go_simp; (try with_reducible rfl); done)
  simp only [Act.put, List.setIfInBounds_toArray, List.set_cons_zero, List.set_cons_succ]
  refine wpAnyZ_take0 (i := 10) (oi := ⟨_, _, _, _, _, _⟩) (v := ?_) rfl (by decide +kernel) (fun _ _ _ h => h) (Or.inl ⟨by rfl, ?_⟩) (fun _ => hS) ?_
  rotate_left
  focus (intro w _; go_simp; (try with_reducible rfl); done)
  simp only [Act.put, List.setIfInBounds_toArray, List.set_cons_zero, List.set_cons_succ]
  refine wpAnyZ_done (by decide +kernel) ?_
  have C1 := Hd.mk (h.drew.alloc (.cells #[.int .i64 s.now.1, .int .i64 s.now.2] 58))
  have hB1 := Hd.mk ((below_drew w).trans (below_alloc w.drew (.cells #[.int .i64 s.now.1, .int .i64 s.now.2] 58)))
  have hnow := Hd.mk (RdP.new w.drew [s.now] (cs := #[.int .i64 s.now.1, .int .i64 s.now.2]) rfl rfl)
  go_wp2_with fail
  have hh1 := Hd.mk hS
  have hsz := Hd.mk hB1.out.size
  clear hS h hh
  have hmag := Hd.mk (show (#[.int .u8 78, .int .u8 65, .int .u8 86, .int .u8 49] : Array Value) = (bc magicN).toArray from rfl)
  rw [show (w.alloc (.cells #[.int .i64 s.now.1, .int .i64 s.now.2] 58)).drew = w.drew.alloc (.cells #[.int .i64 s.now.1, .int .i64 s.now.2] 58) from rfl]
  rw [show w.drew.heap.size = w.heap.size from rfl] at hnow
  generalize w.drew.alloc (.cells #[.int .i64 s.now.1, .int .i64 s.now.2] 58) = x0 at *
  have L1 := Hd.mk (putL_len e1.out (by have := C1.out.o1.len; omega))
  have L2 := Hd.mk (putL_len e2.out (by have := C1.out.o2.len; omega))
  have L4 := Hd.mk (putL_len e4.out (by have := hn01.out.2; omega))
  refine region_zone 20 [false, false, false, false, false, false, false, false, false, false, false, false, false, false, false, false, false, false, false, false] (by kernel_rfl) (by kernel_rfl) hmix (fun w' => w'.heap[g]? = some (.cells #[.int .i64 1, .int .i64 (hz : Int), .int .i64 s.now.1, .int .i64 s.now.2, .slice A1 n1 c1, .slice A2 n2 c2, .slice A3 n3 c3] 78 (0, 0))) [] ?_ (fun hS => ?_)
  · exact hh1.out
  refine wpAnyZ_take0 (i := 2) (oi := ⟨_, _, _, _, _, _⟩) (v := ?_) rfl (by decide +kernel) (fun _ _ _ h => h) (Or.inl ⟨by rfl, ?_⟩) (fun _ => hS) ?_
  rotate_left
  focus (intro w _; go_simp; (try with_reducible rfl); done)
  simp only [Act.put, List.setIfInBounds_toArray, List.set_cons_zero, List.set_cons_succ]
  refine wpAnyZ_take0 (i := 3) (oi := ⟨_, _, _, _, _, _⟩) (v := ?_) rfl (by decide +kernel) (fun _ _ _ h => h) (Or.inl ⟨by rfl, ?_⟩) (fun _ => hS) ?_
  rotate_left
  focus (intro w _; go_simp; (try with_reducible rfl); done)
  simp only [Act.put, List.setIfInBounds_toArray, List.set_cons_zero, List.set_cons_succ]
  refine wpAnyZ_take0 (i := 4) (oi := ⟨_, _, _, _, _, _⟩) (v := ?_) rfl (by decide +kernel) (fun _ _ _ h => h) (Or.inl ⟨by rfl, ?_⟩) (fun _ => hS) ?_
  rotate_left
  focus (intro w _; go_simp; (try with_reducible rfl); done)
  simp only [Act.put, List.setIfInBounds_toArray, List.set_cons_zero, List.set_cons_succ]
  refine wpAnyZ_take (i := 5) (oi := ⟨_, _, _, _, _, _⟩) (v := ?_) rfl (by decide +kernel) (fun _ _ _ h => h) (Or.inl ⟨by rfl, ?_⟩) hS ?_
  rotate_left
  focus (intro w hSw; (try dsimp only at hSw); obtain ⟨z0, z1, z2, z3, z4, z5, z6, zf⟩ := nav_cells hSw; clear hSw; go_simp; (try with_reducible rfl); done)
  simp only [Act.put, List.setIfInBounds_toArray, List.set_cons_zero, List.set_cons_succ]
  refine wpAnyZ_take0 (i := 7) (oi := ⟨_, _, _, _, _, _⟩) (v := ?_) rfl (by decide +kernel) (fun _ _ _ h => h) (Or.inl ⟨by rfl, ?_⟩) (fun _ => hS) ?_
  rotate_left
  focus (intro w _; go_simp; (try with_reducible rfl); done)
  simp only [Act.put, List.setIfInBounds_toArray, List.set_cons_zero, List.set_cons_succ]
  refine wpAnyZ_take0 (i := 9) (oi := ⟨_, _, _, _, _, _⟩) (v := ?_) rfl (by decide +kernel) (fun _ _ _ h => h) (Or.inl ⟨by rfl, ?_⟩) (fun _ => hS) ?_
  rotate_left
  focus (intro w _; go_simp; (try with_reducible rfl); done)
  simp only [Act.put, List.setIfInBounds_toArray, List.set_cons_zero, List.set_cons_succ]
  refine wpAnyZ_take0 (i := 10) (oi := ⟨_, _, _, _, _, _⟩) (v := ?_) rfl (by decide +kernel) (fun _ _ _ h => h) (Or.inl ⟨by rfl, ?_⟩) (fun _ => hS) ?_
  rotate_left
  focus (intro w _; go_simp; (try with_reducible rfl); done)
  simp only [Act.put, List.setIfInBounds_toArray, List.set_cons_zero, List.set_cons_succ]
  refine wpAnyZ_take0 (i := 11) (oi := ⟨_, _, _, _, _, _⟩) (v := ?_) rfl (by decide +kernel) (fun _ _ _ h => h) (Or.inl ⟨by rfl, ?_⟩) (fun _ => hS) ?_
  rotate_left
  focus (intro w _; go_simp; (try with_reducible rfl); done)
  simp only [Act.put, List.setIfInBounds_toArray, List.set_cons_zero, List.set_cons_succ]
  refine wpAnyZ_take (i := 12) (oi := ⟨_, _, _, _, _, _⟩) (v := ?_) rfl (by decide +kernel) (fun _ _ _ h => h) (Or.inl ⟨by rfl, ?_⟩) hS ?_
  rotate_left
  focus (intro w hSw; (try dsimp only at hSw); obtain ⟨z0, z1, z2, z3, z4, z5, z6, zf⟩ := nav_cells hSw; clear hSw; go_simp; (try with_reducible rfl); done)
  simp only [Act.put, List.setIfInBounds_toArray, List.set_cons_zero, List.set_cons_succ]
  refine wpAnyZ_take0 (i := 14) (oi := ⟨_, _, _, _, _, _⟩) (v := ?_) rfl (by decide +kernel) (fun _ _ _ h => h) (Or.inl ⟨by rfl, ?_⟩) (fun _ => hS) ?_
  rotate_left
  focus (intro w _; go_simp; (try with_reducible rfl); done)
  simp only [Act.put, List.setIfInBounds_toArray, List.set_cons_zero, List.set_cons_succ]
  refine wpAnyZ_take0 (i := 15) (oi := ⟨_, _, _, _, _, _⟩) (v := ?_) rfl (by decide +kernel) (fun _ _ _ h => h) (Or.inl ⟨by rfl, ?_⟩) (fun _ => hS) ?_
  rotate_left
  focus (intro w _; go_simp; (try with_reducible rfl); done)
  simp only [Act.put, List.setIfInBounds_toArray, List.set_cons_zero, List.set_cons_succ]
  refine wpAnyZ_take0 (i := 16) (oi := ⟨_, _, _, _, _, _⟩) (v := ?_) rfl (by decide +kernel) (fun _ _ _ h => h) (Or.inl ⟨by rfl, ?_⟩) (fun _ => hS) ?_
  rotate_left
  focus (intro w _; go_simp; (try with_reducible rfl); done)
  simp only [Act.put, List.setIfInBounds_toArray, List.set_cons_zero, List.set_cons_succ]
  refine wpAnyZ_take (i := 17) (oi := ⟨_, _, _, _, _, _⟩) (v := ?_) rfl (by decide +kernel) (fun _ _ _ h => h) (Or.inl ⟨by rfl, ?_⟩) hS ?_
  rotate_left
  focus (intro w hSw; (try dsimp only at hSw); obtain ⟨z0, z1, z2, z3, z4, z5, z6, zf⟩ := nav_cells hSw; clear hSw; go_simp; (try with_reducible rfl); done)
  simp only [Act.put, List.setIfInBounds_toArray, List.set_cons_zero, List.set_cons_succ]
  refine wpAnyZ_one (i := 0) rfl (by decide +kernel) (fun K hKK => ?_)
  go_simp
  clear hS
  have hS := ((below_alloc x0.drew (.cells #[.int .u8 78, .int .u8 65, .int .u8 86, .int .u8 49] 5)).block g (by have := C1.out.glt; exact this)).trans hh1.out
  refine hKK.out _ _ (fun _ => hS) ?_
  clear hKK
  have kc : (convert 22 22 (.slice (some ⟨x0.heap.size, 0, none⟩) 4 4)).run Try.prog ((x0.alloc (.cells #[.int .u8 78, .int .u8 65, .int .u8 86, .int .u8 49] 5)).drew) = .ok (.slice (some ⟨x0.heap.size, 0, none⟩) 4 4) ((x0.alloc (.cells #[.int .u8 78, .int .u8 65, .int .u8 86, .int .u8 49] 5 (4, 5))).drew) :=
    Lib.run_convert_bytes_const x0.drew 22 5 #[.int .u8 78, .int .u8 65, .int .u8 86, .int .u8 49] 4 4 Try.underlying22 Try.underlying5
  refine wpAnyZ_one (i := 1) rfl (by decide +kernel) (fun K hKK => ?_)
  go_simp
  clear kc
  have hx1 := Hd.mk ((below_drew x0).trans (below_alloc x0.drew (.cells #[.int .u8 78, .int .u8 65, .int .u8 86, .int .u8 49] 5 (4, 5))))
  clear hS
  have hS := (hx1.out.block g C1.out.glt).trans hh1.out
  refine hKK.out _ _ (fun _ => hS) ?_
  clear hKK
  have hr0 := Hd.mk (Rd8.newM x0.drew magicN (m := 4) hmag.out rfl (4, 5))
  have hrb := Hd.mk (Rd.below (Own.rd C1.out.o1) hx1.out)
  refine wpAnyZ_one (i := 6) rfl (by decide +kernel) (fun K hKK => ?_)
  go_simp
  refine (put97 _ 4 4 magicN A1 n1 c1 s.bh _ hr0.out hrb.out e1.out (by omega) (by omega)).mono ?_
  rintro e w2 ⟨B2, m2, d2, rfl, o2, b2⟩
  have hx2 := Hd.mk (hx1.out.trans (b2.mono hx1.out.size))
  clear hS
  have hS := (hx2.out.block g C1.out.glt).trans hh1.out
  refine hKK.out _ _ (fun _ => hS) ?_
  clear hKK
  have hm2 : Hd (m2 ≤ 2014) := ⟨by have h1 := o2.len; have := L1.out; rw [List.length_append] at h1; simp [magicN] at h1; omega⟩
  have hrn := Hd.mk (Rd.below hnow.out hx2.out)
  have hno := Hd.mk o2.rd
  clear o2 b2
  simp only [List.setIfInBounds_toArray, List.set_cons_zero, List.set_cons_succ]
  refine wpAnyZ_one (i := 8) rfl (by decide +kernel) (fun K hKK => ?_)
  go_simp
  have hrn1 : RdP w2 (some ⟨w.heap.size, 0, none⟩) hz s.now1 := by
    have := Rd.take_ w2 hrn.out (q := hz) hz2
    rw [pc_take, ← hn01.out.1] at this
    exact this
  refine (put97 B2 m2 d2 _ _ hz 1 s.now1 w2 hno.out hrn1 e4.out (by omega) (by have := hm2.out; omega)).mono ?_
  rintro e w3 ⟨B3, m3, d3, rfl, o3, b3⟩
  clear hrn hrn1 hrb hr0 hx1
  have hx3 := Hd.mk (hx2.out.trans (b3.mono hx2.out.size))
  clear hS
  have hS := (hx3.out.block g C1.out.glt).trans hh1.out
  refine hKK.out _ _ (fun _ => hS) ?_
  clear hKK
  have hm3 : Hd (m3 ≤ 4024) := ⟨by have h1 := o3.len; have h2 := hno.out.len; have := hm2.out; have := L4.out; rw [List.length_append] at h1; omega⟩
  have hra := Hd.mk (Rd.below (Own.rd C1.out.o2) hx3.out)
  have hno3 := Hd.mk o3.rd
  clear o3 b3 hno hx2
  simp only [List.setIfInBounds_toArray, List.set_cons_zero, List.set_cons_succ]
  refine wpAnyZ_one (i := 13) rfl (by decide +kernel) (fun K hKK => ?_)
  go_simp
  refine (put97 B3 m3 d3 _ A2 n2 c2 s.ah w3 hno3.out hra.out e2.out (by omega) (by have := hm3.out; omega)).mono ?_
  rintro e w4 ⟨B4, m4, d4, rfl, o4, b4⟩
  have hx4 := Hd.mk (hx3.out.trans (b4.mono hx3.out.size))
  clear hS
  have hS := (hx4.out.block g C1.out.glt).trans hh1.out
  refine hKK.out _ _ (fun _ => hS) ?_
  clear hKK
  have hm4 : Hd (m4 ≤ 6034) := ⟨by have h1 := o4.len; have h2 := hno3.out.len; have := hm3.out; have := L2.out; rw [List.length_append] at h1; omega⟩
  have hrm := Hd.mk (Rd.below (Own.rd C1.out.o3) hx4.out)
  have hno4 := Hd.mk o4.rd
  clear o4 b4 hno3 hx3 hra
  simp only [List.setIfInBounds_toArray, List.set_cons_zero, List.set_cons_succ]
  refine wpAnyZ_one (i := 18) rfl (by decide +kernel) (fun K hKK => ?_)
  go_simp
  refine (put97 B4 m4 d4 _ A3 n3 c3 s.mks w4 hno4.out hrm.out e3.out (by omega) (by have := hm4.out; omega)).mono ?_
  rintro e w5 ⟨B5, m5, d5, rfl, o5, b5⟩
  have hx5 := Hd.mk (hx4.out.trans (b5.mono hx4.out.size))
  clear hS
  have hS := (hx5.out.block g C1.out.glt).trans hh1.out
  refine hKK.out _ _ (fun _ => hS) ?_
  clear hKK
  have hfin := Hd.mk (hB1.out.trans (hx5.out.mono hsz.out))
  have ho5 := Hd.mk (o5.mono (b := w.heap.size) (by have h1 := hx4.out.size; have h2 := hsz.out; omega))
  clear o5 b5 hno4 hx4 hrm hx5
  simp only [List.setIfInBounds_toArray, List.set_cons_zero, List.set_cons_succ]
  refine wpAnyZ_take0 (i := 19) (oi := ⟨_, _, _, _, _, _⟩) (v := ?_) rfl (by decide +kernel) (fun _ _ _ h => h) (Or.inl ⟨by rfl, ?_⟩) (fun _ => hS) ?_
  rotate_left
  focus (intro w _; go_simp; (try with_reducible rfl); done)
  simp only [Act.put, List.setIfInBounds_toArray, List.set_cons_zero, List.set_cons_succ]
  refine wpAnyZ_done (by decide +kernel) ?_
  clear hS
  go_wp2
  go_ret
  exact ⟨B5, m5, d5, rfl, ho5.out, hfin.out⟩
end Go.Proofs.Ytkgdcglnkodgnaa

