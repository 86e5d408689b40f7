/-
  tree.Build. No condition but sizes.
-/
import Derived.Test.YtkgdcglnkodgnaaLw
import Derived.Test.YtkgdcglnkodgnaaRk
namespace Go.Proofs.Ytkgdcglnkodgnaa
open Go.RowKit
/-- What a build answers. -/
def RetB (w : World) (r : List UInt8 × Int × Int × Nat) (e : Ending) (w' : World) : Prop :=
  ∃ A n c, e = .returned (.tuple #[.slice A n c, .int .i64 r.2.1, .int .i64 r.2.2.1, .int .i64 (r.2.2.2 : Int)]) ∧ Own8 w' w.heap.size A n c r.1 ∧ Below w.heap.size w w'
theorem RetB.err (w w' : World) (x : Nat) (hb : Below w.heap.size w w') : RetB w ([], 0, 0, x) (.returned (.tuple #[.slice none 0 0, .int .i64 0, .int .i64 0, .int .i64 (x : Int)])) w' := ⟨_, _, _, rfl, Own8.nil_ _ _ _, hb⟩
theorem results_tmp4 {fn : Func} {t u v x : Tmp} (h : fn.results = #[.tmp t, .tmp u, .tmp v, .tmp x]) (tmps : Array Value) (P : Program) (w : World) :
    (results fn tmps).run P w = .ok (.tuple #[tmps.getD t undef, tmps.getD u undef, tmps.getD v undef, tmps.getD x undef]) w := by
  simp [results, h]
def prevK (l : List Kp) (i : Nat) : Option ByteArray := if i = 0 then none else (l[i - 1]?).map (·.1)
theorem badK_step {l : List Kp} {i : Nat} {p : Kp} (hp : l[i]? = some p) :
    badK (prevK l i) (l.drop i) = if 64 < p.1.size ∨ notAhead (prevK l i) p.1 = true then 200 else if p.2 < 0 ∨ 2147483647 < p.2 then 201 else badK (prevK l (i + 1)) (l.drop (i + 1)) := by
  have hd : l.drop i = p :: l.drop (i + 1) := by
    obtain ⟨hk, e⟩ := List.getElem?_eq_some_iff.1 hp
    rw [← e]; exact List.drop_eq_getElem_cons hk
  rw [hd, badK]
  have : prevK l (i + 1) = some p.1 := by simp [prevK, hp]
  rw [this]
theorem layK_len {kind n : UInt8} : ∀ {next : Int} {cs : List (List Kp)}, (layK kind n next cs).2.2 = 0 → (∀ c ∈ cs, 1 + (pairsB c).length ≤ 246) →
    (layK kind n next cs).2.1.length = cs.length ∧ (layK kind n next cs).1.length = 256 * cs.length ∧ (cs ≠ [] → 0 ≤ next ∧ next + cs.length ≤ 16384)
  | next, [], _, _ => by simp [layK]
  | next, c :: r, h, hr => by
    by_cases hb : next < 0 ∨ 16384 ≤ next
    · rw [layK_bad hb] at h; cases h
    · rw [layK_ok hb] at h ⊢
      obtain ⟨h1, h2, h3⟩ := layK_len (kind := kind) (n := n) (next := next + 1) (cs := r) h (fun c hc => hr c (by simp [hc]))
      have hp : (mkPage kind next.toNat (n :: pairsB c)).length = 256 := mkPage_length _ _ _ (by have := hr c (by simp); simp only [List.length_cons]; omega)
      refine ⟨by simp [h1], by simp only [List.length_append, List.length_cons, hp, h2]; omega, fun _ => ?_⟩
      simp only [List.length_cons]
      by_cases hr0 : r = []
      · subst hr0; simp only [List.length_nil]; omega
      · have := h3 hr0; omega
theorem layK_pairs {kind n : UInt8} : ∀ {next : Int} {cs : List (List Kp)}, (∀ c ∈ cs, c ≠ [] ∧ ∀ p ∈ c, OkP p) → ∀ q ∈ (layK kind n next cs).2.1, OkP q
  | next, [], _, q, hq => by simp [layK] at hq
  | next, c :: r, h, q, hq => by
    by_cases hb : next < 0 ∨ 16384 ≤ next
    · rw [layK_bad hb] at hq; cases hq
    · rw [layK_ok hb] at hq
      rcases List.mem_cons.1 hq with rfl | hq
      · obtain ⟨h1, h2⟩ := h c (by simp)
        cases c with
        | nil => exact absurd rfl h1
        | cons p c => exact ⟨(h2 p (by simp)).1, by simp only; omega, by simp only; omega⟩
      · exact layK_pairs (fun c hc => h c (by simp [hc])) q hq
theorem chunks_ok {l : List Kp} (h : ∀ p ∈ l, OkP p) (hl : l ≠ []) : ∀ c ∈ chunks l, c ≠ [] ∧ ∀ p ∈ c, OkP p := fun c hc =>
  ⟨chunkK_ne 1 [] l (.inr hl) c hc, fun p hp => h p (by
    have e := chunkK_flat 1 [] l
    rw [List.nil_append] at e
    rw [← e]
    exact List.mem_flatten.2 ⟨c, hc, hp⟩)⟩
theorem chunks_room {l : List Kp} (h : ∀ p ∈ l, OkP p) : ∀ c ∈ chunks l, 1 + (pairsB c).length ≤ 246 := chunkK_room 1 [] l (by simp [pairsB]) (by omega) h
theorem chunks_few {l : List Kp} (h : ∀ p ∈ l, OkP p) (hl : l ≠ []) : 3 * (chunks l).length ≤ l.length + 2 := by
  have := chunkK_few 1 [] l (by simp [pairsB]) (by simp) h (.inr hl)
  simpa [chunks] using this
theorem chunks_pos (l : List Kp) : 0 < (chunks l).length := chunkK_pos 1 [] l
section
variable {kind : UInt8} {f level : Nat} {next : Int} {l : List Kp} {acc : List UInt8}
theorem upK_err (h : (layK kind (UInt8.ofNat level) next (chunks l)).2.2 ≠ 0) : upK kind (f + 1) next level l acc = ([], 0, (layK kind (UInt8.ofNat level) next (chunks l)).2.2) := by
  rw [upK, if_pos h]
theorem upK_end (h : (layK kind (UInt8.ofNat level) next (chunks l)).2.2 = 0) (h2 : (chunks l).length < 2) : upK kind (f + 1) next level l acc = (acc ++ (layK kind (UInt8.ofNat level) next (chunks l)).1, next + (chunks l).length, 0) := by
  rw [upK, if_neg (by simpa using h), if_pos h2]
theorem upK_step (h : (layK kind (UInt8.ofNat level) next (chunks l)).2.2 = 0) (h2 : ¬ (chunks l).length < 2) :
    upK kind (f + 1) next level l acc = upK kind f (next + (chunks l).length) (level + 1) (layK kind (UInt8.ofNat level) next (chunks l)).2.1 (acc ++ (layK kind (UInt8.ofNat level) next (chunks l)).1) := by
  rw [upK, if_neg (by simpa using h), if_neg h2]
end
theorem Own8.up {w : World} {b n c : Nat} {A : Option Addr} {l : List UInt8} (h : Own8 w 0 A n c l) (hb : ∀ k, ownBlk A c = some k → b ≤ k) : Own8 w b A n c l := by
  refine ⟨h.1, h.2.1, h.2.2.1, ?_⟩
  rcases h.2.2.2 with h0 | ⟨g, off, cur, h1, _, h3⟩
  · exact .inl h0
  · by_cases hc : c = 0
    · exact .inl hc
    · exact .inr ⟨g, off, cur, h1, hb g (by simp [ownBlk, hc, h1]), h3⟩
theorem byte_next (level : Nat) : IntKind.u8.wrap (((UInt8.ofNat level).toNat : Int) + 1) = ((UInt8.ofNat (level + 1)).toNat : Int) := by
  rw [IntKind.wrap_u8, UInt8.toNat_ofNat', UInt8.toNat_ofNat']
  omega
set_option maxRecDepth 100000 in
set_option maxHeartbeats 4000000 in
theorem build61 (kind : UInt8) (first : Int) (A : Option Addr) (n c : Nat) (l : List Kp) (w : World) (h : RdK w A n l) (hA : 0 < n → ∀ ad, A = some ad → ad.block < w.heap.size) (hn : n ≤ 5864062014805) (hlo : -9223372036854775808 ≤ first) (hhi : first ≤ 9223372036854775807)
    (hsz : ∀ p ∈ l, p.1.size ≤ 9223372036854775807) :
    Calls Try.prog 61 #[.int .u8 (kind.toNat : Int), .int .i64 first, .slice A n c] w (RetB w (buildK kind first l)) := by
  have hmix := try_mixed
  have HL := Hd.mk h.len
  have HR := Hd.mk h
  have HA := Hd.mk hA
  have HS := Hd.mk hsz
  clear h hA hsz
  go_enter Try.func61, Try.ntmps61
  by_cases hlong : 20000 < l.length
  · have hres : Hd (buildK kind first l = ([], 0, 0, 2)) := ⟨if_pos hlong⟩
    have e1 : (n : Int) > 20000 := by have := HL.out; omega
    go_wp2_with fail
    ((try simp only [Exit.inBlock, Exit.then]); refine bodyPost_ret (results_tmp4 rfl _ _ _) rfl ?_)
    rw [hres.out]
    exact RetB.err w w 2 (Below.refl _ _)
  have hn2 : n ≤ 20000 := by have := HL.out; omega
  have hres : Hd (buildK kind first l = if badK none l ≠ 0 then ([], 0, 0, badK none l)
      else if (upK kind (l.length + 1) first 0 l []).2.2 ≠ 0 then ([], 0, 0, (upK kind (l.length + 1) first 0 l []).2.2)
      else ((upK kind (l.length + 1) first 0 l []).1, (upK kind (l.length + 1) first 0 l []).2.1 - 1, (upK kind (l.length + 1) first 0 l []).2.1 - first, 0)) := ⟨by unfold buildK; rw [if_neg hlong]⟩
  clear hlong
  have e1 : ¬ (n : Int) > 20000 := by omega
  go_wp2_with fail
  go_loopw [21, 10, 11, 26, 44] (fun iv _ _ _ _ wr => ∃ i : Nat, iv = .int .i64 (i : Int) ∧ i ≤ n ∧ Hd (Below w.heap.size w wr) ∧ Hd (badK (prevK l i) (l.drop i) = badK none l))
    (fun iv _ _ _ _ _ => n - (intOf iv).toNat)
  case atStart => exact ⟨0, rfl, by omega, ⟨Below.refl _ _⟩, ⟨by simp [prevK]⟩⟩
  case round =>
    obtain ⟨i, rfl, hi, hb, hbk⟩ := hrel
    have HRr := Hd.mk (show RdK wr A n l from Rd.below HR.out hb.out)
    have HBr := Hd.mk hb.out
    by_cases hlt : i < n
    · obtain ⟨p, hp⟩ : ∃ p, Hd (l[i]? = some p) := ⟨l[i]'(by have := HL.out; omega), ⟨List.getElem?_eq_getElem _⟩⟩
      have hst := Hd.mk (badK_step hp.out)
      rw [hbk.out] at hst
      obtain ⟨ad, rfl, q0, q1⟩ := RdK.get HRr.out hp.out
      have hlti : (i : Int) < (n : Int) := by omega
      have hi00 : (0 : Int) ≤ (i : Int) := by omega
      have hbA := Hd.mk (HBr.out.trans ((show Below wr.heap.size wr (wr.alloc (.cells #[.string p.1, .int .i64 p.2] 113)) from (Below.refl _ _).alloc (Nat.le_refl _) _).mono HBr.out.size))
      have GP := Hd.mk (heap_alloc_new wr (.cells #[.string p.1, .int .i64 p.2] 113))
      by_cases hk1 : 64 < p.1.size
      · have hr1 : Hd (buildK kind first l = ([], 0, 0, 200)) := ⟨by rw [hres.out, hst.out, if_pos (Or.inl hk1)]; simp⟩
        have e2 : (p.1.size : Int) > 64 := by omega
        clear hst hres hbk
        go_wp2_with fail
        ((try simp only [Exit.inBlock, Exit.then]); refine bodyPost_ret (results_tmp4 rfl _ _ _) rfl ?_)
        rw [hr1.out]
        exact RetB.err _ _ _ hbA.out
      · have e2 : ¬ (p.1.size : Int) > 64 := by omega
        have hba : Below wr.heap.size wr (wr.alloc (.cells #[.string p.1, .int .i64 p.2] 113)) := (Below.refl _ _).alloc (Nat.le_refl _) _
        have hprev : i = 0 ∧ prevK l i = none ∨ ∃ q, l[i - 1]? = some q ∧ prevK l i = some q.1 ∧ 0 < i := by
          by_cases h0 : i = 0
          · left; exact ⟨h0, by simp [prevK, h0]⟩
          · right
            refine ⟨l[i - 1]'(by have := HL.out; omega), List.getElem?_eq_getElem _, ?_, by omega⟩
            simp [prevK, h0, List.getElem?_eq_getElem (show i - 1 < l.length by have := HL.out; omega)]
        have hst2 : Hd (notAhead (prevK l i) p.1 = true → badK none l = 200) := ⟨fun hx => by rw [hst.out, if_pos (Or.inr hx)]⟩
        have hst3 : Hd (¬ notAhead (prevK l i) p.1 = true → badK none l = if p.2 < 0 ∨ 2147483647 < p.2 then 201 else badK (prevK l (i + 1)) (l.drop (i + 1))) := ⟨fun hx => by rw [hst.out, if_neg (fun h => h.elim hk1 hx)]⟩
        clear hst hbk hk1
        obtain ⟨b2, hb2⟩ : ∃ b2, Hd (notAhead (prevK l i) p.1 = b2) := ⟨_, ⟨rfl⟩⟩
        rw [hb2.out] at hst2 hst3
        -- the guard's ways
        have hways : Hd ((i = 0 ∧ b2 = false) ∨ ∃ q, l[i - 1]? = some q ∧ leK p.1 q.1 = b2 ∧ 0 < i) := ⟨by
          rcases hprev with ⟨h0, h1⟩ | ⟨q, h1, h2, h3⟩
          · left; refine ⟨h0, ?_⟩; rw [← hb2.out, h1]; rfl
          · right; refine ⟨q, h1, ?_, h3⟩; rw [← hb2.out, h2]; rfl⟩
        clear hprev hb2
        cases b2
        · have hst4 : Hd (badK none l = if p.2 < 0 ∨ 2147483647 < p.2 then 201 else badK (prevK l (i + 1)) (l.drop (i + 1))) := ⟨hst3.out (by simp)⟩
          clear hst2 hst3
          have hN : (p.2 < 0 ∨ 2147483647 < p.2) ∨ ¬ (p.2 < 0 ∨ 2147483647 < p.2) := Classical.em _
          rcases hways.out with ⟨h0, -⟩ | ⟨q, hq, hle, h0⟩
          · subst h0
            clear hways
            have q0' : wr.cell? ad = some (.string p.1) := by simpa [Addr.add] using q0
            have q1' : wr.cell? ⟨ad.block, ad.off + 1, none⟩ = some (.int .i64 p.2) := by simpa [Addr.add] using q1
            have c1 : decide ((((0 : Nat) : Int)) > 0) = false := by simp
            go_wp2_with fail
            refine region_zone 14 [false, false, false, false, false, false, false, false, false, false, false, false, false, false] (by kernel_rfl) (by kernel_rfl) hmix (fun w' => w'.heap[wr.heap.size]? = some (.cells #[.string p.1, .int .i64 p.2] 113 (0, 0))) [] ?_ (fun hS => ?_)
            · exact GP.out
            refine wpAnyZ_take0 (i := 0) (oi := ⟨_, _, _, _, _, _⟩) (v := ?_) rfl (by decide +kernel) (fun _ _ _ h => h) (Or.inl ⟨by rfl, ?_⟩) (fun _ => hS) ?_
            rotate_left
            focus (intro w _; go_simp; (try with_reducible rfl); done)
            simp only [Act.put, List.setIfInBounds_toArray, List.set_cons_zero, List.set_cons_succ]
            refine wpAnyZ_take0 (i := 1) (oi := ⟨_, _, _, _, _, _⟩) (v := ?_) rfl (by decide +kernel) (fun _ _ _ h => h) (Or.inl ⟨by rfl, ?_⟩) (fun _ => hS) ?_
            rotate_left
            focus (intro w _; go_simp; (try with_reducible rfl); done)
            simp only [Act.put, List.setIfInBounds_toArray, List.set_cons_zero, List.set_cons_succ]
            refine wpAnyZ_take0 (i := 2) (oi := ⟨_, _, _, _, _, _⟩) (v := ?_) rfl (by decide +kernel) (fun _ _ _ h => h) (Or.inl ⟨by rfl, ?_⟩) (fun _ => hS) ?_
            rotate_left
            focus (intro w _; go_simp; (try with_reducible rfl); done)
            simp only [Act.put, List.setIfInBounds_toArray, List.set_cons_zero, List.set_cons_succ]
            first
              | (refine wpAnyZ_take0 (i := 3) (oi := ⟨_, _, _, _, _, _⟩) (v := undef) rfl (by decide +kernel) (fun _ _ _ h => h) (Or.inr ⟨by rfl, rfl⟩) (fun _ => hS) ?_)
              | (refine wpAnyZ_take0 (i := 3) (oi := ⟨_, _, _, _, _, _⟩) (v := ?_) rfl (by decide +kernel) (fun _ _ _ h => h) (Or.inl ⟨by rfl, ?_⟩) (fun _ => hS) ?_; rotate_left; focus (intro w hSw; go_simp; (try with_reducible rfl); done))
            simp only [Act.put, List.setIfInBounds_toArray, List.set_cons_zero, List.set_cons_succ]
            first
              | (refine wpAnyZ_take (i := 4) (oi := ⟨_, _, _, _, _, _⟩) (v := undef) rfl (by decide +kernel) (fun _ _ _ h => h) (Or.inr ⟨by rfl, rfl⟩) hS ?_)
              | (refine wpAnyZ_take (i := 4) (oi := ⟨_, _, _, _, _, _⟩) (v := ?_) rfl (by decide +kernel) (fun _ _ _ h => h) (Or.inl ⟨by rfl, ?_⟩) hS ?_; rotate_left; focus (intro w hSw; (try dsimp only at hSw); (obtain ⟨k0, k1⟩ := box_loadK hSw); go_simp; (try with_reducible rfl); done))
            simp only [Act.put, List.setIfInBounds_toArray, List.set_cons_zero, List.set_cons_succ]
            first
              | (refine wpAnyZ_take0 (i := 5) (oi := ⟨_, _, _, _, _, _⟩) (v := undef) rfl (by decide +kernel) (fun _ _ _ h => h) (Or.inr ⟨by rfl, rfl⟩) (fun _ => hS) ?_)
              | (refine wpAnyZ_take0 (i := 5) (oi := ⟨_, _, _, _, _, _⟩) (v := ?_) rfl (by decide +kernel) (fun _ _ _ h => h) (Or.inl ⟨by rfl, ?_⟩) (fun _ => hS) ?_; rotate_left; focus (intro w hSw; go_simp; (try with_reducible rfl); done))
            simp only [Act.put, List.setIfInBounds_toArray, List.set_cons_zero, List.set_cons_succ]
            first
              | (refine wpAnyZ_take0 (i := 6) (oi := ⟨_, _, _, _, _, _⟩) (v := undef) rfl (by decide +kernel) (fun _ _ _ h => h) (Or.inr ⟨by rfl, rfl⟩) (fun _ => hS) ?_)
              | (refine wpAnyZ_take0 (i := 6) (oi := ⟨_, _, _, _, _, _⟩) (v := ?_) rfl (by decide +kernel) (fun _ _ _ h => h) (Or.inl ⟨by rfl, ?_⟩) (fun _ => hS) ?_; rotate_left; focus (intro w hSw; go_simp; (try with_reducible rfl); done))
            simp only [Act.put, List.setIfInBounds_toArray, List.set_cons_zero, List.set_cons_succ]
            first
              | (refine wpAnyZ_take0 (i := 7) (oi := ⟨_, _, _, _, _, _⟩) (v := undef) rfl (by decide +kernel) (fun _ _ _ h => h) (Or.inr ⟨by rfl, rfl⟩) (fun _ => hS) ?_)
              | (refine wpAnyZ_take0 (i := 7) (oi := ⟨_, _, _, _, _, _⟩) (v := ?_) rfl (by decide +kernel) (fun _ _ _ h => h) (Or.inl ⟨by rfl, ?_⟩) (fun _ => hS) ?_; rotate_left; focus (intro w hSw; go_simp; (try with_reducible rfl); done))
            simp only [Act.put, List.setIfInBounds_toArray, List.set_cons_zero, List.set_cons_succ]
            first
              | (refine wpAnyZ_take0 (i := 8) (oi := ⟨_, _, _, _, _, _⟩) (v := undef) rfl (by decide +kernel) (fun _ _ _ h => h) (Or.inr ⟨by rfl, rfl⟩) (fun _ => hS) ?_)
              | (refine wpAnyZ_take0 (i := 8) (oi := ⟨_, _, _, _, _, _⟩) (v := ?_) rfl (by decide +kernel) (fun _ _ _ h => h) (Or.inl ⟨by rfl, ?_⟩) (fun _ => hS) ?_; rotate_left; focus (intro w hSw; go_simp; (try with_reducible rfl); done))
            simp only [Act.put, List.setIfInBounds_toArray, List.set_cons_zero, List.set_cons_succ]
            first
              | (refine wpAnyZ_take0 (i := 9) (oi := ⟨_, _, _, _, _, _⟩) (v := undef) rfl (by decide +kernel) (fun _ _ _ h => h) (Or.inr ⟨by rfl, rfl⟩) (fun _ => hS) ?_)
              | (refine wpAnyZ_take0 (i := 9) (oi := ⟨_, _, _, _, _, _⟩) (v := ?_) rfl (by decide +kernel) (fun _ _ _ h => h) (Or.inl ⟨by rfl, ?_⟩) (fun _ => hS) ?_; rotate_left; focus (intro w hSw; go_simp; (try with_reducible rfl); done))
            simp only [Act.put, List.setIfInBounds_toArray, List.set_cons_zero, List.set_cons_succ]
            first
              | (refine wpAnyZ_take (i := 10) (oi := ⟨_, _, _, _, _, _⟩) (v := undef) rfl (by decide +kernel) (fun _ _ _ h => h) (Or.inr ⟨by rfl, rfl⟩) hS ?_)
              | (refine wpAnyZ_take (i := 10) (oi := ⟨_, _, _, _, _, _⟩) (v := ?_) rfl (by decide +kernel) (fun _ _ _ h => h) (Or.inl ⟨by rfl, ?_⟩) hS ?_; rotate_left; focus (intro w hSw; (try dsimp only at hSw); (obtain ⟨k0, k1⟩ := box_loadK hSw); go_simp; (try with_reducible rfl); done))
            simp only [Act.put, List.setIfInBounds_toArray, List.set_cons_zero, List.set_cons_succ]
            first
              | (refine wpAnyZ_take0 (i := 11) (oi := ⟨_, _, _, _, _, _⟩) (v := undef) rfl (by decide +kernel) (fun _ _ _ h => h) (Or.inr ⟨by rfl, rfl⟩) (fun _ => hS) ?_)
              | (refine wpAnyZ_take0 (i := 11) (oi := ⟨_, _, _, _, _, _⟩) (v := ?_) rfl (by decide +kernel) (fun _ _ _ h => h) (Or.inl ⟨by rfl, ?_⟩) (fun _ => hS) ?_; rotate_left; focus (intro w hSw; go_simp; (try with_reducible rfl); done))
            simp only [Act.put, List.setIfInBounds_toArray, List.set_cons_zero, List.set_cons_succ]
            refine wpAnyZ_take0 (i := 12) (oi := ⟨_, _, _, _, _, _⟩) (v := ?_) rfl (by decide +kernel) (fun _ _ _ h => h) (Or.inl ⟨by rfl, ?_⟩) (fun _ => hS) ?_
            rotate_left
            focus (intro w _; go_simp; (try with_reducible rfl); done)
            simp only [Act.put, List.setIfInBounds_toArray, List.set_cons_zero, List.set_cons_succ]
            refine wpAnyZ_take0 (i := 13) (oi := ⟨_, _, _, _, _, _⟩) (v := ?_) rfl (by decide +kernel) (fun _ _ _ h => h) (Or.inl ⟨by rfl, ?_⟩) (fun _ => hS) ?_
            rotate_left
            focus (intro w _; go_simp; (try with_reducible rfl); done)
            simp only [Act.put, List.setIfInBounds_toArray, List.set_cons_zero, List.set_cons_succ]
            refine wpAnyZ_done (by decide +kernel) ?_
            rcases hN with hN | hN
            · have hr1 : Hd (buildK kind first l = ([], 0, 0, 201)) := ⟨by rw [hres.out, hst4.out, if_pos hN]; simp⟩
              have hN2 : p.2 < 0 ∨ ¬ p.2 < 0 ∧ p.2 > 2147483647 := by omega
              clear hN hst4 hres
              rcases hN2 with n1 | ⟨n1, n2⟩
              all_goals
                go_wp2_with fail
                ((try simp only [Exit.inBlock, Exit.then]); refine bodyPost_ret (results_tmp4 rfl _ _ _) rfl ?_)
                rw [hr1.out]
                exact RetB.err _ _ _ (hbA.out.trans (below_drew _ |>.mono hbA.out.size))
            · have hst5 : Hd (badK none l = badK (prevK l (1)) (l.drop (1))) := ⟨by rw [hst4.out, if_neg hN]⟩
              have n1 : ¬ p.2 < 0 := by omega
              have n2 : ¬ p.2 > 2147483647 := by omega
              clear hN hst4
              go_wp2_with fail
              go_roundw
              case rel => exact ⟨1, by go_num, by omega, ⟨hbA.out.trans (below_drew _ |>.mono hbA.out.size)⟩, ⟨hst5.out.symm⟩⟩
              case measure => simp [intOf]; omega
          · have hle' : (Op.bytesLess p.1.toList q.1.toList || p.1.toList == q.1.toList) = false := hle
            clear hways hle
            obtain ⟨k, rfl⟩ : ∃ k, i = k + 1 := ⟨i - 1, by omega⟩
            rw [Nat.add_sub_cancel] at hq
            obtain ⟨ad', hade, y0, -⟩ := RdK.get HRr.out hq
            obtain rfl : ad = ad' := by injection hade
            have hqc := Hd.mk ((hba.cell (cell_lt y0)).trans y0)
            have c1 : decide (((k + 1 : Nat) : Int) > 0) = true := by simp <;> omega
            have c2 : decide ((k : Int) + 1 > 0) = true := by simp <;> omega
            have c3 : decide (0 < (k : Int) + 1) = true := by simp <;> omega
            have i2 : IntKind.i64.wrap (((k + 1 : Nat) : Int) - 1) = (k : Int) := by rw [IntKind.wrap_i64]; omega
            have i3 : (k : Int) < (n : Int) := by omega
            have i5 : IntKind.i64.wrap (k : Int) = (k : Int) := by rw [IntKind.wrap_i64]; omega
            have i4 : (0 : Int) ≤ (k : Int) := by omega
            go_wp2_with fail
            refine region_zone 14 [false, false, false, false, false, false, false, false, false, false, false, false, false, false] (by kernel_rfl) (by kernel_rfl) hmix (fun w' => w'.heap[wr.heap.size]? = some (.cells #[.string p.1, .int .i64 p.2] 113 (0, 0)) ∧ w'.cell? (ad.add (k * 2)) = some (.string q.1)) [] ?_ (fun hS => ?_)
            · exact ⟨GP.out, hqc.out⟩
            refine wpAnyZ_take0 (i := 0) (oi := ⟨_, _, _, _, _, _⟩) (v := ?_) rfl (by decide +kernel) (fun _ _ _ h => h) (Or.inl ⟨by rfl, ?_⟩) (fun _ => hS) ?_
            rotate_left
            focus (intro w _; go_simp; (try with_reducible rfl); done)
            simp only [Act.put, List.setIfInBounds_toArray, List.set_cons_zero, List.set_cons_succ]
            refine wpAnyZ_take0 (i := 1) (oi := ⟨_, _, _, _, _, _⟩) (v := ?_) rfl (by decide +kernel) (fun _ _ _ h => h) (Or.inl ⟨by rfl, ?_⟩) (fun _ => hS) ?_
            rotate_left
            focus (intro w _; go_simp; (try with_reducible rfl); done)
            simp only [Act.put, List.setIfInBounds_toArray, List.set_cons_zero, List.set_cons_succ]
            refine wpAnyZ_take0 (i := 2) (oi := ⟨_, _, _, _, _, _⟩) (v := ?_) rfl (by decide +kernel) (fun _ _ _ h => h) (Or.inl ⟨by rfl, ?_⟩) (fun _ => hS) ?_
            rotate_left
            focus (intro w _; go_simp; (try with_reducible rfl); done)
            simp only [Act.put, List.setIfInBounds_toArray, List.set_cons_zero, List.set_cons_succ]
            first
              | (refine wpAnyZ_take0 (i := 3) (oi := ⟨_, _, _, _, _, _⟩) (v := undef) rfl (by decide +kernel) (fun _ _ _ h => h) (Or.inr ⟨by rfl, rfl⟩) (fun _ => hS) ?_)
              | (refine wpAnyZ_take0 (i := 3) (oi := ⟨_, _, _, _, _, _⟩) (v := ?_) rfl (by decide +kernel) (fun _ _ _ h => h) (Or.inl ⟨by rfl, ?_⟩) (fun _ => hS) ?_; rotate_left; focus (intro w hSw; go_simp; (try with_reducible rfl); done))
            simp only [Act.put, List.setIfInBounds_toArray, List.set_cons_zero, List.set_cons_succ]
            first
              | (refine wpAnyZ_take (i := 4) (oi := ⟨_, _, _, _, _, _⟩) (v := undef) rfl (by decide +kernel) (fun _ _ _ h => h) (Or.inr ⟨by rfl, rfl⟩) hS ?_)
              | (refine wpAnyZ_take (i := 4) (oi := ⟨_, _, _, _, _, _⟩) (v := ?_) rfl (by decide +kernel) (fun _ _ _ h => h) (Or.inl ⟨by rfl, ?_⟩) hS ?_; rotate_left; focus (intro w hSw; (try dsimp only at hSw); (obtain ⟨hS0, y0⟩ := hSw; obtain ⟨k0, k1⟩ := box_loadK hS0); go_simp; (try with_reducible rfl); done))
            simp only [Act.put, List.setIfInBounds_toArray, List.set_cons_zero, List.set_cons_succ]
            first
              | (refine wpAnyZ_take0 (i := 5) (oi := ⟨_, _, _, _, _, _⟩) (v := undef) rfl (by decide +kernel) (fun _ _ _ h => h) (Or.inr ⟨by rfl, rfl⟩) (fun _ => hS) ?_)
              | (refine wpAnyZ_take0 (i := 5) (oi := ⟨_, _, _, _, _, _⟩) (v := ?_) rfl (by decide +kernel) (fun _ _ _ h => h) (Or.inl ⟨by rfl, ?_⟩) (fun _ => hS) ?_; rotate_left; focus (intro w hSw; go_simp; (try with_reducible rfl); done))
            simp only [Act.put, List.setIfInBounds_toArray, List.set_cons_zero, List.set_cons_succ]
            first
              | (refine wpAnyZ_take0 (i := 6) (oi := ⟨_, _, _, _, _, _⟩) (v := undef) rfl (by decide +kernel) (fun _ _ _ h => h) (Or.inr ⟨by rfl, rfl⟩) (fun _ => hS) ?_)
              | (refine wpAnyZ_take0 (i := 6) (oi := ⟨_, _, _, _, _, _⟩) (v := ?_) rfl (by decide +kernel) (fun _ _ _ h => h) (Or.inl ⟨by rfl, ?_⟩) (fun _ => hS) ?_; rotate_left; focus (intro w hSw; go_simp; (try with_reducible rfl); done))
            simp only [Act.put, List.setIfInBounds_toArray, List.set_cons_zero, List.set_cons_succ]
            first
              | (refine wpAnyZ_take0 (i := 7) (oi := ⟨_, _, _, _, _, _⟩) (v := undef) rfl (by decide +kernel) (fun _ _ _ h => h) (Or.inr ⟨by rfl, rfl⟩) (fun _ => hS) ?_)
              | (refine wpAnyZ_take0 (i := 7) (oi := ⟨_, _, _, _, _, _⟩) (v := ?_) rfl (by decide +kernel) (fun _ _ _ h => h) (Or.inl ⟨by rfl, ?_⟩) (fun _ => hS) ?_; rotate_left; focus (intro w hSw; go_simp; (try with_reducible rfl); done))
            simp only [Act.put, List.setIfInBounds_toArray, List.set_cons_zero, List.set_cons_succ]
            first
              | (refine wpAnyZ_take0 (i := 8) (oi := ⟨_, _, _, _, _, _⟩) (v := undef) rfl (by decide +kernel) (fun _ _ _ h => h) (Or.inr ⟨by rfl, rfl⟩) (fun _ => hS) ?_)
              | (refine wpAnyZ_take0 (i := 8) (oi := ⟨_, _, _, _, _, _⟩) (v := ?_) rfl (by decide +kernel) (fun _ _ _ h => h) (Or.inl ⟨by rfl, ?_⟩) (fun _ => hS) ?_; rotate_left; focus (intro w hSw; go_simp; (try with_reducible rfl); done))
            simp only [Act.put, List.setIfInBounds_toArray, List.set_cons_zero, List.set_cons_succ]
            first
              | (refine wpAnyZ_take0 (i := 9) (oi := ⟨_, _, _, _, _, _⟩) (v := undef) rfl (by decide +kernel) (fun _ _ _ h => h) (Or.inr ⟨by rfl, rfl⟩) (fun _ => hS) ?_)
              | (refine wpAnyZ_take0 (i := 9) (oi := ⟨_, _, _, _, _, _⟩) (v := ?_) rfl (by decide +kernel) (fun _ _ _ h => h) (Or.inl ⟨by rfl, ?_⟩) (fun _ => hS) ?_; rotate_left; focus (intro w hSw; go_simp; (try with_reducible rfl); done))
            simp only [Act.put, List.setIfInBounds_toArray, List.set_cons_zero, List.set_cons_succ]
            first
              | (refine wpAnyZ_take (i := 10) (oi := ⟨_, _, _, _, _, _⟩) (v := undef) rfl (by decide +kernel) (fun _ _ _ h => h) (Or.inr ⟨by rfl, rfl⟩) hS ?_)
              | (refine wpAnyZ_take (i := 10) (oi := ⟨_, _, _, _, _, _⟩) (v := ?_) rfl (by decide +kernel) (fun _ _ _ h => h) (Or.inl ⟨by rfl, ?_⟩) hS ?_; rotate_left; focus (intro w hSw; (try dsimp only at hSw); (obtain ⟨hS0, y0⟩ := hSw; obtain ⟨k0, k1⟩ := box_loadK hS0); go_simp; (try with_reducible rfl); done))
            simp only [Act.put, List.setIfInBounds_toArray, List.set_cons_zero, List.set_cons_succ]
            first
              | (refine wpAnyZ_take0 (i := 11) (oi := ⟨_, _, _, _, _, _⟩) (v := undef) rfl (by decide +kernel) (fun _ _ _ h => h) (Or.inr ⟨by rfl, rfl⟩) (fun _ => hS) ?_)
              | (refine wpAnyZ_take0 (i := 11) (oi := ⟨_, _, _, _, _, _⟩) (v := ?_) rfl (by decide +kernel) (fun _ _ _ h => h) (Or.inl ⟨by rfl, ?_⟩) (fun _ => hS) ?_; rotate_left; focus (intro w hSw; go_simp; (try with_reducible rfl); done))
            simp only [Act.put, List.setIfInBounds_toArray, List.set_cons_zero, List.set_cons_succ]
            refine wpAnyZ_take0 (i := 12) (oi := ⟨_, _, _, _, _, _⟩) (v := ?_) rfl (by decide +kernel) (fun _ _ _ h => h) (Or.inl ⟨by rfl, ?_⟩) (fun _ => hS) ?_
            rotate_left
            focus (intro w _; go_simp; (try with_reducible rfl); done)
            simp only [Act.put, List.setIfInBounds_toArray, List.set_cons_zero, List.set_cons_succ]
            refine wpAnyZ_take0 (i := 13) (oi := ⟨_, _, _, _, _, _⟩) (v := ?_) rfl (by decide +kernel) (fun _ _ _ h => h) (Or.inl ⟨by rfl, ?_⟩) (fun _ => hS) ?_
            rotate_left
            focus (intro w _; go_simp; (try with_reducible rfl); done)
            simp only [Act.put, List.setIfInBounds_toArray, List.set_cons_zero, List.set_cons_succ]
            refine wpAnyZ_done (by decide +kernel) ?_
            rcases hN with hN | hN
            · have hr1 : Hd (buildK kind first l = ([], 0, 0, 201)) := ⟨by rw [hres.out, hst4.out, if_pos hN]; simp⟩
              have hN2 : p.2 < 0 ∨ ¬ p.2 < 0 ∧ p.2 > 2147483647 := by omega
              clear hN hst4 hres
              rcases hN2 with n1 | ⟨n1, n2⟩
              all_goals
                go_wp2_with fail
                ((try simp only [Exit.inBlock, Exit.then]); refine bodyPost_ret (results_tmp4 rfl _ _ _) rfl ?_)
                rw [hr1.out]
                exact RetB.err _ _ _ (hbA.out.trans (below_drew _ |>.mono hbA.out.size))
            · have hst5 : Hd (badK none l = badK (prevK l (k + 1 + 1)) (l.drop (k + 1 + 1))) := ⟨by rw [hst4.out, if_neg hN]⟩
              have n1 : ¬ p.2 < 0 := by omega
              have n2 : ¬ p.2 > 2147483647 := by omega
              clear hN hst4
              go_wp2_with fail
              go_roundw
              case rel => exact ⟨k + 1 + 1, by go_num, by omega, ⟨hbA.out.trans (below_drew _ |>.mono hbA.out.size)⟩, ⟨hst5.out.symm⟩⟩
              case measure => simp [intOf]; omega
        · have hr1 : Hd (buildK kind first l = ([], 0, 0, 200)) := ⟨by rw [hres.out, hst2.out rfl]; simp⟩
          clear hst2 hst3 hres
          rcases hways.out with ⟨-, h0⟩ | ⟨q, hq, hle, h0⟩
          · cases h0
          · have hle' : (Op.bytesLess p.1.toList q.1.toList || p.1.toList == q.1.toList) = true := hle
            clear hways hle
            obtain ⟨k, rfl⟩ : ∃ k, i = k + 1 := ⟨i - 1, by omega⟩
            rw [Nat.add_sub_cancel] at hq
            obtain ⟨ad', hade, y0, -⟩ := RdK.get HRr.out hq
            obtain rfl : ad = ad' := by injection hade
            have hqc := Hd.mk ((hba.cell (cell_lt y0)).trans y0)
            have c1 : decide (((k + 1 : Nat) : Int) > 0) = true := by simp <;> omega
            have c2 : decide ((k : Int) + 1 > 0) = true := by simp <;> omega
            have c3 : decide (0 < (k : Int) + 1) = true := by simp <;> omega
            have i2 : IntKind.i64.wrap (((k + 1 : Nat) : Int) - 1) = (k : Int) := by rw [IntKind.wrap_i64]; omega
            have i3 : (k : Int) < (n : Int) := by omega
            have i5 : IntKind.i64.wrap (k : Int) = (k : Int) := by rw [IntKind.wrap_i64]; omega
            have i4 : (0 : Int) ≤ (k : Int) := by omega
            go_wp2_with fail
            refine region_zone 14 [false, false, false, false, false, false, false, false, false, false, false, false, false, false] (by kernel_rfl) (by kernel_rfl) hmix (fun w' => w'.heap[wr.heap.size]? = some (.cells #[.string p.1, .int .i64 p.2] 113 (0, 0)) ∧ w'.cell? (ad.add (k * 2)) = some (.string q.1)) [] ?_ (fun hS => ?_)
            · exact ⟨GP.out, hqc.out⟩
            refine wpAnyZ_take0 (i := 0) (oi := ⟨_, _, _, _, _, _⟩) (v := ?_) rfl (by decide +kernel) (fun _ _ _ h => h) (Or.inl ⟨by rfl, ?_⟩) (fun _ => hS) ?_
            rotate_left
            focus (intro w _; go_simp; (try with_reducible rfl); done)
            simp only [Act.put, List.setIfInBounds_toArray, List.set_cons_zero, List.set_cons_succ]
            refine wpAnyZ_take0 (i := 1) (oi := ⟨_, _, _, _, _, _⟩) (v := ?_) rfl (by decide +kernel) (fun _ _ _ h => h) (Or.inl ⟨by rfl, ?_⟩) (fun _ => hS) ?_
            rotate_left
            focus (intro w _; go_simp; (try with_reducible rfl); done)
            simp only [Act.put, List.setIfInBounds_toArray, List.set_cons_zero, List.set_cons_succ]
            refine wpAnyZ_take0 (i := 2) (oi := ⟨_, _, _, _, _, _⟩) (v := ?_) rfl (by decide +kernel) (fun _ _ _ h => h) (Or.inl ⟨by rfl, ?_⟩) (fun _ => hS) ?_
            rotate_left
            focus (intro w _; go_simp; (try with_reducible rfl); done)
            simp only [Act.put, List.setIfInBounds_toArray, List.set_cons_zero, List.set_cons_succ]
            first
              | (refine wpAnyZ_take0 (i := 3) (oi := ⟨_, _, _, _, _, _⟩) (v := undef) rfl (by decide +kernel) (fun _ _ _ h => h) (Or.inr ⟨by rfl, rfl⟩) (fun _ => hS) ?_)
              | (refine wpAnyZ_take0 (i := 3) (oi := ⟨_, _, _, _, _, _⟩) (v := ?_) rfl (by decide +kernel) (fun _ _ _ h => h) (Or.inl ⟨by rfl, ?_⟩) (fun _ => hS) ?_; rotate_left; focus (intro w hSw; go_simp; (try with_reducible rfl); done))
            simp only [Act.put, List.setIfInBounds_toArray, List.set_cons_zero, List.set_cons_succ]
            first
              | (refine wpAnyZ_take (i := 4) (oi := ⟨_, _, _, _, _, _⟩) (v := undef) rfl (by decide +kernel) (fun _ _ _ h => h) (Or.inr ⟨by rfl, rfl⟩) hS ?_)
              | (refine wpAnyZ_take (i := 4) (oi := ⟨_, _, _, _, _, _⟩) (v := ?_) rfl (by decide +kernel) (fun _ _ _ h => h) (Or.inl ⟨by rfl, ?_⟩) hS ?_; rotate_left; focus (intro w hSw; (try dsimp only at hSw); (obtain ⟨hS0, y0⟩ := hSw; obtain ⟨k0, k1⟩ := box_loadK hS0); go_simp; (try with_reducible rfl); done))
            simp only [Act.put, List.setIfInBounds_toArray, List.set_cons_zero, List.set_cons_succ]
            first
              | (refine wpAnyZ_take0 (i := 5) (oi := ⟨_, _, _, _, _, _⟩) (v := undef) rfl (by decide +kernel) (fun _ _ _ h => h) (Or.inr ⟨by rfl, rfl⟩) (fun _ => hS) ?_)
              | (refine wpAnyZ_take0 (i := 5) (oi := ⟨_, _, _, _, _, _⟩) (v := ?_) rfl (by decide +kernel) (fun _ _ _ h => h) (Or.inl ⟨by rfl, ?_⟩) (fun _ => hS) ?_; rotate_left; focus (intro w hSw; go_simp; (try with_reducible rfl); done))
            simp only [Act.put, List.setIfInBounds_toArray, List.set_cons_zero, List.set_cons_succ]
            first
              | (refine wpAnyZ_take0 (i := 6) (oi := ⟨_, _, _, _, _, _⟩) (v := undef) rfl (by decide +kernel) (fun _ _ _ h => h) (Or.inr ⟨by rfl, rfl⟩) (fun _ => hS) ?_)
              | (refine wpAnyZ_take0 (i := 6) (oi := ⟨_, _, _, _, _, _⟩) (v := ?_) rfl (by decide +kernel) (fun _ _ _ h => h) (Or.inl ⟨by rfl, ?_⟩) (fun _ => hS) ?_; rotate_left; focus (intro w hSw; go_simp; (try with_reducible rfl); done))
            simp only [Act.put, List.setIfInBounds_toArray, List.set_cons_zero, List.set_cons_succ]
            first
              | (refine wpAnyZ_take0 (i := 7) (oi := ⟨_, _, _, _, _, _⟩) (v := undef) rfl (by decide +kernel) (fun _ _ _ h => h) (Or.inr ⟨by rfl, rfl⟩) (fun _ => hS) ?_)
              | (refine wpAnyZ_take0 (i := 7) (oi := ⟨_, _, _, _, _, _⟩) (v := ?_) rfl (by decide +kernel) (fun _ _ _ h => h) (Or.inl ⟨by rfl, ?_⟩) (fun _ => hS) ?_; rotate_left; focus (intro w hSw; go_simp; (try with_reducible rfl); done))
            simp only [Act.put, List.setIfInBounds_toArray, List.set_cons_zero, List.set_cons_succ]
            first
              | (refine wpAnyZ_take0 (i := 8) (oi := ⟨_, _, _, _, _, _⟩) (v := undef) rfl (by decide +kernel) (fun _ _ _ h => h) (Or.inr ⟨by rfl, rfl⟩) (fun _ => hS) ?_)
              | (refine wpAnyZ_take0 (i := 8) (oi := ⟨_, _, _, _, _, _⟩) (v := ?_) rfl (by decide +kernel) (fun _ _ _ h => h) (Or.inl ⟨by rfl, ?_⟩) (fun _ => hS) ?_; rotate_left; focus (intro w hSw; go_simp; (try with_reducible rfl); done))
            simp only [Act.put, List.setIfInBounds_toArray, List.set_cons_zero, List.set_cons_succ]
            first
              | (refine wpAnyZ_take0 (i := 9) (oi := ⟨_, _, _, _, _, _⟩) (v := undef) rfl (by decide +kernel) (fun _ _ _ h => h) (Or.inr ⟨by rfl, rfl⟩) (fun _ => hS) ?_)
              | (refine wpAnyZ_take0 (i := 9) (oi := ⟨_, _, _, _, _, _⟩) (v := ?_) rfl (by decide +kernel) (fun _ _ _ h => h) (Or.inl ⟨by rfl, ?_⟩) (fun _ => hS) ?_; rotate_left; focus (intro w hSw; go_simp; (try with_reducible rfl); done))
            simp only [Act.put, List.setIfInBounds_toArray, List.set_cons_zero, List.set_cons_succ]
            first
              | (refine wpAnyZ_take (i := 10) (oi := ⟨_, _, _, _, _, _⟩) (v := undef) rfl (by decide +kernel) (fun _ _ _ h => h) (Or.inr ⟨by rfl, rfl⟩) hS ?_)
              | (refine wpAnyZ_take (i := 10) (oi := ⟨_, _, _, _, _, _⟩) (v := ?_) rfl (by decide +kernel) (fun _ _ _ h => h) (Or.inl ⟨by rfl, ?_⟩) hS ?_; rotate_left; focus (intro w hSw; (try dsimp only at hSw); (obtain ⟨hS0, y0⟩ := hSw; obtain ⟨k0, k1⟩ := box_loadK hS0); go_simp; (try with_reducible rfl); done))
            simp only [Act.put, List.setIfInBounds_toArray, List.set_cons_zero, List.set_cons_succ]
            first
              | (refine wpAnyZ_take0 (i := 11) (oi := ⟨_, _, _, _, _, _⟩) (v := undef) rfl (by decide +kernel) (fun _ _ _ h => h) (Or.inr ⟨by rfl, rfl⟩) (fun _ => hS) ?_)
              | (refine wpAnyZ_take0 (i := 11) (oi := ⟨_, _, _, _, _, _⟩) (v := ?_) rfl (by decide +kernel) (fun _ _ _ h => h) (Or.inl ⟨by rfl, ?_⟩) (fun _ => hS) ?_; rotate_left; focus (intro w hSw; go_simp; (try with_reducible rfl); done))
            simp only [Act.put, List.setIfInBounds_toArray, List.set_cons_zero, List.set_cons_succ]
            refine wpAnyZ_take0 (i := 12) (oi := ⟨_, _, _, _, _, _⟩) (v := ?_) rfl (by decide +kernel) (fun _ _ _ h => h) (Or.inl ⟨by rfl, ?_⟩) (fun _ => hS) ?_
            rotate_left
            focus (intro w _; go_simp; (try with_reducible rfl); done)
            simp only [Act.put, List.setIfInBounds_toArray, List.set_cons_zero, List.set_cons_succ]
            refine wpAnyZ_take0 (i := 13) (oi := ⟨_, _, _, _, _, _⟩) (v := ?_) rfl (by decide +kernel) (fun _ _ _ h => h) (Or.inl ⟨by rfl, ?_⟩) (fun _ => hS) ?_
            rotate_left
            focus (intro w _; go_simp; (try with_reducible rfl); done)
            simp only [Act.put, List.setIfInBounds_toArray, List.set_cons_zero, List.set_cons_succ]
            refine wpAnyZ_done (by decide +kernel) ?_
            go_wp2_with fail
            ((try simp only [Exit.inBlock, Exit.then]); refine bodyPost_ret (results_tmp4 rfl _ _ _) rfl ?_)
            rw [hr1.out]
            exact RetB.err _ _ _ (hbA.out.trans (below_drew _ |>.mono hbA.out.size))
    · obtain rfl : i = n := by omega
      have hbz : badK none l = 0 := by rw [← hbk.out, List.drop_of_length_le (by rw [HL.out]; exact Nat.le_refl _)]; simp [badK]
      have hokl := Hd.mk (badK_ok none l hbz).2.1
      have hres2 : Hd (buildK kind first l = if (upK kind (l.length + 1) first 0 l []).2.2 ≠ 0 then ([], 0, 0, (upK kind (l.length + 1) first 0 l []).2.2)
          else ((upK kind (l.length + 1) first 0 l []).1, (upK kind (l.length + 1) first 0 l []).2.1 - 1, (upK kind (l.length + 1) first 0 l []).2.1 - first, 0)) := ⟨by rw [hres.out, if_neg (by simpa using hbz)]⟩
      have hlti : ¬ ((i : Int) < (i : Int)) := by omega
      clear hbk hres hbz
      have HSZ := HBr.out.size
      have hX0 := heap_alloc_new wr (.cells #[.int .u8 (kind.toNat : Int), .int .i64 first, .slice none 0 0] 154)
      have hb0 : Below wr.heap.size wr (wr.alloc (.cells #[.int .u8 (kind.toNat : Int), .int .i64 first, .slice none 0 0] 154)) := (Below.refl _ _).alloc (Nat.le_refl _) _
      have HBC0 := Hd.mk (show BldC (wr.alloc (.cells #[.int .u8 (kind.toNat : Int), .int .i64 first, .slice none 0 0] 154)) wr.heap.size kind first none 0 0 [] from ⟨hX0, Own8.nil_ _ _ _⟩)
      have HB0 := Hd.mk (HBr.out.trans (hb0.mono HBr.out.size))
      have HR0 := Hd.mk (show RdK (wr.alloc (.cells #[.int .u8 (kind.toNat : Int), .int .i64 first, .slice none 0 0] 154)) A i l from Rd.below HRr.out hb0)
      have HA0 : Hd (0 < i → ∀ ad, A = some ad → ¬ FB wr.heap.size none 0 ad.block ∧ ad.block < (wr.alloc (.cells #[.int .u8 (kind.toNat : Int), .int .i64 first, .slice none 0 0] 154)).heap.size) := ⟨fun h0i ad had => by
        have h1 := HA.out h0i ad had
        refine ⟨?_, by simp; omega⟩
        rintro (e | e)
        · omega
        · simp [ownBlk] at e⟩
      clear hX0 hb0 HRr
      go_wp2_with fail
      obtain ⟨W1, hW1⟩ : ∃ W1, Hd (wr.alloc (.cells #[.int .u8 (kind.toNat : Int), .int .i64 first, .slice none 0 0] 154) = W1) := ⟨_, ⟨rfl⟩⟩
      rw [hW1.out] at HBC0 HB0 HR0 HA0 ⊢
      obtain ⟨g, hg⟩ : ∃ g, Hd (wr.heap.size = g) := ⟨_, ⟨rfl⟩⟩
      rw [hg.out] at HBC0 HA0 HSZ ⊢
      clear hW1 hg HBr hb HR HA hlt
      go_loopw [13, 2, 14, 15] (fun nv lv _ _ wr => ∃ (level : Nat) (next : Int) (P : Option Addr) (pn pc : Nat) (pgs : List UInt8) (A' : Option Addr) (n' c' : Nat) (l' : List Kp) (f : Nat),
          nv = .int .u8 ((UInt8.ofNat level).toNat : Int) ∧ lv = .slice A' n' c' ∧ Hd (BldC wr g kind next P pn pc pgs) ∧ Hd (RdK wr A' n' l') ∧ Hd (0 < n' → ∀ ad, A' = some ad → ¬ FB g P pc ad.block ∧ ad.block < wr.heap.size) ∧ Hd (∀ p ∈ l', OkP p) ∧
          Hd (upK kind (f + 1) next level l' pgs = upK kind (l.length + 1) first 0 l []) ∧ n' ≤ f ∧ n' ≤ 20000 ∧ Hd (Below w.heap.size w wr) ∧ Hd (∀ k, FB g P pc k → w.heap.size ≤ k) ∧ -9223372036854775808 ≤ next ∧ next ≤ 9223372036854775807 ∧ Hd (pgs = [] ∨ 0 ≤ next ∧ next ≤ 16384 ∧ (pgs.length : Int) ≤ 256 * next) ∧ Hd (first ≤ next ∧ (next = first ∨ 0 ≤ first ∧ next ≤ 16384)))
        (fun _ lv _ _ _ => lenOfV lv)
      case atStart => exact ⟨0, first, none, 0, 0, [], A, i, c, l, l.length, rfl, rfl, HBC0, HR0, HA0, hokl, ⟨rfl⟩, by have := HL.out; omega, hn2, HB0, ⟨fun k hk => by rcases hk with e | e; exact (by omega); exact (by simp [ownBlk] at e)⟩, hlo, hhi, ⟨.inl rfl⟩, ⟨by omega⟩⟩
      case round =>
        obtain ⟨level, next, P, pn, pc, pgs, A', n', c', l', f, rfl, rfl, HBC, HRL, HAL, hokl', hup, hnf, hn20, HBW, hFW, hnlo, hnhi, hpg, hfn⟩ := hrel
        clear HBC0 HB0 HR0 HA0
        have HLV := Hd.mk (level109 g kind (UInt8.ofNat level) next P pn pc pgs A' n' c' l' wr HBC.out HRL.out hn20 HAL.out hokl'.out hnlo hnhi hpg.out)
        obtain ⟨X1, X2, er, hX⟩ : ∃ X1 X2 er, Hd (layK kind (UInt8.ofNat level) next (chunks l') = (X1, X2, er)) := ⟨_, _, _, ⟨rfl⟩⟩
        have hll' := Hd.mk HRL.out.len
        unfold RetLev at HLV
        rw [hX.out] at HLV
        simp only at HLV
        have hTB : Hd (∀ w3, Tch (FB g P pc) wr w3 → Below w.heap.size w w3) := ⟨fun w3 ht => HBW.out.trans (ht.below hFW.out HBW.out.size)⟩
        by_cases he : er ≠ 0
        · have e2 : ((er : Int) != 0) = true := by simp; omega
          have hr1 : Hd (buildK kind first l = ([], 0, 0, er)) := ⟨by rw [hres2.out, ← hup.out, upK_err (by rw [hX.out]; exact he), hX.out, if_pos he]⟩
          have he' := Hd.mk he
          clear he hres2 hup
          go_wp2_with fail
          refine HLV.out.mono ?_
          intro e w3 hr
          rw [if_pos he'.out] at hr
          obtain ⟨rfl, ht3⟩ := hr
          have HB3 := Hd.mk (hTB.out w3 ht3)
          clear ht3
          go_wp2_with fail
          ((try simp only [Exit.inBlock, Exit.then]); refine bodyPost_ret (results_tmp4 rfl _ _ _) rfl ?_)
          rw [hr1.out]
          exact RetB.err _ _ _ HB3.out
        · have he0 : er = 0 := by omega
          subst he0
          have hXe : (layK kind (UInt8.ofNat level) next (chunks l')).2.2 = 0 := by rw [hX.out]
          have hXs := layK_len hXe (chunks_room hokl'.out)
          have hcp := chunks_pos l'
          have hcne : chunks l' ≠ [] := fun e => by rw [e] at hcp; simp at hcp
          rw [hX.out] at hXs
          obtain ⟨hs1, hs2, hs3⟩ := hXs
          have hs4 := hs3 hcne
          simp only at hs1 hs2
          obtain ⟨cl, hcl⟩ : ∃ cl, Hd ((chunks l').length = cl) := ⟨_, ⟨rfl⟩⟩
          rw [hcl.out] at hs1 hs2 hs4 hcp HLV
          have hnl : Hd (∀ nn, (if l' = [] then ([] : List Kp) else X2).length = nn → (nn < 2 ↔ cl < 2)) := ⟨fun nn h => by
            by_cases h0 : l' = []
            · rw [if_pos h0] at h
              have h1 : cl = 1 := by rw [← hcl.out, h0]; rfl
              simp at h; omega
            · rw [if_neg h0] at h; omega⟩
          have hs1' := Hd.mk hs1
          have hs2' := Hd.mk hs2
          clear hs1 hs2 hs3
          by_cases h2 : cl < 2
          · obtain rfl : cl = 1 := by omega
            have hr1 : Hd (buildK kind first l = (pgs ++ X1, next, next + 1 - first, 0)) := ⟨by
              rw [hres2.out, ← hup.out, upK_end hXe (by rw [hcl.out]; omega), hcl.out, hX.out, if_neg (by simp)]; simp⟩
            have iw1 : IntKind.i64.wrap next = next := by rw [IntKind.wrap_i64]; omega
            have iw3 : IntKind.i64.wrap (next + 1 - 1) = next := by rw [IntKind.wrap_i64]; omega
            have iw2 : IntKind.i64.wrap (next + 1 - first) = next + 1 - first := by rw [IntKind.wrap_i64]; have := hfn.out; omega
            clear hres2 hup hXe
            go_wp2_with fail
            refine HLV.out.mono ?_
            intro e w3 hr
            rw [if_neg (by simp)] at hr
            obtain ⟨N, nn, nc, P3, pn3, pc3, rfl, hN3, hb3, ht3, hp3⟩ := hr
            have hnn : (nn : Int) < 2 := by have := (hnl.out nn (OwnK.len hN3)).2 h2; omega
            have HB3 := Hd.mk (hTB.out w3 ht3)
            have HH3 := Hd.mk hb3.heap
            have HO3 : Hd (Own8 w3 w.heap.size P3 pn3 pc3 (pgs ++ X1)) := ⟨Own8.up hb3.own fun k e => by
              rcases hp3 k e with e1 | e1
              · exact hFW.out k (.inr e1)
              · have := HBW.out.size; omega⟩
            clear ht3 hb3 hp3 hN3 h2 hnl
            go_wp2_with fail
            refine region_zone 19 [false, false, false, false, false, false, false, false, false, false, false, false, false, false, false, false, false, false, false] (by kernel_rfl) (by kernel_rfl) hmix (fun w' => w'.heap[g]? = some (.cells #[.int .u8 (kind.toNat : Int), .int .i64 (next + 1), .slice P3 pn3 pc3] 154 (0, 0))) [] ?_ (fun hS => ?_)
            · exact HH3.out
            refine wpAnyZ_take0 (i := 0) (oi := ⟨_, _, _, _, _, _⟩) (v := ?_) rfl (by decide +kernel) (fun _ _ _ h => h) (Or.inl ⟨by rfl, ?_⟩) (fun _ => hS) ?_
            rotate_left
            focus (intro w _; go_simp; (try with_reducible rfl); done)
            simp only [Act.put, List.setIfInBounds_toArray, List.set_cons_zero, List.set_cons_succ]
            refine wpAnyZ_take0 (i := 1) (oi := ⟨_, _, _, _, _, _⟩) (v := ?_) rfl (by decide +kernel) (fun _ _ _ h => h) (Or.inl ⟨by rfl, ?_⟩) (fun _ => hS) ?_
            rotate_left
            focus (intro w _; go_simp; (try with_reducible rfl); done)
            simp only [Act.put, List.setIfInBounds_toArray, List.set_cons_zero, List.set_cons_succ]
            refine wpAnyZ_take0 (i := 2) (oi := ⟨_, _, _, _, _, _⟩) (v := ?_) rfl (by decide +kernel) (fun _ _ _ h => h) (Or.inl ⟨by rfl, ?_⟩) (fun _ => hS) ?_
            rotate_left
            focus (intro w _; go_simp; (try with_reducible rfl); done)
            simp only [Act.put, List.setIfInBounds_toArray, List.set_cons_zero, List.set_cons_succ]
            refine wpAnyZ_take (i := 3) (oi := ⟨_, _, _, _, _, _⟩) (v := ?_) rfl (by decide +kernel) (fun _ _ _ h => h) (Or.inl ⟨by rfl, ?_⟩) hS ?_
            rotate_left
            focus (intro w hSw; (try dsimp only at hSw); (obtain ⟨z0, z1, z2⟩ := bld_load hSw; clear hSw); go_simp; (try with_reducible rfl); done)
            simp only [Act.put, List.setIfInBounds_toArray, List.set_cons_zero, List.set_cons_succ]
            refine wpAnyZ_take0 (i := 4) (oi := ⟨_, _, _, _, _, _⟩) (v := ?_) rfl (by decide +kernel) (fun _ _ _ h => h) (Or.inl ⟨by rfl, ?_⟩) (fun _ => hS) ?_
            rotate_left
            focus (intro w _; go_simp; (try with_reducible rfl); done)
            simp only [Act.put, List.setIfInBounds_toArray, List.set_cons_zero, List.set_cons_succ]
            refine wpAnyZ_take0 (i := 5) (oi := ⟨_, _, _, _, _, _⟩) (v := ?_) rfl (by decide +kernel) (fun _ _ _ h => h) (Or.inl ⟨by rfl, ?_⟩) (fun _ => hS) ?_
            rotate_left
            focus (intro w _; go_simp; (try with_reducible rfl); done)
            simp only [Act.put, List.setIfInBounds_toArray, List.set_cons_zero, List.set_cons_succ]
            refine wpAnyZ_take0 (i := 6) (oi := ⟨_, _, _, _, _, _⟩) (v := ?_) rfl (by decide +kernel) (fun _ _ _ h => h) (Or.inl ⟨by rfl, ?_⟩) (fun _ => hS) ?_
            rotate_left
            focus (intro w _; go_simp; (try with_reducible rfl); done)
            simp only [Act.put, List.setIfInBounds_toArray, List.set_cons_zero, List.set_cons_succ]
            refine wpAnyZ_take (i := 7) (oi := ⟨_, _, _, _, _, _⟩) (v := ?_) rfl (by decide +kernel) (fun _ _ _ h => h) (Or.inl ⟨by rfl, ?_⟩) hS ?_
            rotate_left
            focus (intro w hSw; (try dsimp only at hSw); (obtain ⟨z0, z1, z2⟩ := bld_load hSw; clear hSw); go_simp; (try with_reducible rfl); done)
            simp only [Act.put, List.setIfInBounds_toArray, List.set_cons_zero, List.set_cons_succ]
            refine wpAnyZ_take0 (i := 8) (oi := ⟨_, _, _, _, _, _⟩) (v := ?_) rfl (by decide +kernel) (fun _ _ _ h => h) (Or.inl ⟨by rfl, ?_⟩) (fun _ => hS) ?_
            rotate_left
            focus (intro w _; go_simp; (try with_reducible rfl); done)
            simp only [Act.put, List.setIfInBounds_toArray, List.set_cons_zero, List.set_cons_succ]
            refine wpAnyZ_take0 (i := 9) (oi := ⟨_, _, _, _, _, _⟩) (v := ?_) rfl (by decide +kernel) (fun _ _ _ h => h) (Or.inl ⟨by rfl, ?_⟩) (fun _ => hS) ?_
            rotate_left
            focus (intro w _; go_simp; (try with_reducible rfl); done)
            simp only [Act.put, List.setIfInBounds_toArray, List.set_cons_zero, List.set_cons_succ]
            refine wpAnyZ_take0 (i := 10) (oi := ⟨_, _, _, _, _, _⟩) (v := ?_) rfl (by decide +kernel) (fun _ _ _ h => h) (Or.inl ⟨by rfl, ?_⟩) (fun _ => hS) ?_
            rotate_left
            focus (intro w _; go_simp; (try with_reducible rfl); done)
            simp only [Act.put, List.setIfInBounds_toArray, List.set_cons_zero, List.set_cons_succ]
            refine wpAnyZ_take0 (i := 11) (oi := ⟨_, _, _, _, _, _⟩) (v := ?_) rfl (by decide +kernel) (fun _ _ _ h => h) (Or.inl ⟨by rfl, ?_⟩) (fun _ => hS) ?_
            rotate_left
            focus (intro w _; go_simp; (try with_reducible rfl); done)
            simp only [Act.put, List.setIfInBounds_toArray, List.set_cons_zero, List.set_cons_succ]
            refine wpAnyZ_take (i := 12) (oi := ⟨_, _, _, _, _, _⟩) (v := ?_) rfl (by decide +kernel) (fun _ _ _ h => h) (Or.inl ⟨by rfl, ?_⟩) hS ?_
            rotate_left
            focus (intro w hSw; (try dsimp only at hSw); (obtain ⟨z0, z1, z2⟩ := bld_load hSw; clear hSw); go_simp; (try with_reducible rfl); done)
            simp only [Act.put, List.setIfInBounds_toArray, List.set_cons_zero, List.set_cons_succ]
            refine wpAnyZ_take0 (i := 13) (oi := ⟨_, _, _, _, _, _⟩) (v := ?_) rfl (by decide +kernel) (fun _ _ _ h => h) (Or.inl ⟨by rfl, ?_⟩) (fun _ => hS) ?_
            rotate_left
            focus (intro w _; go_simp; (try with_reducible rfl); done)
            simp only [Act.put, List.setIfInBounds_toArray, List.set_cons_zero, List.set_cons_succ]
            refine wpAnyZ_take0 (i := 14) (oi := ⟨_, _, _, _, _, _⟩) (v := ?_) rfl (by decide +kernel) (fun _ _ _ h => h) (Or.inl ⟨by rfl, ?_⟩) (fun _ => hS) ?_
            rotate_left
            focus (intro w _; go_simp; (try with_reducible rfl); done)
            simp only [Act.put, List.setIfInBounds_toArray, List.set_cons_zero, List.set_cons_succ]
            refine wpAnyZ_take0 (i := 15) (oi := ⟨_, _, _, _, _, _⟩) (v := ?_) rfl (by decide +kernel) (fun _ _ _ h => h) (Or.inl ⟨by rfl, ?_⟩) (fun _ => hS) ?_
            rotate_left
            focus (intro w _; go_simp; (try with_reducible rfl); done)
            simp only [Act.put, List.setIfInBounds_toArray, List.set_cons_zero, List.set_cons_succ]
            refine wpAnyZ_take0 (i := 16) (oi := ⟨_, _, _, _, _, _⟩) (v := ?_) rfl (by decide +kernel) (fun _ _ _ h => h) (Or.inl ⟨by rfl, ?_⟩) (fun _ => hS) ?_
            rotate_left
            focus (intro w _; go_simp; (try with_reducible rfl); done)
            simp only [Act.put, List.setIfInBounds_toArray, List.set_cons_zero, List.set_cons_succ]
            refine wpAnyZ_take0 (i := 17) (oi := ⟨_, _, _, _, _, _⟩) (v := ?_) rfl (by decide +kernel) (fun _ _ _ h => h) (Or.inl ⟨by rfl, ?_⟩) (fun _ => hS) ?_
            rotate_left
            focus (intro w _; go_simp; (try with_reducible rfl); done)
            simp only [Act.put, List.setIfInBounds_toArray, List.set_cons_zero, List.set_cons_succ]
            refine wpAnyZ_take0 (i := 18) (oi := ⟨_, _, _, _, _, _⟩) (v := ?_) rfl (by decide +kernel) (fun _ _ _ h => h) (Or.inl ⟨by rfl, ?_⟩) (fun _ => hS) ?_
            rotate_left
            focus (intro w _; go_simp; (try with_reducible rfl); done)
            simp only [Act.put, List.setIfInBounds_toArray, List.set_cons_zero, List.set_cons_succ]
            refine wpAnyZ_done (by decide +kernel) ?_
            go_wp2_with fail
            ((try simp only [Exit.inBlock, Exit.then]); refine bodyPost_ret (results_tmp4 rfl _ _ _) rfl ?_)
            rw [hr1.out]
            exact ⟨_, _, _, rfl, HO3.out, HB3.out.trans (below_drew _ |>.mono HB3.out.size)⟩
          · have h0l : l' ≠ [] := fun e => by rw [e] at hcl; have h5 := hcl.out; simp [chunks, chunkK] at h5; omega
            have hfew := chunks_few hokl'.out h0l
            rw [hcl.out] at hfew
            have hx2 : Hd ((if l' = [] then ([] : List Kp) else X2) = X2) := ⟨if_neg h0l⟩
            have hox : Hd (∀ p ∈ X2, OkP p) := ⟨by have := layK_pairs (kind := kind) (n := UInt8.ofNat level) (next := next) (chunks_ok hokl'.out h0l); rw [hX.out] at this; exact this⟩
            obtain ⟨f, rfl⟩ : ∃ f', f = f' + 1 := ⟨f - 1, by have := hll'.out; omega⟩
            have hup2 : Hd (upK kind (f + 1) (next + cl) (level + 1) X2 (pgs ++ X1) = upK kind (l.length + 1) first 0 l []) := ⟨by
              rw [← hup.out, upK_step hXe (by rw [hcl.out]; exact h2), hcl.out, hX.out]⟩
            have hbn := byte_next level
            have hpg2 : Hd (pgs ++ X1 = [] ∨ 0 ≤ next + (cl : Int) ∧ next + (cl : Int) ≤ 16384 ∧ ((pgs ++ X1).length : Int) ≤ 256 * (next + (cl : Int))) := ⟨.inr ⟨by omega, by omega, by
              rw [List.length_append, hs2'.out]
              rcases hpg.out with h5 | ⟨h5, h6, h7⟩
              · rw [h5]; simp; omega
              · omega⟩⟩
            clear hup hXe
            go_wp2_with fail
            refine HLV.out.mono ?_
            intro e w3 hr
            rw [if_neg (by simp)] at hr
            obtain ⟨N, nn, nc, P3, pn3, pc3, rfl, hN3, hb3, ht3, hp3⟩ := hr
            rw [hx2.out] at hN3
            have hnn : ¬ (nn : Int) < 2 := by have := OwnK.len hN3; have := hs1'.out; omega
            obtain rfl : cl = nn := by have := OwnK.len hN3; have := hs1'.out; omega
            have HB3 := Hd.mk (hTB.out w3 ht3)
            have HC3 := Hd.mk hb3
            have HN3 := Hd.mk hN3
            have hF3 : Hd (∀ k, FB g P3 pc3 k → w.heap.size ≤ k) := ⟨fun k hk => by
              rcases hk with e | e
              · exact hFW.out k (.inl e)
              · rcases hp3 k e with e1 | e1
                · exact hFW.out k (.inr e1)
                · have := HBW.out.size; omega⟩
            clear ht3 hb3 hp3 hN3 hnl
            go_wp2_with fail
            go_roundw
            case rel =>
              refine ⟨level + 1, _, P3, pn3, pc3, pgs ++ X1, N, _, nc, X2, f, ?_, rfl, HC3, ⟨Own.rd HN3.out⟩, ⟨fun _ ad had => ?_⟩, hox, hup2, ?_, ?_, HB3, hF3, by omega, by omega, hpg2, ⟨?_⟩⟩
              · first | rfl | exact congrArg _ hbn
              · have h5 : ownBlk N nc = some ad.block := by
                  have h6 := HN3.out.2.1
                  have h7 : nc ≠ 0 := by omega
                  simp [ownBlk, h7, had]
                obtain ⟨cs, hcs⟩ := own_type HN3.out h5
                exact ⟨HC3.out.notFB hcs (by decide) (by decide), (Array.getElem?_eq_some_iff.1 hcs).1⟩
              · have := hll'.out; omega
              · have := hll'.out; omega
              · have := hfn.out; omega
            case measure => simp only [lenOfV]; have := hll'.out; omega
end Go.Proofs.Ytkgdcglnkodgnaa

