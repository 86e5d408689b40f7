/-
  tree's checker: node, Check. No condition but sizes.
-/
import Derived.Test.YtkgdcglnkodgnaaFi
import Derived.Test.YtkgdcglnkodgnaaTreeD
namespace Go.Proofs.Ytkgdcglnkodgnaa
open Go.RowKit
/-- A checker in memory. -/
def ChkAt (w : World) (g : Nat) (A : Option Addr) (n c : Nat) (kind : UInt8) (s : Wk) : Prop :=
  w.heap[g]? = some (.cells #[.slice A n c, .int .u8 (kind.toNat : Int), .int .i64 (s.1 : Int), .string s.2] 161 (0, 0))
theorem chk_load {w : World} {g : Nat} {a b c d : Value} (h : w.heap[g]? = some (.cells #[a, b, c, d] 161 (0, 0))) :
    w.cell? ⟨g, 0, none⟩ = some a ∧ w.cell? ⟨g, 1, none⟩ = some b ∧ w.cell? ⟨g, 2, none⟩ = some c ∧ w.cell? ⟨g, 3, none⟩ = some d :=
  ⟨(cell_of_row _ _ 0 _ _ _ h).trans rfl, (cell_of_row _ _ 1 _ _ _ h).trans rfl, (cell_of_row _ _ 2 _ _ _ h).trans rfl, (cell_of_row _ _ 3 _ _ _ h).trans rfl⟩
theorem Rd8.aside {w w' : World} {A : Option Addr} {n : Nat} {l : List UInt8} (h : Rd8 w A n l) {row : Option Nat} (hg : w.grownBy w' row) (hne : ∀ ad, A = some ad → row ≠ some ad.block) : Rd8 w' A n l := by
  refine ⟨h.1, fun hn => ?_⟩
  obtain ⟨ad, hA, hc⟩ := h.2 hn
  refine ⟨ad, hA, fun j u hu => hg.cell (hc j u hu) (fun e => hne ad hA ?_)⟩
  rw [← e, block_add]
theorem grown_drew {w w' : World} {row : Option Nat} (h : w.grownBy w' row) : w.grownBy w'.drew row := ⟨h.os, h.tape, h.output, h.size, h.block⟩
section
variable {b : List UInt8} {kind : UInt8} {f : Nat} {number level m : Int} {er : Nat} {ps : List Kp} {first : ByteArray} {s : Wk}
theorem checkK_err (h : readK b kind number level = (er, m, ps)) (he : er ≠ 0) : checkK b kind (f + 1) number level first s = (s, er) := by
  rw [checkK, h, if_pos he]
theorem checkK_first (h : readK b kind number level = (0, m, ps)) (h1 : level ≠ -1 ∧ headK ps ≠ first) : checkK b kind (f + 1) number level first s = (s, 202) := by
  rw [checkK, h, if_neg (by simp), if_pos h1]
theorem checkK_bad (h : readK b kind number level = (0, 0, ps)) (h1 : ¬ (level ≠ -1 ∧ headK ps ≠ first)) (h2 : 0 < s.1 ∧ headLe ps s.2 = true) : checkK b kind (f + 1) number level first s = (s, 202) := by
  rw [checkK, h, if_neg (by simp), if_neg h1]
  simp only
  rw [if_pos trivial, if_pos h2]
theorem checkK_leaf (h : readK b kind number level = (0, 0, ps)) (h1 : ¬ (level ≠ -1 ∧ headK ps ≠ first)) (h2 : ¬ (0 < s.1 ∧ headLe ps s.2 = true)) : checkK b kind (f + 1) number level first s = ((s.1 + ps.length, lastD ps s.2), 0) := by
  rw [checkK, h, if_neg (by simp), if_neg h1]
  simp only
  rw [if_pos trivial, if_neg h2]
theorem checkK_over (h : readK b kind number level = (0, m, ps)) (h1 : ¬ (level ≠ -1 ∧ headK ps ≠ first)) (h2 : ¬ m = 0) : checkK b kind (f + 1) number level first s = overC (fun n' f' s' => checkK b kind f n' (m - 1) f' s') ps s := by
  rw [checkK, h, if_neg (by simp), if_neg h1]
  simp only
  rw [if_neg h2]
end
set_option maxRecDepth 100000 in
set_option maxHeartbeats 4000000 in
theorem node111 (g : Nat) (A : Option Addr) (n c : Nat) (l : List UInt8) (kind : UInt8) (hn : n ≤ 140737488355328) (hnc : n ≤ c) (hA : ∀ ad, A = some ad → ad.block ≠ g) :
    ∀ (f : Nat) (number level : Int) (first : ByteArray) (s : Wk) (w : World), ChkAt w g A n c kind s → Rd8 w A n l → GoodW l kind s → -9223372036854775808 ≤ number → number ≤ 9223372036854775807 → (level = -1 ∧ f = 14 ∨ 0 ≤ level ∧ level < f ∧ f ≤ 13) →
      Calls Try.prog 111 #[.pointer (some ⟨g, 0, none⟩), .int .i64 number, .int .i64 level, .string first] w fun e w' =>
        e = .returned (.int .i64 ((checkK l kind f number level first s).2 : Int)) ∧ ChkAt w' g A n c kind (checkK l kind f number level first s).1 ∧ w.grownBy w' (some g)
  | 0, number, level, first, s, w, _, _, _, _, _, hf => absurd hf (by omega)
  | f + 1, number, level, first, s, w, hc, h, hgood, hlo, hhi, hf => by
    obtain ⟨many, last⟩ := s
    have HIH := Hd.mk (node111 g A n c l kind hn hnc hA f)
    have hmix := try_mixed
    have hgl := Hd.mk (Array.getElem?_eq_some_iff.1 hc).1
    obtain ⟨er, m, ps, hr⟩ : ∃ er m ps, Hd (readK l kind number level = (er, m, ps)) := ⟨_, _, _, ⟨rfl⟩⟩
    have HR : ∀ w : World, Rd8 w A n l → Hd (Calls Try.prog 112 #[.slice A n c, .int .u8 (kind.toNat : Int), .int .i64 number, .int .i64 level] w (RetN w (er, m, ps))) := fun w h => ⟨by rw [← hr.out]; exact read112 A n c l kind number level w h hn hnc hlo hhi⟩
    have HS := Hd.mk (show w.heap[g]? = some (.cells #[.slice A n c, .int .u8 (kind.toNat : Int), .int .i64 (many : Int), .string last] 161 (0, 0)) from hc)
    have HD := Hd.mk h
    have HGO := Hd.mk hgood
    clear hc h hgood
    go_enter Try.func111, Try.ntmps111
    go_wp2_with fail
    refine region_zone 18 [false, false, false, false, false, false, false, false, false, false, false, false, false, false, false, false, false, false] (by kernel_rfl) (by kernel_rfl) hmix (fun w' => w'.heap[g]? = some (.cells #[.slice A n c, .int .u8 (kind.toNat : Int), .int .i64 (many : Int), .string last] 161 (0, 0))) [] ?_ (fun hS => ?_)
    · exact HS.out
    refine wpAnyZ_take0 (i := 0) (oi := ⟨_, _, _, _, _, _⟩) (v := ?_) rfl (by decide +kernel) (fun _ _ _ h => h) (Or.inl ⟨by rfl, ?_⟩) (fun _ => hS) ?_
    rotate_left
    focus (intro w _; go_simp; (try with_reducible rfl); done)
    simp only [Act.put, List.setIfInBounds_toArray, List.set_cons_zero, List.set_cons_succ]
    refine wpAnyZ_take0 (i := 1) (oi := ⟨_, _, _, _, _, _⟩) (v := ?_) rfl (by decide +kernel) (fun _ _ _ h => h) (Or.inl ⟨by rfl, ?_⟩) (fun _ => hS) ?_
    rotate_left
    focus (intro w _; go_simp; (try with_reducible rfl); done)
    simp only [Act.put, List.setIfInBounds_toArray, List.set_cons_zero, List.set_cons_succ]
    refine wpAnyZ_take0 (i := 2) (oi := ⟨_, _, _, _, _, _⟩) (v := ?_) rfl (by decide +kernel) (fun _ _ _ h => h) (Or.inl ⟨by rfl, ?_⟩) (fun _ => hS) ?_
    rotate_left
    focus (intro w _; go_simp; (try with_reducible rfl); done)
    simp only [Act.put, List.setIfInBounds_toArray, List.set_cons_zero, List.set_cons_succ]
    refine wpAnyZ_take (i := 3) (oi := ⟨_, _, _, _, _, _⟩) (v := ?_) rfl (by decide +kernel) (fun _ _ _ h => h) (Or.inl ⟨by rfl, ?_⟩) hS ?_
    rotate_left
    focus (intro w hSw; (try dsimp only at hSw); (obtain ⟨z0, z1, z2, z3⟩ := chk_load hSw; clear hSw); go_simp; (try with_reducible rfl); done)
    simp only [Act.put, List.setIfInBounds_toArray, List.set_cons_zero, List.set_cons_succ]
    refine wpAnyZ_take0 (i := 4) (oi := ⟨_, _, _, _, _, _⟩) (v := ?_) rfl (by decide +kernel) (fun _ _ _ h => h) (Or.inl ⟨by rfl, ?_⟩) (fun _ => hS) ?_
    rotate_left
    focus (intro w _; go_simp; (try with_reducible rfl); done)
    simp only [Act.put, List.setIfInBounds_toArray, List.set_cons_zero, List.set_cons_succ]
    refine wpAnyZ_take0 (i := 5) (oi := ⟨_, _, _, _, _, _⟩) (v := ?_) rfl (by decide +kernel) (fun _ _ _ h => h) (Or.inl ⟨by rfl, ?_⟩) (fun _ => hS) ?_
    rotate_left
    focus (intro w _; go_simp; (try with_reducible rfl); done)
    simp only [Act.put, List.setIfInBounds_toArray, List.set_cons_zero, List.set_cons_succ]
    refine wpAnyZ_take0 (i := 6) (oi := ⟨_, _, _, _, _, _⟩) (v := ?_) rfl (by decide +kernel) (fun _ _ _ h => h) (Or.inl ⟨by rfl, ?_⟩) (fun _ => hS) ?_
    rotate_left
    focus (intro w _; go_simp; (try with_reducible rfl); done)
    simp only [Act.put, List.setIfInBounds_toArray, List.set_cons_zero, List.set_cons_succ]
    refine wpAnyZ_take (i := 7) (oi := ⟨_, _, _, _, _, _⟩) (v := ?_) rfl (by decide +kernel) (fun _ _ _ h => h) (Or.inl ⟨by rfl, ?_⟩) hS ?_
    rotate_left
    focus (intro w hSw; (try dsimp only at hSw); (obtain ⟨z0, z1, z2, z3⟩ := chk_load hSw; clear hSw); go_simp; (try with_reducible rfl); done)
    simp only [Act.put, List.setIfInBounds_toArray, List.set_cons_zero, List.set_cons_succ]
    refine wpAnyZ_take0 (i := 8) (oi := ⟨_, _, _, _, _, _⟩) (v := ?_) rfl (by decide +kernel) (fun _ _ _ h => h) (Or.inl ⟨by rfl, ?_⟩) (fun _ => hS) ?_
    rotate_left
    focus (intro w _; go_simp; (try with_reducible rfl); done)
    simp only [Act.put, List.setIfInBounds_toArray, List.set_cons_zero, List.set_cons_succ]
    refine wpAnyZ_take0 (i := 9) (oi := ⟨_, _, _, _, _, _⟩) (v := ?_) rfl (by decide +kernel) (fun _ _ _ h => h) (Or.inl ⟨by rfl, ?_⟩) (fun _ => hS) ?_
    rotate_left
    focus (intro w _; go_simp; (try with_reducible rfl); done)
    simp only [Act.put, List.setIfInBounds_toArray, List.set_cons_zero, List.set_cons_succ]
    refine wpAnyZ_one (i := 10) rfl (by decide +kernel) (fun K hKK => ?_)
    go_simp
    refine (HR w.drew HD.out.drew).out.mono ?_
    rintro e w1 ⟨A1, n1, c1, rfl, o1, k1, b1⟩
    have B1 := (below_drew w).trans b1
    clear hS
    have hS := (B1.block g hgl.out).trans HS.out
    refine hKK.out _ _ (fun _ => hS) ?_
    clear hKK
    refine wpAnyZ_take0 (i := 11) (oi := ⟨_, _, _, _, _, _⟩) (v := ?_) rfl (by decide +kernel) (fun _ _ _ h => h) (Or.inl ⟨by rfl, ?_⟩) (fun _ => hS) ?_
    rotate_left
    focus (intro w _; go_simp; (try with_reducible rfl); done)
    simp only [Act.put, List.setIfInBounds_toArray, List.set_cons_zero, List.set_cons_succ]
    refine wpAnyZ_take0 (i := 12) (oi := ⟨_, _, _, _, _, _⟩) (v := ?_) rfl (by decide +kernel) (fun _ _ _ h => h) (Or.inl ⟨by rfl, ?_⟩) (fun _ => hS) ?_
    rotate_left
    focus (intro w _; go_simp; (try with_reducible rfl); done)
    simp only [Act.put, List.setIfInBounds_toArray, List.set_cons_zero, List.set_cons_succ]
    refine wpAnyZ_take0 (i := 13) (oi := ⟨_, _, _, _, _, _⟩) (v := ?_) rfl (by decide +kernel) (fun _ _ _ h => h) (Or.inl ⟨by rfl, ?_⟩) (fun _ => hS) ?_
    rotate_left
    focus (intro w _; go_simp; (try with_reducible rfl); done)
    simp only [Act.put, List.setIfInBounds_toArray, List.set_cons_zero, List.set_cons_succ]
    refine wpAnyZ_take0 (i := 14) (oi := ⟨_, _, _, _, _, _⟩) (v := ?_) rfl (by decide +kernel) (fun _ _ _ h => h) (Or.inl ⟨by rfl, ?_⟩) (fun _ => hS) ?_
    rotate_left
    focus (intro w _; go_simp; (try with_reducible rfl); done)
    simp only [Act.put, List.setIfInBounds_toArray, List.set_cons_zero, List.set_cons_succ]
    refine wpAnyZ_take0 (i := 15) (oi := ⟨_, _, _, _, _, _⟩) (v := ?_) rfl (by decide +kernel) (fun _ _ _ h => h) (Or.inl ⟨by rfl, ?_⟩) (fun _ => hS) ?_
    rotate_left
    focus (intro w _; go_simp; (try with_reducible rfl); done)
    simp only [Act.put, List.setIfInBounds_toArray, List.set_cons_zero, List.set_cons_succ]
    refine wpAnyZ_take0 (i := 16) (oi := ⟨_, _, _, _, _, _⟩) (v := ?_) rfl (by decide +kernel) (fun _ _ _ h => h) (Or.inl ⟨by rfl, ?_⟩) (fun _ => hS) ?_
    rotate_left
    focus (intro w _; go_simp; (try with_reducible rfl); done)
    simp only [Act.put, List.setIfInBounds_toArray, List.set_cons_zero, List.set_cons_succ]
    refine wpAnyZ_take0 (i := 17) (oi := ⟨_, _, _, _, _, _⟩) (v := ?_) rfl (by decide +kernel) (fun _ _ _ h => h) (Or.inl ⟨by rfl, ?_⟩) (fun _ => hS) ?_
    rotate_left
    focus (intro w _; go_simp; (try with_reducible rfl); done)
    simp only [Act.put, List.setIfInBounds_toArray, List.set_cons_zero, List.set_cons_succ]
    refine wpAnyZ_done (by decide +kernel) ?_
    have HS1 := Hd.mk hS
    have HB1 := Hd.mk B1
    have HO1 := Hd.mk (show OwnK w1 w.heap.size A1 n1 c1 ps from o1)
    have HD1 := Hd.mk (HD.out.below B1)
    clear hS B1 b1 o1 HS HD HR
    by_cases he : er ≠ 0
    · have e1 : ((er : Int) != 0) = true := by simp; omega
      have hck : Hd (checkK l kind (f + 1) number level first (many, last) = ((many, last), er)) := ⟨checkK_err hr.out he⟩
      clear he HIH
      go_wp2_with fail
      go_ret
      rw [hck.out]
      exact ⟨rfl, HS1.out, grown_of_below HB1.out _⟩
    have he : er = 0 := by omega
    subst he
    have hok := readK_ok hr.out
    have hm0 := hok.1
    have hm12 := hok.2.1
    have hml : level = -1 ∨ m = level := hok.2.2.1
    have hps := Hd.mk hok.2.2.2.2.1
    have hnil := Hd.mk hok.2.2.2.2.2.1
    have hpl := Hd.mk HO1.out.len
    have hmb : Hd (many ≤ 4194304) := ⟨HGO.out.bound⟩
    clear hok
    obtain ⟨z0, z1, z2, z3⟩ := chk_load HS1.out
    have f2 := frozen_of_row w1 g 2 _ _ HS1.out
    have f3 := frozen_of_row w1 g 3 _ _ HS1.out
    cases hpe : ps with
    | nil =>
      subst hpe
      obtain ⟨rfl, rfl⟩ := hnil.out rfl
      obtain rfl : n1 = 0 := hpl.out.symm
      have hck : Hd (checkK l kind (f + 1) number (-1) first (many, last) = ((many, last), 0)) := ⟨by rw [checkK_leaf hr.out (by simp) (fun h => by cases h.2)]; simp [lastD]⟩
      clear hpl hnil
      have c1 : ∃ q, decide ((many : Int) > 0) = q ∧ decide (0 < (many : Int)) = q ∧ decide (0 < many) = q := by
        by_cases h : 0 < many
        · exact ⟨true, by simp; omega, by simp; omega, by simpa using h⟩
        · exact ⟨false, by simp; omega, by simp; omega, by simpa using h⟩
      obtain ⟨q, c1, c2, c3⟩ := c1
      have hw64 : wrap64 (many : Int) = (many : Int) := by have := hmb.out; unfold wrap64; omega
      cases q
      all_goals
        go_wp2_with fail
        refine region_zone 21 [false, false, false, false, false, false, false, false, false, false, false, false, false, false, false, false, false, false, false, false, false] (by kernel_rfl) (by kernel_rfl) hmix (fun w' => w'.heap[g]? = some (.cells #[.slice A n c, .int .u8 (kind.toNat : Int), .int .i64 (many : Int), .string last] 161 (0, 0))) [] ?_ (fun hS => ?_)
        · exact HS1.out
        refine wpAnyZ_take0 (i := 0) (oi := ⟨_, _, _, _, _, _⟩) (v := ?_) rfl (by decide +kernel) (fun _ _ _ h => h) (Or.inl ⟨by rfl, ?_⟩) (fun _ => hS) ?_
        rotate_left
        focus (intro w _; go_simp; (try with_reducible rfl); done)
        simp only [Act.put, List.setIfInBounds_toArray, List.set_cons_zero, List.set_cons_succ]
        refine wpAnyZ_take0 (i := 1) (oi := ⟨_, _, _, _, _, _⟩) (v := ?_) rfl (by decide +kernel) (fun _ _ _ h => h) (Or.inl ⟨by rfl, ?_⟩) (fun _ => hS) ?_
        rotate_left
        focus (intro w _; go_simp; (try with_reducible rfl); done)
        simp only [Act.put, List.setIfInBounds_toArray, List.set_cons_zero, List.set_cons_succ]
        refine wpAnyZ_take0 (i := 2) (oi := ⟨_, _, _, _, _, _⟩) (v := ?_) rfl (by decide +kernel) (fun _ _ _ h => h) (Or.inl ⟨by rfl, ?_⟩) (fun _ => hS) ?_
        rotate_left
        focus (intro w _; go_simp; (try with_reducible rfl); done)
        simp only [Act.put, List.setIfInBounds_toArray, List.set_cons_zero, List.set_cons_succ]
        refine wpAnyZ_take (i := 3) (oi := ⟨_, _, _, _, _, _⟩) (v := ?_) rfl (by decide +kernel) (fun _ _ _ h => h) (Or.inl ⟨by rfl, ?_⟩) hS ?_
        rotate_left
        focus (intro w hSw; (try dsimp only at hSw); (obtain ⟨z0, z1, z2, z3⟩ := chk_load hSw; clear hSw); go_simp; (try with_reducible rfl); done)
        simp only [Act.put, List.setIfInBounds_toArray, List.set_cons_zero, List.set_cons_succ]
        refine wpAnyZ_take0 (i := 4) (oi := ⟨_, _, _, _, _, _⟩) (v := ?_) rfl (by decide +kernel) (fun _ _ _ h => h) (Or.inl ⟨by rfl, ?_⟩) (fun _ => hS) ?_
        rotate_left
        focus (intro w _; go_simp; (try with_reducible rfl); done)
        simp only [Act.put, List.setIfInBounds_toArray, List.set_cons_zero, List.set_cons_succ]
        refine wpAnyZ_take0 (i := 5) (oi := ⟨_, _, _, _, _, _⟩) (v := ?_) rfl (by decide +kernel) (fun _ _ _ h => h) (Or.inl ⟨by rfl, ?_⟩) (fun _ => hS) ?_
        rotate_left
        focus (intro w _; go_simp; (try with_reducible rfl); done)
        simp only [Act.put, List.setIfInBounds_toArray, List.set_cons_zero, List.set_cons_succ]
        first
          | (refine wpAnyZ_take0 (i := 6) (oi := ⟨_, _, _, _, _, _⟩) (v := undef) rfl (by decide +kernel) (fun _ _ _ h => h) (Or.inr ⟨by rfl, rfl⟩) (fun _ => hS) ?_)
          | (refine wpAnyZ_take0 (i := 6) (oi := ⟨_, _, _, _, _, _⟩) (v := ?_) rfl (by decide +kernel) (fun _ _ _ h => h) (Or.inl ⟨by rfl, ?_⟩) (fun _ => hS) ?_; rotate_left; focus (intro w hSw; go_simp; (try with_reducible rfl); done))
        simp only [Act.put, List.setIfInBounds_toArray, List.set_cons_zero, List.set_cons_succ]
        first
          | (refine wpAnyZ_take0 (i := 7) (oi := ⟨_, _, _, _, _, _⟩) (v := undef) rfl (by decide +kernel) (fun _ _ _ h => h) (Or.inr ⟨by rfl, rfl⟩) (fun _ => hS) ?_)
          | (refine wpAnyZ_take0 (i := 7) (oi := ⟨_, _, _, _, _, _⟩) (v := ?_) rfl (by decide +kernel) (fun _ _ _ h => h) (Or.inl ⟨by rfl, ?_⟩) (fun _ => hS) ?_; rotate_left; focus (intro w hSw; go_simp; (try with_reducible rfl); done))
        simp only [Act.put, List.setIfInBounds_toArray, List.set_cons_zero, List.set_cons_succ]
        first
          | (refine wpAnyZ_take0 (i := 8) (oi := ⟨_, _, _, _, _, _⟩) (v := undef) rfl (by decide +kernel) (fun _ _ _ h => h) (Or.inr ⟨by rfl, rfl⟩) (fun _ => hS) ?_)
          | (refine wpAnyZ_take0 (i := 8) (oi := ⟨_, _, _, _, _, _⟩) (v := ?_) rfl (by decide +kernel) (fun _ _ _ h => h) (Or.inl ⟨by rfl, ?_⟩) (fun _ => hS) ?_; rotate_left; focus (intro w hSw; go_simp; (try with_reducible rfl); done))
        simp only [Act.put, List.setIfInBounds_toArray, List.set_cons_zero, List.set_cons_succ]
        refine wpAnyZ_take0 (i := 9) (oi := ⟨_, _, _, _, _, _⟩) (v := ?_) rfl (by decide +kernel) (fun _ _ _ h => h) (Or.inl ⟨by rfl, ?_⟩) (fun _ => hS) ?_
        rotate_left
        focus (intro w _; go_simp; (try with_reducible rfl); done)
        simp only [Act.put, List.setIfInBounds_toArray, List.set_cons_zero, List.set_cons_succ]
        refine wpAnyZ_take0 (i := 10) (oi := ⟨_, _, _, _, _, _⟩) (v := ?_) rfl (by decide +kernel) (fun _ _ _ h => h) (Or.inl ⟨by rfl, ?_⟩) (fun _ => hS) ?_
        rotate_left
        focus (intro w _; go_simp; (try with_reducible rfl); done)
        simp only [Act.put, List.setIfInBounds_toArray, List.set_cons_zero, List.set_cons_succ]
        first
          | (refine wpAnyZ_take0 (i := 11) (oi := ⟨_, _, _, _, _, _⟩) (v := undef) rfl (by decide +kernel) (fun _ _ _ h => h) (Or.inr ⟨by rfl, rfl⟩) (fun _ => hS) ?_)
          | (refine wpAnyZ_take0 (i := 11) (oi := ⟨_, _, _, _, _, _⟩) (v := ?_) rfl (by decide +kernel) (fun _ _ _ h => h) (Or.inl ⟨by rfl, ?_⟩) (fun _ => hS) ?_; rotate_left; focus (intro w hSw; go_simp; (try with_reducible rfl); done))
        simp only [Act.put, List.setIfInBounds_toArray, List.set_cons_zero, List.set_cons_succ]
        first
          | (refine wpAnyZ_take0 (i := 12) (oi := ⟨_, _, _, _, _, _⟩) (v := undef) rfl (by decide +kernel) (fun _ _ _ h => h) (Or.inr ⟨by rfl, rfl⟩) (fun _ => hS) ?_)
          | (refine wpAnyZ_take0 (i := 12) (oi := ⟨_, _, _, _, _, _⟩) (v := ?_) rfl (by decide +kernel) (fun _ _ _ h => h) (Or.inl ⟨by rfl, ?_⟩) (fun _ => hS) ?_; rotate_left; focus (intro w hSw; go_simp; (try with_reducible rfl); done))
        simp only [Act.put, List.setIfInBounds_toArray, List.set_cons_zero, List.set_cons_succ]
        first
          | (refine wpAnyZ_take0 (i := 13) (oi := ⟨_, _, _, _, _, _⟩) (v := undef) rfl (by decide +kernel) (fun _ _ _ h => h) (Or.inr ⟨by rfl, rfl⟩) (fun _ => hS) ?_)
          | (refine wpAnyZ_take0 (i := 13) (oi := ⟨_, _, _, _, _, _⟩) (v := ?_) rfl (by decide +kernel) (fun _ _ _ h => h) (Or.inl ⟨by rfl, ?_⟩) (fun _ => hS) ?_; rotate_left; focus (intro w hSw; go_simp; (try with_reducible rfl); done))
        simp only [Act.put, List.setIfInBounds_toArray, List.set_cons_zero, List.set_cons_succ]
        first
          | (refine wpAnyZ_take (i := 14) (oi := ⟨_, _, _, _, _, _⟩) (v := undef) rfl (by decide +kernel) (fun _ _ _ h => h) (Or.inr ⟨by rfl, rfl⟩) hS ?_)
          | (refine wpAnyZ_take (i := 14) (oi := ⟨_, _, _, _, _, _⟩) (v := ?_) rfl (by decide +kernel) (fun _ _ _ h => h) (Or.inl ⟨by rfl, ?_⟩) hS ?_; rotate_left; focus (intro w hSw; (try dsimp only at hSw); (obtain ⟨z0, z1, z2, z3⟩ := chk_load hSw; clear hSw); go_simp; (try with_reducible rfl); done))
        simp only [Act.put, List.setIfInBounds_toArray, List.set_cons_zero, List.set_cons_succ]
        first
          | (refine wpAnyZ_take0 (i := 15) (oi := ⟨_, _, _, _, _, _⟩) (v := undef) rfl (by decide +kernel) (fun _ _ _ h => h) (Or.inr ⟨by rfl, rfl⟩) (fun _ => hS) ?_)
          | (refine wpAnyZ_take0 (i := 15) (oi := ⟨_, _, _, _, _, _⟩) (v := ?_) rfl (by decide +kernel) (fun _ _ _ h => h) (Or.inl ⟨by rfl, ?_⟩) (fun _ => hS) ?_; rotate_left; focus (intro w hSw; go_simp; (try with_reducible rfl); done))
        simp only [Act.put, List.setIfInBounds_toArray, List.set_cons_zero, List.set_cons_succ]
        first
          | (refine wpAnyZ_take0 (i := 16) (oi := ⟨_, _, _, _, _, _⟩) (v := undef) rfl (by decide +kernel) (fun _ _ _ h => h) (Or.inr ⟨by rfl, rfl⟩) (fun _ => hS) ?_)
          | (refine wpAnyZ_take0 (i := 16) (oi := ⟨_, _, _, _, _, _⟩) (v := ?_) rfl (by decide +kernel) (fun _ _ _ h => h) (Or.inl ⟨by rfl, ?_⟩) (fun _ => hS) ?_; rotate_left; focus (intro w hSw; go_simp; (try with_reducible rfl); done))
        simp only [Act.put, List.setIfInBounds_toArray, List.set_cons_zero, List.set_cons_succ]
        first
          | (refine wpAnyZ_take0 (i := 17) (oi := ⟨_, _, _, _, _, _⟩) (v := undef) rfl (by decide +kernel) (fun _ _ _ h => h) (Or.inr ⟨by rfl, rfl⟩) (fun _ => hS) ?_)
          | (refine wpAnyZ_take0 (i := 17) (oi := ⟨_, _, _, _, _, _⟩) (v := ?_) rfl (by decide +kernel) (fun _ _ _ h => h) (Or.inl ⟨by rfl, ?_⟩) (fun _ => hS) ?_; rotate_left; focus (intro w hSw; go_simp; (try with_reducible rfl); done))
        simp only [Act.put, List.setIfInBounds_toArray, List.set_cons_zero, List.set_cons_succ]
        first
          | (refine wpAnyZ_take (i := 18) (oi := ⟨_, _, _, _, _, _⟩) (v := undef) rfl (by decide +kernel) (fun _ _ _ h => h) (Or.inr ⟨by rfl, rfl⟩) hS ?_)
          | (refine wpAnyZ_take (i := 18) (oi := ⟨_, _, _, _, _, _⟩) (v := ?_) rfl (by decide +kernel) (fun _ _ _ h => h) (Or.inl ⟨by rfl, ?_⟩) hS ?_; rotate_left; focus (intro w hSw; (try dsimp only at hSw); (obtain ⟨z0, z1, z2, z3⟩ := chk_load hSw; clear hSw); go_simp; (try with_reducible rfl); done))
        simp only [Act.put, List.setIfInBounds_toArray, List.set_cons_zero, List.set_cons_succ]
        first
          | (refine wpAnyZ_take0 (i := 19) (oi := ⟨_, _, _, _, _, _⟩) (v := undef) rfl (by decide +kernel) (fun _ _ _ h => h) (Or.inr ⟨by rfl, rfl⟩) (fun _ => hS) ?_)
          | (refine wpAnyZ_take0 (i := 19) (oi := ⟨_, _, _, _, _, _⟩) (v := ?_) rfl (by decide +kernel) (fun _ _ _ h => h) (Or.inl ⟨by rfl, ?_⟩) (fun _ => hS) ?_; rotate_left; focus (intro w hSw; go_simp; (try with_reducible rfl); done))
        simp only [Act.put, List.setIfInBounds_toArray, List.set_cons_zero, List.set_cons_succ]
        refine wpAnyZ_take0 (i := 20) (oi := ⟨_, _, _, _, _, _⟩) (v := ?_) rfl (by decide +kernel) (fun _ _ _ h => h) (Or.inl ⟨by rfl, ?_⟩) (fun _ => hS) ?_
        rotate_left
        focus (intro w _; go_simp; (try with_reducible rfl); done)
        simp only [Act.put, List.setIfInBounds_toArray, List.set_cons_zero, List.set_cons_succ]
        refine wpAnyZ_done (by decide +kernel) ?_
        go_wp2_with fail
        go_ret
        rw [hck.out]
        rw [hw64]
        exact ⟨rfl, (heap_setCell_same w1 g 2 _ _ _ HS1.out).trans rfl, grown_drew (grown_trans (grown_of_below HB1.out _) (grown_cell _))⟩
    | cons p r =>
      subst hpe
      obtain ⟨k, rfl⟩ : ∃ k, n1 = k + 1 := ⟨r.length, by have := hpl.out; simp at this; omega⟩
      obtain ⟨pk, hpk⟩ : ∃ pk, Hd ((p :: r)[k]? = some pk) := ⟨(p :: r)[k]'(by have := hpl.out; omega), ⟨List.getElem?_eq_getElem _⟩⟩
      have hlk : Hd (lastD (p :: r) last = pk.1) := ⟨by rw [lastD, if_neg (by simp)]; exact lastKey_get hpl.out hpk.out⟩
      obtain ⟨ad, rfl, q0, q1⟩ := RdK.get (k := 0) (p := p) (Own.rd HO1.out) rfl
      obtain ⟨ad', hade, q2, -⟩ := RdK.get (Own.rd HO1.out) hpk.out
      obtain rfl : ad = ad' := by injection hade
      have q0' : w1.cell? ad = some (.string p.1) := by simpa [Addr.add] using q0
      have i1 : ((k + 1 : Nat) : Int) > 0 := by omega
      have i2 : IntKind.i64.wrap (((k + 1 : Nat) : Int) - 1) = (k : Int) := by rw [IntKind.wrap_i64]; omega
      have i3 : (k : Int) < ((k + 1 : Nat) : Int) := by omega
      have i4 : (0 : Int) ≤ (k : Int) := by omega
      have hnf : Hd (many + (k + 1) ≤ 4194304 + 257) := ⟨by have := hmb.out; omega⟩
      have i5 : IntKind.i64.wrap ((many : Int) + ((k + 1 : Nat) : Int)) = ((many + (k + 1) : Nat) : Int) := by rw [IntKind.wrap_i64]; have := hnf.out; omega
      by_cases hfi : level ≠ -1 ∧ p.1 ≠ first
      · have hck : Hd (checkK l kind (f + 1) number level first (many, last) = ((many, last), 202)) := ⟨checkK_first hr.out hfi⟩
        have e1 : (level != -1) = true := by simp; exact hfi.1
        have e2 : (p.1.toList == first.toList) = false := by rw [beq_eq_false_iff_ne]; exact fun e => hfi.2 (key_ext e)
        clear hfi HIH hml hf
        go_wp2_with fail
        go_ret
        rw [hck.out]
        exact ⟨rfl, HS1.out, grown_of_below HB1.out _⟩
      have hfi' := Hd.mk hfi
      have hways : (level != -1) = false ∨ ((level != -1) = true ∧ (p.1.toList == first.toList) = true) := by
        by_cases h1 : level = -1
        · left; simp [h1]
        · right
          refine ⟨by simpa using h1, ?_⟩
          by_cases h2 : p.1 = first
          · simp [h2]
          · exact absurd ⟨h1, h2⟩ hfi
      clear hfi
      by_cases hmz : m = 0
      · subst hmz
        have hob : ad.block ≠ g := by
          have h1 := Own.lt HO1.out (g := ad.block) (by have := HO1.out.2.1; simp [ownBlk]; omega)
          have := hgl.out
          omega
        have q2' : ∀ v, (w1.setCell ⟨g, 2, none⟩ v).cell? (ad.add (k * 2)) = some (.string pk.1) := fun v => (World.cell?_of_block (heap_setCell_other w1 ⟨g, 2, none⟩ (ad.add (k * 2)).block v (by rw [block_add]; exact hob))).trans q2
        by_cases hbad : 0 < many ∧ leK p.1 last = true
        · have hck : Hd (checkK l kind (f + 1) number level first (many, last) = ((many, last), 202)) := ⟨checkK_bad hr.out hfi'.out hbad⟩
          have c1 : decide ((many : Int) > 0) = true := by simp; omega
          have c2 : decide (0 < (many : Int)) = true := by simp; omega
          have c3 : decide (0 < many) = true := by simp; omega
          have c4 : (Op.bytesLess p.1.toList last.toList || p.1.toList == last.toList) = true := hbad.2
          clear hbad HIH hml hf hfi'
          rcases hways with e1 | ⟨e1, e2⟩
          all_goals
            go_wp2_with fail
            refine region_zone 21 [false, false, false, false, false, false, false, false, false, false, false, false, false, false, false, false, false, false, false, false, false] (by kernel_rfl) (by kernel_rfl) hmix (fun w' => w'.heap[g]? = some (.cells #[.slice A n c, .int .u8 (kind.toNat : Int), .int .i64 (many : Int), .string last] 161 (0, 0)) ∧ w'.cell? ad = some (.string p.1)) [] ?_ (fun hS => ?_)
            · exact ⟨HS1.out, q0'⟩
            refine wpAnyZ_take0 (i := 0) (oi := ⟨_, _, _, _, _, _⟩) (v := ?_) rfl (by decide +kernel) (fun _ _ _ h => h) (Or.inl ⟨by rfl, ?_⟩) (fun _ => hS) ?_
            rotate_left
            focus (intro w _; go_simp; (try with_reducible rfl); done)
            simp only [Act.put, List.setIfInBounds_toArray, List.set_cons_zero, List.set_cons_succ]
            refine wpAnyZ_take0 (i := 1) (oi := ⟨_, _, _, _, _, _⟩) (v := ?_) rfl (by decide +kernel) (fun _ _ _ h => h) (Or.inl ⟨by rfl, ?_⟩) (fun _ => hS) ?_
            rotate_left
            focus (intro w _; go_simp; (try with_reducible rfl); done)
            simp only [Act.put, List.setIfInBounds_toArray, List.set_cons_zero, List.set_cons_succ]
            refine wpAnyZ_take0 (i := 2) (oi := ⟨_, _, _, _, _, _⟩) (v := ?_) rfl (by decide +kernel) (fun _ _ _ h => h) (Or.inl ⟨by rfl, ?_⟩) (fun _ => hS) ?_
            rotate_left
            focus (intro w _; go_simp; (try with_reducible rfl); done)
            simp only [Act.put, List.setIfInBounds_toArray, List.set_cons_zero, List.set_cons_succ]
            refine wpAnyZ_take (i := 3) (oi := ⟨_, _, _, _, _, _⟩) (v := ?_) rfl (by decide +kernel) (fun _ _ _ h => h) (Or.inl ⟨by rfl, ?_⟩) hS ?_
            rotate_left
            focus (intro w hSw; (try dsimp only at hSw); (obtain ⟨hS0, y0⟩ := hSw; obtain ⟨z0, z1, z2, z3⟩ := chk_load hS0; clear hS0); go_simp; (try with_reducible rfl); done)
            simp only [Act.put, List.setIfInBounds_toArray, List.set_cons_zero, List.set_cons_succ]
            refine wpAnyZ_take0 (i := 4) (oi := ⟨_, _, _, _, _, _⟩) (v := ?_) rfl (by decide +kernel) (fun _ _ _ h => h) (Or.inl ⟨by rfl, ?_⟩) (fun _ => hS) ?_
            rotate_left
            focus (intro w _; go_simp; (try with_reducible rfl); done)
            simp only [Act.put, List.setIfInBounds_toArray, List.set_cons_zero, List.set_cons_succ]
            refine wpAnyZ_take0 (i := 5) (oi := ⟨_, _, _, _, _, _⟩) (v := ?_) rfl (by decide +kernel) (fun _ _ _ h => h) (Or.inl ⟨by rfl, ?_⟩) (fun _ => hS) ?_
            rotate_left
            focus (intro w _; go_simp; (try with_reducible rfl); done)
            simp only [Act.put, List.setIfInBounds_toArray, List.set_cons_zero, List.set_cons_succ]
            first
              | (refine wpAnyZ_take0 (i := 6) (oi := ⟨_, _, _, _, _, _⟩) (v := undef) rfl (by decide +kernel) (fun _ _ _ h => h) (Or.inr ⟨by rfl, rfl⟩) (fun _ => hS) ?_)
              | (refine wpAnyZ_take0 (i := 6) (oi := ⟨_, _, _, _, _, _⟩) (v := ?_) rfl (by decide +kernel) (fun _ _ _ h => h) (Or.inl ⟨by rfl, ?_⟩) (fun _ => hS) ?_; rotate_left; focus (intro w hSw; go_simp; (try with_reducible rfl); done))
            simp only [Act.put, List.setIfInBounds_toArray, List.set_cons_zero, List.set_cons_succ]
            first
              | (refine wpAnyZ_take0 (i := 7) (oi := ⟨_, _, _, _, _, _⟩) (v := undef) rfl (by decide +kernel) (fun _ _ _ h => h) (Or.inr ⟨by rfl, rfl⟩) (fun _ => hS) ?_)
              | (refine wpAnyZ_take0 (i := 7) (oi := ⟨_, _, _, _, _, _⟩) (v := ?_) rfl (by decide +kernel) (fun _ _ _ h => h) (Or.inl ⟨by rfl, ?_⟩) (fun _ => hS) ?_; rotate_left; focus (intro w hSw; go_simp; (try with_reducible rfl); done))
            simp only [Act.put, List.setIfInBounds_toArray, List.set_cons_zero, List.set_cons_succ]
            first
              | (refine wpAnyZ_take0 (i := 8) (oi := ⟨_, _, _, _, _, _⟩) (v := undef) rfl (by decide +kernel) (fun _ _ _ h => h) (Or.inr ⟨by rfl, rfl⟩) (fun _ => hS) ?_)
              | (refine wpAnyZ_take0 (i := 8) (oi := ⟨_, _, _, _, _, _⟩) (v := ?_) rfl (by decide +kernel) (fun _ _ _ h => h) (Or.inl ⟨by rfl, ?_⟩) (fun _ => hS) ?_; rotate_left; focus (intro w hSw; go_simp; (try with_reducible rfl); done))
            simp only [Act.put, List.setIfInBounds_toArray, List.set_cons_zero, List.set_cons_succ]
            refine wpAnyZ_take0 (i := 9) (oi := ⟨_, _, _, _, _, _⟩) (v := ?_) rfl (by decide +kernel) (fun _ _ _ h => h) (Or.inl ⟨by rfl, ?_⟩) (fun _ => hS) ?_
            rotate_left
            focus (intro w _; go_simp; (try with_reducible rfl); done)
            simp only [Act.put, List.setIfInBounds_toArray, List.set_cons_zero, List.set_cons_succ]
            refine wpAnyZ_take0 (i := 10) (oi := ⟨_, _, _, _, _, _⟩) (v := ?_) rfl (by decide +kernel) (fun _ _ _ h => h) (Or.inl ⟨by rfl, ?_⟩) (fun _ => hS) ?_
            rotate_left
            focus (intro w _; go_simp; (try with_reducible rfl); done)
            simp only [Act.put, List.setIfInBounds_toArray, List.set_cons_zero, List.set_cons_succ]
            first
              | (refine wpAnyZ_take0 (i := 11) (oi := ⟨_, _, _, _, _, _⟩) (v := undef) rfl (by decide +kernel) (fun _ _ _ h => h) (Or.inr ⟨by rfl, rfl⟩) (fun _ => hS) ?_)
              | (refine wpAnyZ_take0 (i := 11) (oi := ⟨_, _, _, _, _, _⟩) (v := ?_) rfl (by decide +kernel) (fun _ _ _ h => h) (Or.inl ⟨by rfl, ?_⟩) (fun _ => hS) ?_; rotate_left; focus (intro w hSw; go_simp; (try with_reducible rfl); done))
            simp only [Act.put, List.setIfInBounds_toArray, List.set_cons_zero, List.set_cons_succ]
            first
              | (refine wpAnyZ_take0 (i := 12) (oi := ⟨_, _, _, _, _, _⟩) (v := undef) rfl (by decide +kernel) (fun _ _ _ h => h) (Or.inr ⟨by rfl, rfl⟩) (fun _ => hS) ?_)
              | (refine wpAnyZ_take0 (i := 12) (oi := ⟨_, _, _, _, _, _⟩) (v := ?_) rfl (by decide +kernel) (fun _ _ _ h => h) (Or.inl ⟨by rfl, ?_⟩) (fun _ => hS) ?_; rotate_left; focus (intro w hSw; go_simp; (try with_reducible rfl); done))
            simp only [Act.put, List.setIfInBounds_toArray, List.set_cons_zero, List.set_cons_succ]
            first
              | (refine wpAnyZ_take0 (i := 13) (oi := ⟨_, _, _, _, _, _⟩) (v := undef) rfl (by decide +kernel) (fun _ _ _ h => h) (Or.inr ⟨by rfl, rfl⟩) (fun _ => hS) ?_)
              | (refine wpAnyZ_take0 (i := 13) (oi := ⟨_, _, _, _, _, _⟩) (v := ?_) rfl (by decide +kernel) (fun _ _ _ h => h) (Or.inl ⟨by rfl, ?_⟩) (fun _ => hS) ?_; rotate_left; focus (intro w hSw; go_simp; (try with_reducible rfl); done))
            simp only [Act.put, List.setIfInBounds_toArray, List.set_cons_zero, List.set_cons_succ]
            first
              | (refine wpAnyZ_take (i := 14) (oi := ⟨_, _, _, _, _, _⟩) (v := undef) rfl (by decide +kernel) (fun _ _ _ h => h) (Or.inr ⟨by rfl, rfl⟩) hS ?_)
              | (refine wpAnyZ_take (i := 14) (oi := ⟨_, _, _, _, _, _⟩) (v := ?_) rfl (by decide +kernel) (fun _ _ _ h => h) (Or.inl ⟨by rfl, ?_⟩) hS ?_; rotate_left; focus (intro w hSw; (try dsimp only at hSw); (obtain ⟨hS0, y0⟩ := hSw; obtain ⟨z0, z1, z2, z3⟩ := chk_load hS0; clear hS0); go_simp; (try with_reducible rfl); done))
            simp only [Act.put, List.setIfInBounds_toArray, List.set_cons_zero, List.set_cons_succ]
            first
              | (refine wpAnyZ_take0 (i := 15) (oi := ⟨_, _, _, _, _, _⟩) (v := undef) rfl (by decide +kernel) (fun _ _ _ h => h) (Or.inr ⟨by rfl, rfl⟩) (fun _ => hS) ?_)
              | (refine wpAnyZ_take0 (i := 15) (oi := ⟨_, _, _, _, _, _⟩) (v := ?_) rfl (by decide +kernel) (fun _ _ _ h => h) (Or.inl ⟨by rfl, ?_⟩) (fun _ => hS) ?_; rotate_left; focus (intro w hSw; go_simp; (try with_reducible rfl); done))
            simp only [Act.put, List.setIfInBounds_toArray, List.set_cons_zero, List.set_cons_succ]
            first
              | (refine wpAnyZ_take0 (i := 16) (oi := ⟨_, _, _, _, _, _⟩) (v := undef) rfl (by decide +kernel) (fun _ _ _ h => h) (Or.inr ⟨by rfl, rfl⟩) (fun _ => hS) ?_)
              | (refine wpAnyZ_take0 (i := 16) (oi := ⟨_, _, _, _, _, _⟩) (v := ?_) rfl (by decide +kernel) (fun _ _ _ h => h) (Or.inl ⟨by rfl, ?_⟩) (fun _ => hS) ?_; rotate_left; focus (intro w hSw; go_simp; (try with_reducible rfl); done))
            simp only [Act.put, List.setIfInBounds_toArray, List.set_cons_zero, List.set_cons_succ]
            first
              | (refine wpAnyZ_take0 (i := 17) (oi := ⟨_, _, _, _, _, _⟩) (v := undef) rfl (by decide +kernel) (fun _ _ _ h => h) (Or.inr ⟨by rfl, rfl⟩) (fun _ => hS) ?_)
              | (refine wpAnyZ_take0 (i := 17) (oi := ⟨_, _, _, _, _, _⟩) (v := ?_) rfl (by decide +kernel) (fun _ _ _ h => h) (Or.inl ⟨by rfl, ?_⟩) (fun _ => hS) ?_; rotate_left; focus (intro w hSw; go_simp; (try with_reducible rfl); done))
            simp only [Act.put, List.setIfInBounds_toArray, List.set_cons_zero, List.set_cons_succ]
            first
              | (refine wpAnyZ_take (i := 18) (oi := ⟨_, _, _, _, _, _⟩) (v := undef) rfl (by decide +kernel) (fun _ _ _ h => h) (Or.inr ⟨by rfl, rfl⟩) hS ?_)
              | (refine wpAnyZ_take (i := 18) (oi := ⟨_, _, _, _, _, _⟩) (v := ?_) rfl (by decide +kernel) (fun _ _ _ h => h) (Or.inl ⟨by rfl, ?_⟩) hS ?_; rotate_left; focus (intro w hSw; (try dsimp only at hSw); (obtain ⟨hS0, y0⟩ := hSw; obtain ⟨z0, z1, z2, z3⟩ := chk_load hS0; clear hS0); go_simp; (try with_reducible rfl); done))
            simp only [Act.put, List.setIfInBounds_toArray, List.set_cons_zero, List.set_cons_succ]
            first
              | (refine wpAnyZ_take0 (i := 19) (oi := ⟨_, _, _, _, _, _⟩) (v := undef) rfl (by decide +kernel) (fun _ _ _ h => h) (Or.inr ⟨by rfl, rfl⟩) (fun _ => hS) ?_)
              | (refine wpAnyZ_take0 (i := 19) (oi := ⟨_, _, _, _, _, _⟩) (v := ?_) rfl (by decide +kernel) (fun _ _ _ h => h) (Or.inl ⟨by rfl, ?_⟩) (fun _ => hS) ?_; rotate_left; focus (intro w hSw; go_simp; (try with_reducible rfl); done))
            simp only [Act.put, List.setIfInBounds_toArray, List.set_cons_zero, List.set_cons_succ]
            refine wpAnyZ_take0 (i := 20) (oi := ⟨_, _, _, _, _, _⟩) (v := ?_) rfl (by decide +kernel) (fun _ _ _ h => h) (Or.inl ⟨by rfl, ?_⟩) (fun _ => hS) ?_
            rotate_left
            focus (intro w _; go_simp; (try with_reducible rfl); done)
            simp only [Act.put, List.setIfInBounds_toArray, List.set_cons_zero, List.set_cons_succ]
            refine wpAnyZ_done (by decide +kernel) ?_
            go_wp2_with fail
            go_ret
            rw [hck.out]
            exact ⟨rfl, HS1.out, grown_drew (grown_of_below HB1.out _)⟩
        · have hck : Hd (checkK l kind (f + 1) number level first (many, last) = ((many + (k + 1), pk.1), 0)) := ⟨by rw [checkK_leaf hr.out hfi'.out hbad, hlk.out, hpl.out]⟩
          have hc4 : (decide ((many : Int) > 0) = false ∧ decide (0 < (many : Int)) = false ∧ decide (0 < many) = false) ∨ ((decide ((many : Int) > 0) = true ∧ decide (0 < (many : Int)) = true ∧ decide (0 < many) = true) ∧ (Op.bytesLess p.1.toList last.toList || p.1.toList == last.toList) = false) := by
            by_cases h0 : 0 < many
            · right
              refine ⟨⟨by simp; omega, by simp; omega, by simp; omega⟩, ?_⟩
              cases h4 : leK p.1 last
              · exact h4
              · exact absurd ⟨h0, h4⟩ hbad
            · left; exact ⟨by simp; omega, by simp; omega, by simp; omega⟩
          clear hbad HIH hml hf hfi'
          have hw6 : wrap64 ((many : Int) + ((k : Int) + 1)) = ((many + (k + 1) : Nat) : Int) := by have := hnf.out; unfold wrap64; omega
          rcases hways with e1 | ⟨e1, e2⟩
          all_goals
            rcases hc4 with ⟨c1, c2, c3⟩ | ⟨⟨c1, c2, c3⟩, c4⟩
            all_goals
              go_wp2_with fail
              refine region_zone 21 [false, false, false, false, false, false, false, false, false, false, false, false, false, false, false, false, false, false, false, false, false] (by kernel_rfl) (by kernel_rfl) hmix (fun w' => w'.heap[g]? = some (.cells #[.slice A n c, .int .u8 (kind.toNat : Int), .int .i64 (many : Int), .string last] 161 (0, 0)) ∧ w'.cell? ad = some (.string p.1)) [] ?_ (fun hS => ?_)
              · exact ⟨HS1.out, q0'⟩
              refine wpAnyZ_take0 (i := 0) (oi := ⟨_, _, _, _, _, _⟩) (v := ?_) rfl (by decide +kernel) (fun _ _ _ h => h) (Or.inl ⟨by rfl, ?_⟩) (fun _ => hS) ?_
              rotate_left
              focus (intro w _; go_simp; (try with_reducible rfl); done)
              simp only [Act.put, List.setIfInBounds_toArray, List.set_cons_zero, List.set_cons_succ]
              refine wpAnyZ_take0 (i := 1) (oi := ⟨_, _, _, _, _, _⟩) (v := ?_) rfl (by decide +kernel) (fun _ _ _ h => h) (Or.inl ⟨by rfl, ?_⟩) (fun _ => hS) ?_
              rotate_left
              focus (intro w _; go_simp; (try with_reducible rfl); done)
              simp only [Act.put, List.setIfInBounds_toArray, List.set_cons_zero, List.set_cons_succ]
              refine wpAnyZ_take0 (i := 2) (oi := ⟨_, _, _, _, _, _⟩) (v := ?_) rfl (by decide +kernel) (fun _ _ _ h => h) (Or.inl ⟨by rfl, ?_⟩) (fun _ => hS) ?_
              rotate_left
              focus (intro w _; go_simp; (try with_reducible rfl); done)
              simp only [Act.put, List.setIfInBounds_toArray, List.set_cons_zero, List.set_cons_succ]
              refine wpAnyZ_take (i := 3) (oi := ⟨_, _, _, _, _, _⟩) (v := ?_) rfl (by decide +kernel) (fun _ _ _ h => h) (Or.inl ⟨by rfl, ?_⟩) hS ?_
              rotate_left
              focus (intro w hSw; (try dsimp only at hSw); (obtain ⟨hS0, y0⟩ := hSw; obtain ⟨z0, z1, z2, z3⟩ := chk_load hS0; clear hS0); go_simp; (try with_reducible rfl); done)
              simp only [Act.put, List.setIfInBounds_toArray, List.set_cons_zero, List.set_cons_succ]
              refine wpAnyZ_take0 (i := 4) (oi := ⟨_, _, _, _, _, _⟩) (v := ?_) rfl (by decide +kernel) (fun _ _ _ h => h) (Or.inl ⟨by rfl, ?_⟩) (fun _ => hS) ?_
              rotate_left
              focus (intro w _; go_simp; (try with_reducible rfl); done)
              simp only [Act.put, List.setIfInBounds_toArray, List.set_cons_zero, List.set_cons_succ]
              refine wpAnyZ_take0 (i := 5) (oi := ⟨_, _, _, _, _, _⟩) (v := ?_) rfl (by decide +kernel) (fun _ _ _ h => h) (Or.inl ⟨by rfl, ?_⟩) (fun _ => hS) ?_
              rotate_left
              focus (intro w _; go_simp; (try with_reducible rfl); done)
              simp only [Act.put, List.setIfInBounds_toArray, List.set_cons_zero, List.set_cons_succ]
              first
                | (refine wpAnyZ_take0 (i := 6) (oi := ⟨_, _, _, _, _, _⟩) (v := undef) rfl (by decide +kernel) (fun _ _ _ h => h) (Or.inr ⟨by rfl, rfl⟩) (fun _ => hS) ?_)
                | (refine wpAnyZ_take0 (i := 6) (oi := ⟨_, _, _, _, _, _⟩) (v := ?_) rfl (by decide +kernel) (fun _ _ _ h => h) (Or.inl ⟨by rfl, ?_⟩) (fun _ => hS) ?_; rotate_left; focus (intro w hSw; go_simp; (try with_reducible rfl); done))
              simp only [Act.put, List.setIfInBounds_toArray, List.set_cons_zero, List.set_cons_succ]
              first
                | (refine wpAnyZ_take0 (i := 7) (oi := ⟨_, _, _, _, _, _⟩) (v := undef) rfl (by decide +kernel) (fun _ _ _ h => h) (Or.inr ⟨by rfl, rfl⟩) (fun _ => hS) ?_)
                | (refine wpAnyZ_take0 (i := 7) (oi := ⟨_, _, _, _, _, _⟩) (v := ?_) rfl (by decide +kernel) (fun _ _ _ h => h) (Or.inl ⟨by rfl, ?_⟩) (fun _ => hS) ?_; rotate_left; focus (intro w hSw; go_simp; (try with_reducible rfl); done))
              simp only [Act.put, List.setIfInBounds_toArray, List.set_cons_zero, List.set_cons_succ]
              first
                | (refine wpAnyZ_take0 (i := 8) (oi := ⟨_, _, _, _, _, _⟩) (v := undef) rfl (by decide +kernel) (fun _ _ _ h => h) (Or.inr ⟨by rfl, rfl⟩) (fun _ => hS) ?_)
                | (refine wpAnyZ_take0 (i := 8) (oi := ⟨_, _, _, _, _, _⟩) (v := ?_) rfl (by decide +kernel) (fun _ _ _ h => h) (Or.inl ⟨by rfl, ?_⟩) (fun _ => hS) ?_; rotate_left; focus (intro w hSw; go_simp; (try with_reducible rfl); done))
              simp only [Act.put, List.setIfInBounds_toArray, List.set_cons_zero, List.set_cons_succ]
              refine wpAnyZ_take0 (i := 9) (oi := ⟨_, _, _, _, _, _⟩) (v := ?_) rfl (by decide +kernel) (fun _ _ _ h => h) (Or.inl ⟨by rfl, ?_⟩) (fun _ => hS) ?_
              rotate_left
              focus (intro w _; go_simp; (try with_reducible rfl); done)
              simp only [Act.put, List.setIfInBounds_toArray, List.set_cons_zero, List.set_cons_succ]
              refine wpAnyZ_take0 (i := 10) (oi := ⟨_, _, _, _, _, _⟩) (v := ?_) rfl (by decide +kernel) (fun _ _ _ h => h) (Or.inl ⟨by rfl, ?_⟩) (fun _ => hS) ?_
              rotate_left
              focus (intro w _; go_simp; (try with_reducible rfl); done)
              simp only [Act.put, List.setIfInBounds_toArray, List.set_cons_zero, List.set_cons_succ]
              first
                | (refine wpAnyZ_take0 (i := 11) (oi := ⟨_, _, _, _, _, _⟩) (v := undef) rfl (by decide +kernel) (fun _ _ _ h => h) (Or.inr ⟨by rfl, rfl⟩) (fun _ => hS) ?_)
                | (refine wpAnyZ_take0 (i := 11) (oi := ⟨_, _, _, _, _, _⟩) (v := ?_) rfl (by decide +kernel) (fun _ _ _ h => h) (Or.inl ⟨by rfl, ?_⟩) (fun _ => hS) ?_; rotate_left; focus (intro w hSw; go_simp; (try with_reducible rfl); done))
              simp only [Act.put, List.setIfInBounds_toArray, List.set_cons_zero, List.set_cons_succ]
              first
                | (refine wpAnyZ_take0 (i := 12) (oi := ⟨_, _, _, _, _, _⟩) (v := undef) rfl (by decide +kernel) (fun _ _ _ h => h) (Or.inr ⟨by rfl, rfl⟩) (fun _ => hS) ?_)
                | (refine wpAnyZ_take0 (i := 12) (oi := ⟨_, _, _, _, _, _⟩) (v := ?_) rfl (by decide +kernel) (fun _ _ _ h => h) (Or.inl ⟨by rfl, ?_⟩) (fun _ => hS) ?_; rotate_left; focus (intro w hSw; go_simp; (try with_reducible rfl); done))
              simp only [Act.put, List.setIfInBounds_toArray, List.set_cons_zero, List.set_cons_succ]
              first
                | (refine wpAnyZ_take0 (i := 13) (oi := ⟨_, _, _, _, _, _⟩) (v := undef) rfl (by decide +kernel) (fun _ _ _ h => h) (Or.inr ⟨by rfl, rfl⟩) (fun _ => hS) ?_)
                | (refine wpAnyZ_take0 (i := 13) (oi := ⟨_, _, _, _, _, _⟩) (v := ?_) rfl (by decide +kernel) (fun _ _ _ h => h) (Or.inl ⟨by rfl, ?_⟩) (fun _ => hS) ?_; rotate_left; focus (intro w hSw; go_simp; (try with_reducible rfl); done))
              simp only [Act.put, List.setIfInBounds_toArray, List.set_cons_zero, List.set_cons_succ]
              first
                | (refine wpAnyZ_take (i := 14) (oi := ⟨_, _, _, _, _, _⟩) (v := undef) rfl (by decide +kernel) (fun _ _ _ h => h) (Or.inr ⟨by rfl, rfl⟩) hS ?_)
                | (refine wpAnyZ_take (i := 14) (oi := ⟨_, _, _, _, _, _⟩) (v := ?_) rfl (by decide +kernel) (fun _ _ _ h => h) (Or.inl ⟨by rfl, ?_⟩) hS ?_; rotate_left; focus (intro w hSw; (try dsimp only at hSw); (obtain ⟨hS0, y0⟩ := hSw; obtain ⟨z0, z1, z2, z3⟩ := chk_load hS0; clear hS0); go_simp; (try with_reducible rfl); done))
              simp only [Act.put, List.setIfInBounds_toArray, List.set_cons_zero, List.set_cons_succ]
              first
                | (refine wpAnyZ_take0 (i := 15) (oi := ⟨_, _, _, _, _, _⟩) (v := undef) rfl (by decide +kernel) (fun _ _ _ h => h) (Or.inr ⟨by rfl, rfl⟩) (fun _ => hS) ?_)
                | (refine wpAnyZ_take0 (i := 15) (oi := ⟨_, _, _, _, _, _⟩) (v := ?_) rfl (by decide +kernel) (fun _ _ _ h => h) (Or.inl ⟨by rfl, ?_⟩) (fun _ => hS) ?_; rotate_left; focus (intro w hSw; go_simp; (try with_reducible rfl); done))
              simp only [Act.put, List.setIfInBounds_toArray, List.set_cons_zero, List.set_cons_succ]
              first
                | (refine wpAnyZ_take0 (i := 16) (oi := ⟨_, _, _, _, _, _⟩) (v := undef) rfl (by decide +kernel) (fun _ _ _ h => h) (Or.inr ⟨by rfl, rfl⟩) (fun _ => hS) ?_)
                | (refine wpAnyZ_take0 (i := 16) (oi := ⟨_, _, _, _, _, _⟩) (v := ?_) rfl (by decide +kernel) (fun _ _ _ h => h) (Or.inl ⟨by rfl, ?_⟩) (fun _ => hS) ?_; rotate_left; focus (intro w hSw; go_simp; (try with_reducible rfl); done))
              simp only [Act.put, List.setIfInBounds_toArray, List.set_cons_zero, List.set_cons_succ]
              first
                | (refine wpAnyZ_take0 (i := 17) (oi := ⟨_, _, _, _, _, _⟩) (v := undef) rfl (by decide +kernel) (fun _ _ _ h => h) (Or.inr ⟨by rfl, rfl⟩) (fun _ => hS) ?_)
                | (refine wpAnyZ_take0 (i := 17) (oi := ⟨_, _, _, _, _, _⟩) (v := ?_) rfl (by decide +kernel) (fun _ _ _ h => h) (Or.inl ⟨by rfl, ?_⟩) (fun _ => hS) ?_; rotate_left; focus (intro w hSw; go_simp; (try with_reducible rfl); done))
              simp only [Act.put, List.setIfInBounds_toArray, List.set_cons_zero, List.set_cons_succ]
              first
                | (refine wpAnyZ_take (i := 18) (oi := ⟨_, _, _, _, _, _⟩) (v := undef) rfl (by decide +kernel) (fun _ _ _ h => h) (Or.inr ⟨by rfl, rfl⟩) hS ?_)
                | (refine wpAnyZ_take (i := 18) (oi := ⟨_, _, _, _, _, _⟩) (v := ?_) rfl (by decide +kernel) (fun _ _ _ h => h) (Or.inl ⟨by rfl, ?_⟩) hS ?_; rotate_left; focus (intro w hSw; (try dsimp only at hSw); (obtain ⟨hS0, y0⟩ := hSw; obtain ⟨z0, z1, z2, z3⟩ := chk_load hS0; clear hS0); go_simp; (try with_reducible rfl); done))
              simp only [Act.put, List.setIfInBounds_toArray, List.set_cons_zero, List.set_cons_succ]
              first
                | (refine wpAnyZ_take0 (i := 19) (oi := ⟨_, _, _, _, _, _⟩) (v := undef) rfl (by decide +kernel) (fun _ _ _ h => h) (Or.inr ⟨by rfl, rfl⟩) (fun _ => hS) ?_)
                | (refine wpAnyZ_take0 (i := 19) (oi := ⟨_, _, _, _, _, _⟩) (v := ?_) rfl (by decide +kernel) (fun _ _ _ h => h) (Or.inl ⟨by rfl, ?_⟩) (fun _ => hS) ?_; rotate_left; focus (intro w hSw; go_simp; (try with_reducible rfl); done))
              simp only [Act.put, List.setIfInBounds_toArray, List.set_cons_zero, List.set_cons_succ]
              refine wpAnyZ_take0 (i := 20) (oi := ⟨_, _, _, _, _, _⟩) (v := ?_) rfl (by decide +kernel) (fun _ _ _ h => h) (Or.inl ⟨by rfl, ?_⟩) (fun _ => hS) ?_
              rotate_left
              focus (intro w _; go_simp; (try with_reducible rfl); done)
              simp only [Act.put, List.setIfInBounds_toArray, List.set_cons_zero, List.set_cons_succ]
              refine wpAnyZ_done (by decide +kernel) ?_
              go_wp2_with fail
              go_ret
              rw [hck.out, hw6]
              exact ⟨rfl, (heap_setCell_same _ g 3 _ _ _ (heap_setCell_same w1 g 2 _ _ _ HS1.out)).trans rfl, grown_drew (grown_trans (grown_trans (grown_of_below HB1.out _) (grown_cell _)) (grown_cell _))⟩
      · have hck : Hd (checkK l kind (f + 1) number level first (many, last) = overC (fun n' f' s' => checkK l kind f n' (m - 1) f' s') (p :: r) (many, last)) := ⟨checkK_over hr.out hfi'.out hmz⟩
        have e5 : (m == 0) = false := by simp; omega
        have e6 : IntKind.i64.wrap (m - 1) = m - 1 := by rw [IntKind.wrap_i64]; omega
        have hf2 : m - 1 = -1 ∧ f = 14 ∨ 0 ≤ m - 1 ∧ m - 1 < f ∧ f ≤ 13 := by right; refine ⟨by omega, ?_, by omega⟩; rcases hf with h1 | h1 <;> rcases hml with h2 | h2 <;> omega
        clear hml hf hfi' hmz hnil q1 q2 hlk hpk z0 z1 z2 z3 f2 f3 i1 i2 i3 i4 i5 hnf
        have HG0 := Hd.mk (grown_of_below HB1.out (some g))
        rcases hways with e1 | ⟨e1, e2⟩
        all_goals
          go_wp2_with fail
          go_loopw [90, 13, 14] (fun j _ _ wr => ∃ (i : Nat) (s' : Wk), j = .int .i64 (i : Int) ∧ i ≤ k + 1 ∧ Hd (ChkAt wr g A n c kind s') ∧ Hd (GoodW l kind s') ∧ Hd (w.grownBy wr (some g)) ∧ Hd (OwnK wr w.heap.size (some ad) (k + 1) c1 (p :: r)) ∧ Hd (Rd8 wr A n l) ∧
              Hd (overC (fun n' f' s' => checkK l kind f n' (m - 1) f' s') (p :: r) (many, last) = overC (fun n' f' s' => checkK l kind f n' (m - 1) f' s') ((p :: r).drop i) s'))
            (fun j _ _ _ => k + 1 - (intOf j).toNat)
          case atStart => exact ⟨0, (many, last), rfl, by omega, HS1, HGO, HG0, HO1, HD1, ⟨rfl⟩⟩
          case round =>
            obtain ⟨i, s', rfl, hi, hcs, hgs, hgw, hos, hrs, hov⟩ := hrel
            by_cases hlt : i < k + 1
            · obtain ⟨q, hq⟩ : ∃ q, Hd ((p :: r)[i]? = some q) := ⟨(p :: r)[i]'(by have := hpl.out; omega), ⟨List.getElem?_eq_getElem _⟩⟩
              have hd : Hd ((p :: r).drop i = q :: (p :: r).drop (i + 1)) := ⟨by
                obtain ⟨hk, e⟩ := List.getElem?_eq_some_iff.1 hq.out
                rw [← e]; exact List.drop_eq_getElem_cons hk⟩
              obtain ⟨ad', hade, y0, y1⟩ := RdK.get (Own.rd hos.out) hq.out
              obtain rfl : ad = ad' := by injection hade
              have hqo := hps.out q (List.mem_of_getElem? hq.out)
              have hq0 := hqo.2.1
              have hq1 := hqo.2.2
              obtain ⟨s2, er2, hg2⟩ : ∃ s2 er2, Hd (checkK l kind f q.2 (m - 1) q.1 s' = (s2, er2)) := ⟨_, _, ⟨rfl⟩⟩
              have hov2 : Hd (overC (fun n' f' s' => checkK l kind f n' (m - 1) f' s') (p :: r) (many, last) = if er2 ≠ 0 then (s2, er2) else overC (fun n' f' s' => checkK l kind f n' (m - 1) f' s') ((p :: r).drop (i + 1)) s2) :=
                ⟨by rw [hov.out, hd.out, overC, hg2.out]⟩
              have HC : ∀ W, Below wr.heap.size wr W → Hd (Calls Try.prog 111 #[.pointer (some ⟨g, 0, none⟩), .int .i64 q.2, .int .i64 (m - 1), .string q.1] W fun e w' =>
                  e = .returned (.int .i64 (er2 : Int)) ∧ ChkAt w' g A n c kind s2 ∧ W.grownBy w' (some g)) := fun W hW => ⟨by
                have := HIH.out q.2 (m - 1) q.1 s' W ((hW.block g (Array.getElem?_eq_some_iff.1 hcs.out).1).trans hcs.out) (hrs.out.below hW) hgs.out (by omega) (by omega) hf2
                rw [hg2.out] at this
                exact this⟩
              have hlti : (i : Int) < ((k + 1 : Nat) : Int) := by omega
              have hi0 : (0 : Int) ≤ (i : Int) := by omega
              clear hqo hov hd hq
              have HW := Hd.mk (show Below wr.heap.size wr (wr.alloc (.cells #[.string q.1, .int .i64 q.2] 113)) from (Below.refl _ _).alloc (Nat.le_refl _) _)
              by_cases he2 : er2 = 0
              · subst he2
                have hov3 : Hd (overC (fun n' f' s' => checkK l kind f n' (m - 1) f' s') (p :: r) (many, last) = overC (fun n' f' s' => checkK l kind f n' (m - 1) f' s') ((p :: r).drop (i + 1)) s2) := ⟨by rw [hov2.out, if_neg (by simp)]⟩
                clear hov2
                go_wp2_with (go_at_call 111; refine (HC _ HW.out).out.mono ?_; rintro e w2 ⟨rfl, C2, G2⟩)
                go_roundw
                case rel =>
                  have HG2 : wr.grownBy w2 (some g) := grown_trans (grown_of_below HW.out (some g)) G2
                  refine ⟨i + 1, s2, by go_num, by omega, ⟨C2⟩, ⟨checkK_good f q.2 (m - 1) q.1 s' s2 hgs.out hg2.out⟩, ⟨grown_trans hgw.out HG2⟩, ⟨Own.grown hos.out HG2 (fun x hx e => by injection e with e; have h1 := (Own.lt hos.out hx).1; have := hgl.out; omega)⟩,
                    ⟨hrs.out.aside HG2 (fun ad had e => hA ad had (by injection e with e; exact e.symm))⟩, hov3⟩
                case measure => simp [intOf]; omega
              · have hov3 : Hd (checkK l kind (f + 1) number level first (many, last) = (s2, er2)) := ⟨by rw [hck.out, hov2.out, if_pos he2]⟩
                have e8 : ((er2 : Int) != 0) = true := by simp; omega
                clear hov2 he2 hck
                go_wp2_with (go_at_call 111; refine (HC _ HW.out).out.mono ?_; rintro e w2 ⟨rfl, C2, G2⟩)
                go_ret
                rw [hov3.out]
                exact ⟨rfl, C2, grown_trans hgw.out (grown_trans (grown_of_below HW.out (some g)) G2)⟩
            · obtain rfl : i = k + 1 := by omega
              have hov3 : Hd (checkK l kind (f + 1) number level first (many, last) = (s', 0)) := ⟨by rw [hck.out, hov.out, List.drop_of_length_le (by rw [hpl.out]; omega)]; rfl⟩
              have hlti : ¬ (((k + 1 : Nat) : Int) < ((k + 1 : Nat) : Int)) := by omega
              clear hov hck
              go_wp2_with fail
              go_ret
              rw [hov3.out]
              exact ⟨rfl, hcs.out, hgw.out⟩
end Go.Proofs.Ytkgdcglnkodgnaa

