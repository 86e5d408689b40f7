/-
  The walk of NavLoads. No condition but sizes.
-/
import Derived.Test.YtkgdcglnkodgnaaRsave
import Derived.Test.YtkgdcglnkodgnaaNavAw
namespace Go.Proofs.Ytkgdcglnkodgnaa
open Go.RowKit
theorem retLoad_elim0 {w w' : World} {e : Ending} {r : Option NS} (hr : r = none) (h : RetLoad w r e w') : Below w.heap.size w w' ∧ e = .returned (.tuple #[.pointer none, .int .i64 263]) := by subst hr; exact h
theorem retRLoad_elim0 {w w' : World} {e : Ending} {r : Option NS} (hr : r = none) (h : RetRLoad w r e w') : Below w.heap.size w w' ∧ e = .returned (.tuple #[.pointer none, .int .i64 263]) := by subst hr; exact h
theorem retLoad_elim' {w w' : World} {e : Ending} {r : Option NS} {s : NS} (hr : r = some s) (h : RetLoad w r e w') :
    Below w.heap.size w w' ∧ ∃ g F, e = .returned (.tuple #[.pointer (some ⟨g, 0, none⟩), .int .i64 0]) ∧ NavAt w' g F s ∧ ∀ k, F k → w.heap.size ≤ k := by subst hr; exact h
set_option maxRecDepth 100000 in
set_option maxHeartbeats 2000000 in
theorem navLoads16 (A : Option Addr) (n c : Nat) (l : List UInt8) (w : World) (h : Rd8 w A n l) (hnc : n ≤ c) (hn : n ≤ 140737488355328) :
    Calls Try.prog 16 #[.slice A n c] w fun e w' => e = .returned (.bool true) ∧ Below w.heap.size w w' := by
  have HR := Hd.mk h
  have hmix := try_mixed
  have hA4 := Hd.mk (below_alloc w (.cells #[] 5))
  obtain ⟨r, hr⟩ : ∃ r, Hd (loadN l = r) := ⟨_, ⟨rfl⟩⟩
  go_enter Try.func16, Try.ntmps16
  go_wp2_with (at_builtin; refine wl_app8 rfl (.tmp 8) (.tmp 9) rfl rfl rfl (Own8.nil_ _ (w.alloc (.cells #[] 5)).heap.size _) (Rd8.alloc HR.out _) (by omega) (Nat.le_refl _) ?_; rintro v w4 ⟨A', c', rfl, hown, hg, _⟩)
  have hb4 : Below (w.alloc (.cells #[] 5)).heap.size (w.alloc (.cells #[] 5)) w4 := below_app (Below.refl _ _) (Nat.le_refl _) (Own8.nil_ _ _ _) hg
  have B4 := Hd.mk (hA4.out.trans (hb4.mono hA4.out.size))
  simp only [Nat.zero_add, List.nil_append] at hown
  have O4 := Hd.mk (Own.rd hown)
  clear hown hg hb4 hA4
  refine (load71 A' n c' l w4 O4.out hn).mono ?_
  cases r with
  | none =>
    rintro e w5 hre
    obtain ⟨b5, rfl⟩ := retLoad_elim0 hr.out hre
    have B5 := Hd.mk (B4.out.trans (b5.mono B4.out.size))
    clear hre b5 B4 O4
    go_wp2_with fail
    refine (rload72 A n c l w5 (Rd.below HR.out B5.out) hn hnc).mono ?_
    rintro e w6 hre
    obtain ⟨b6, rfl⟩ := retRLoad_elim0 hr.out hre
    have B6 := Hd.mk (B5.out.trans (b6.mono B5.out.size))
    clear hre b6 B5
    go_wp2_with fail
    refine (awake42 _).mono ?_
    rintro e w7 ⟨rfl, b7⟩
    have B7 := Hd.mk (B6.out.trans (b7.mono B6.out.size))
    clear b7 B6
    go_wp2_with fail
    go_quiet (fail)
    go_wp2_with fail
    go_ret
    exact ⟨rfl, below_drewN B7.out _⟩
  | some s =>
    obtain ⟨hsv, hI'⟩ := save_load hr.out
    have hI := Hd.mk hI'
    obtain ⟨str, hstr'⟩ : ∃ str, Hd ((⟨l.toArray⟩ : ByteArray) = str) := ⟨_, ⟨rfl⟩⟩
    have hsv' : Hd ((⟨s.save.toArray⟩ : ByteArray) = str) := ⟨by rw [hsv]; exact hstr'.out⟩
    have hss : (str.toList == str.toList) = true := by simp
    clear hsv hI'
    rintro e w5 hre
    obtain ⟨b5, gx, FX, rfl, NX, hFX⟩ := retLoad_elim' hr.out hre
    have B5 := Hd.mk (B4.out.trans (b5.mono B4.out.size))
    have X5 := Hd.mk NX
    clear hre b5 B4 O4 NX hFX
    go_wp2_with fail
    refine (rload72 A n c l w5 (Rd.below HR.out B5.out) hn hnc).mono ?_
    rintro e w6 hre
    obtain ⟨b6, go, FO, rfl, NO, hFO⟩ := retRLoad_elim hr.out hre
    have B6 := Hd.mk (B5.out.trans (b6.mono B5.out.size))
    have X6 := Hd.mk (X5.out.below b6)
    have O6 := Hd.mk NO
    clear hre b6 B5 X5 NO hFO
    go_wp2_with fail
    refine (awake42 _).mono ?_
    rintro e w7 ⟨rfl, b7⟩
    have B7 := Hd.mk (B6.out.trans (b7.mono B6.out.size))
    have X7 := Hd.mk (X6.out.below b7)
    have O7 := Hd.mk (O6.out.below b7)
    clear b7 B6 X6 O6
    go_wp2_with fail
    refine region_zone 16 [false, false, false, false, false, false, false, false, false, false, false, false, false, false, false, false] (by kernel_rfl) (by kernel_rfl) hmix (fun w' => Below w7.heap.size w7 w') [] ?_ (fun hS => ?_)
    · exact below_drew w7
    refine wpAnyZ_take0 (i := 0) (oi := ⟨_, _, _, _, _, _⟩) (v := ?_) rfl (by decide +kernel) (fun _ _ _ h => h) (Or.inl ⟨by rfl, ?_⟩) (fun _ => hS) ?_
    rotate_left
    focus (intro w _; go_simp; (try with_reducible rfl); done)
    simp only [Act.put, List.setIfInBounds_toArray, List.set_cons_zero, List.set_cons_succ]
    refine wpAnyZ_take0 (i := 1) (oi := ⟨_, _, _, _, _, _⟩) (v := ?_) rfl (by decide +kernel) (fun _ _ _ h => h) (Or.inl ⟨by rfl, ?_⟩) (fun _ => hS) ?_
    rotate_left
    focus (intro w _; go_simp; (try with_reducible rfl); done)
    simp only [Act.put, List.setIfInBounds_toArray, List.set_cons_zero, List.set_cons_succ]
    refine wpAnyZ_take0 (i := 2) (oi := ⟨_, _, _, _, _, _⟩) (v := ?_) rfl (by decide +kernel) (fun _ _ _ h => h) (Or.inl ⟨by rfl, ?_⟩) (fun _ => hS) ?_
    rotate_left
    focus (intro w _; go_simp; (try with_reducible rfl); done)
    simp only [Act.put, List.setIfInBounds_toArray, List.set_cons_zero, List.set_cons_succ]
    refine wpAnyZ_take0 (i := 3) (oi := ⟨_, _, _, _, _, _⟩) (v := ?_) rfl (by decide +kernel) (fun _ _ _ h => h) (Or.inl ⟨by rfl, ?_⟩) (fun _ => hS) ?_
    rotate_left
    focus (intro w _; go_simp; (try with_reducible rfl); done)
    simp only [Act.put, List.setIfInBounds_toArray, List.set_cons_zero, List.set_cons_succ]
    refine wpAnyZ_take0 (i := 4) (oi := ⟨_, _, _, _, _, _⟩) (v := ?_) rfl (by decide +kernel) (fun _ _ _ h => h) (Or.inl ⟨by rfl, ?_⟩) (fun _ => hS) ?_
    rotate_left
    focus (intro w _; go_simp; (try with_reducible rfl); done)
    simp only [Act.put, List.setIfInBounds_toArray, List.set_cons_zero, List.set_cons_succ]
    refine wpAnyZ_one (i := 5) rfl (by decide +kernel) (fun K hKK => ?_)
    go_simp
    refine (alike73 gx go FX FO s w7.drew (X7.out.below (below_drew w7)) (O7.out.below (below_drew w7)) hI.out).mono ?_
    rintro e w8 ⟨rfl, b8⟩
    have S8 := (below_drew w7).trans b8
    clear hS
    have hS := S8
    refine hKK.out _ _ (fun _ => hS) ?_
    clear hKK
    refine wpAnyZ_take0 (i := 6) (oi := ⟨_, _, _, _, _, _⟩) (v := ?_) rfl (by decide +kernel) (fun _ _ _ h => h) (Or.inl ⟨by rfl, ?_⟩) (fun _ => hS) ?_
    rotate_left
    focus (intro w _; go_simp; (try with_reducible rfl); done)
    simp only [Act.put, List.setIfInBounds_toArray, List.set_cons_zero, List.set_cons_succ]
    refine wpAnyZ_take0 (i := 7) (oi := ⟨_, _, _, _, _, _⟩) (v := ?_) rfl (by decide +kernel) (fun _ _ _ h => h) (Or.inl ⟨by rfl, ?_⟩) (fun _ => hS) ?_
    rotate_left
    focus (intro w _; go_simp; (try with_reducible rfl); done)
    simp only [Act.put, List.setIfInBounds_toArray, List.set_cons_zero, List.set_cons_succ]
    refine wpAnyZ_take0 (i := 10) (oi := ⟨_, _, _, _, _, _⟩) (v := ?_) rfl (by decide +kernel) (fun _ _ _ h => h) (Or.inl ⟨by rfl, ?_⟩) (fun _ => hS) ?_
    rotate_left
    focus (intro w _; go_simp; (try with_reducible rfl); done)
    simp only [Act.put, List.setIfInBounds_toArray, List.set_cons_zero, List.set_cons_succ]
    refine wpAnyZ_take (i := 11) (oi := ⟨_, _, _, _, _, _⟩) (v := ?_) rfl (by decide +kernel) (fun _ _ _ h => h) (Or.inl ⟨by rfl, ?_⟩) hS ?_
    rotate_left
    focus (intro w hSw; (try dsimp only at hSw); have hstr := run_str8 (c := c) (Rd.below (Rd.below HR.out B7.out) hSw); rw [hstr'.out] at hstr; clear hSw; go_simp; (try with_reducible rfl); done)
    simp only [Act.put, List.setIfInBounds_toArray, List.set_cons_zero, List.set_cons_succ]
    refine wpAnyZ_one (i := 8) rfl (by decide +kernel) (fun K hKK => ?_)
    go_simp
    refine (save44 gx FX s w8 (X7.out.below S8) hI.out).mono ?_
    rintro e w9 ⟨Y1, y1n, y1c, rfl, o9, d9⟩
    have hs1 := Hd.mk (Own.rd o9)
    have S9 := Hd.mk (S8.trans (d9.mono S8.size))
    clear o9 d9 hS
    refine hKK.out _ _ (fun _ => S9.out) ?_
    clear hKK
    refine wpAnyZ_less (S' := fun w' => Below w9.heap.size w9 w') (fun w h => S9.out.trans (h.mono S9.out.size)) _ _ _ _ ?_
    have hS : Below w9.heap.size w9 w9 := Below.refl _ _
    refine wpAnyZ_take (i := 9) (oi := ⟨_, _, _, _, _, _⟩) (v := ?_) rfl (by decide +kernel) (fun _ _ _ h => h) (Or.inl ⟨by rfl, ?_⟩) hS ?_
    rotate_left
    focus (intro w hSw; (try dsimp only at hSw); have hstr := run_str8 (c := y1c) (Rd.below hs1.out hSw); rw [hsv'.out] at hstr; clear hSw; go_simp; (try with_reducible rfl); done)
    simp only [Act.put, List.setIfInBounds_toArray, List.set_cons_zero, List.set_cons_succ]
    refine wpAnyZ_take0 (i := 12) (oi := ⟨_, _, _, _, _, _⟩) (v := ?_) rfl (by decide +kernel) (fun _ _ _ h => h) (Or.inl ⟨by rfl, ?_⟩) (fun _ => hS) ?_
    rotate_left
    focus (intro w _; go_simp; (try with_reducible rfl); done)
    simp only [Act.put, List.setIfInBounds_toArray, List.set_cons_zero, List.set_cons_succ]
    refine wpAnyZ_take0 (i := 13) (oi := ⟨_, _, _, _, _, _⟩) (v := ?_) rfl (by decide +kernel) (fun _ _ _ h => h) (Or.inl ⟨by rfl, ?_⟩) (fun _ => hS) ?_
    rotate_left
    focus (intro w _; go_simp; (try with_reducible rfl); done)
    simp only [Act.put, List.setIfInBounds_toArray, List.set_cons_zero, List.set_cons_succ]
    refine wpAnyZ_take0 (i := 14) (oi := ⟨_, _, _, _, _, _⟩) (v := ?_) rfl (by decide +kernel) (fun _ _ _ h => h) (Or.inl ⟨by rfl, ?_⟩) (fun _ => hS) ?_
    rotate_left
    focus (intro w _; go_simp; (try with_reducible rfl); done)
    simp only [Act.put, List.setIfInBounds_toArray, List.set_cons_zero, List.set_cons_succ]
    refine wpAnyZ_take0 (i := 15) (oi := ⟨_, _, _, _, _, _⟩) (v := ?_) rfl (by decide +kernel) (fun _ _ _ h => h) (Or.inl ⟨by rfl, ?_⟩) (fun _ => hS) ?_
    rotate_left
    focus (intro w _; go_simp; (try with_reducible rfl); done)
    simp only [Act.put, List.setIfInBounds_toArray, List.set_cons_zero, List.set_cons_succ]
    refine wpAnyZ_done (by decide +kernel) ?_
    go_wp2
    go_ret
    exact ⟨rfl, B7.out.trans (S9.out.mono B7.out.size)⟩
end Go.Proofs.Ytkgdcglnkodgnaa

