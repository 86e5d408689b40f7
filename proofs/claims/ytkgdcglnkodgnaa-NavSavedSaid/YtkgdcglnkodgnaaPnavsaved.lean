/-
  The statement NavSaved: whatever the input, the law returns true and leaves its arguments as they were. No condition beyond the row's own.
-/
import Derived.Test.YtkgdcglnkodgnaaRows
import Derived.Test.YtkgdcglnkodgnaaOpen
import Derived.Test.YtkgdcglnkodgnaaLnavsaved
namespace Go.Proofs.Ytkgdcglnkodgnaa.navSaved
open Go.ChangeShapes Go.WideShapes Go.ChangeAt Go.RowKit
open Go.ChangeMaps (open_string shut_string)
set_option maxRecDepth 100000 in
theorem lifted (os : Os) (started : os.Started) (H : Type) (enc : TypeId × Value → H) :
    ReturnsInHanded {} Try.checked os 21 .any (Rows.navSavedSpec.pre6 enc Try.prog Try.f21 Rows.navSavedRow.domain false) (Rows.navSavedSpec.post enc Try.prog Try.f21 false true false false) := by
  refine returnsInHanded_of_change_sized (C := Try.checked) try_own started (by kernel_rfl) Try.func21
    (ChangeSpec.witness6 (enc := enc) (C := Try.checked) false ⟨#[], #[.slice none 0 0, .slice none 0 0, .slice none 0 0], []⟩ 8 (by kernel_rfl) (by kernel_rfl) (by kernel_rfl) (by kernel_rfl)) ?_
  intro W base args ds gs before hval0 hW _ hsz0 _
  have hval : ∀ (j : Nat) t v, Try.f21.params[j]? = some t → args[j]? = some v → Value.okWide Try.prog W .any base t v := hval0
  have hsz : (DataW.weightsEach Try.prog (Try.f21.params.toList ++ Rows.navSavedSpec.plain.varTypes Try.prog) (ds ++ gs)).all (· ≤ reachBytes) = true := hsz0
  have hW' := hW
  obtain ⟨p, q, hA0, hV, rfl, hfz, hnd⟩ := hW
  have hA : DataW.TrodAll enc Try.prog W 0 (fun _ => true) true Try.f21.params.toList args.toList ds p := hA0
  rw [Try.params21] at hA hval hsz
  obtain ⟨v0, vs0, d0, ds0, p0, q0, hargs, rfl, rfl, h0, r0⟩ := trodAll_cons hA
  obtain ⟨v1, vs1, d1, ds1, p1, q1, rfl, rfl, rfl, h1, r1⟩ := trodAll_cons r0
  obtain ⟨v2, vs2, d2, ds2, p2, q2, rfl, rfl, rfl, h2, r2⟩ := trodAll_cons r1
  obtain ⟨rfl, rfl, rfl⟩ := trodAll_nil r2
  obtain rfl : args = #[v0, v1, v2] := by cases args; simp_all
  obtain ⟨rfl, rfl⟩ := trodVars_none hV
  have k0 := h0
  have lt0 : ∀ x ∈ p0, x.block < W.heap.size := by obtain ⟨m, hm⟩ := k0; exact DataW.trod_lt m _ _ _ hm
  obtain ⟨A0, n0, c0, l0, hv0, r80, nc0, bnd0, hd0⟩ := openA h0 (hval 0 56 v0 rfl rfl)
  subst hv0
  have b0 : n0 ≤ 4398046511104 := by
    rcases hd0 with h0 | ⟨es, sp, hd, hl⟩
    · omega
    · have := sized_slice hsz (j := 0) (t := 56) (e := 71) rfl (by rw [← hd]; rfl) Try.underlying56
      rw [try_bytes71, hl] at this
      simp only [reachBytes] at this
      omega
  have k1 := h1
  have lt1 : ∀ x ∈ p1, x.block < W.heap.size := by obtain ⟨m, hm⟩ := k1; exact DataW.trod_lt m _ _ _ hm
  obtain ⟨A1, n1, c1, l1, hv1, r81, nc1, bnd1, hd1⟩ := openA h1 (hval 1 56 v1 rfl rfl)
  subst hv1
  have b1 : n1 ≤ 4398046511104 := by
    rcases hd1 with h0 | ⟨es, sp, hd, hl⟩
    · omega
    · have := sized_slice hsz (j := 1) (t := 56) (e := 71) rfl (by rw [← hd]; rfl) Try.underlying56
      rw [try_bytes71, hl] at this
      simp only [reachBytes] at this
      omega
  have k2 := h2
  have lt2 : ∀ x ∈ p2, x.block < W.heap.size := by obtain ⟨m, hm⟩ := k2; exact DataW.trod_lt m _ _ _ hm
  obtain ⟨A2, n2, c2, l2, hv2, r82, nc2, bnd2, hd2⟩ := openA h2 (hval 2 56 v2 rfl rfl)
  subst hv2
  have b2 : n2 ≤ 4398046511104 := by
    rcases hd2 with h0 | ⟨es, sp, hd, hl⟩
    · omega
    · have := sized_slice hsz (j := 2) (t := 56) (e := 71) rfl (by rw [← hd]; rfl) Try.underlying56
      rw [try_bytes71, hl] at this
      simp only [reachBytes] at this
      omega
  clear hA0 hval0 hsz0
  refine (navSaved21 A0 A1 A2 n0 c0 n1 c1 n2 c2 l0 l1 l2 W r80 r81 r82 b0 b1 b2).mono fun e W' ⟨he, bel⟩ => ?_
  subst he
  exact ⟨_, rfl, _, _, _, [], _, [], hW', trodAll_mk1 (shut_bool Try.underlying4 _), (trodAll_cons_mk (Below.trod try_laidOut (by kernel_rfl) (of_decide_eq_true (by kernel_rfl)) k0 bel lt0) (trodAll_cons_mk (Below.trod try_laidOut (by kernel_rfl) (of_decide_eq_true (by kernel_rfl)) k1 bel lt1) (trodAll_cons_mk (Below.trod try_laidOut (by kernel_rfl) (of_decide_eq_true (by kernel_rfl)) k2 bel lt2) trodAll_mk0))), rfl, bel.frame _, fun h => by cases h⟩

theorem over : Rows.navSavedRow.holds Try.pinned (OpenSpec.ofChange Rows.navSavedSpec) :=
  OpenClaim.holds_of_wide 21 Try.f21 rfl rfl rfl rfl rfl rfl rfl ⟨rfl, rfl, rfl, rfl, rfl⟩ rfl rfl rfl rfl rfl (by kernel_rfl) Try.func21 (by kernel_rfl)
    (of_decide_eq_true (by kernel_rfl)) (by unfold Func.isWrapper; first | (rw [if_pos (by decide +kernel)]; kernel_rfl) | (rw [if_neg (by decide +kernel)]; exact ⟨rfl, rfl⟩))
    (fun os started H enc _ => lifted os started H enc)
end Go.Proofs.Ytkgdcglnkodgnaa.navSaved
namespace Go.Proofs.Ytkgdcglnkodgnaa
theorem navSaved_holds : Rows.NavSavedSaid := navSaved.over
#print axioms navSaved_holds
end Go.Proofs.Ytkgdcglnkodgnaa
