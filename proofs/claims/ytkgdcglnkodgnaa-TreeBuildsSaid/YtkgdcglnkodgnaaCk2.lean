/-
  tree.Check. No condition but sizes.
-/
import Derived.Test.YtkgdcglnkodgnaaCk
namespace Go.Proofs.Ytkgdcglnkodgnaa
open Go.RowKit
set_option maxRecDepth 100000 in
set_option maxHeartbeats 1000000 in
theorem check67 (A : Option Addr) (n c : Nat) (l : List UInt8) (kind : UInt8) (root : Int) (w : World) (h : Rd8 w A n l) (hn : n ≤ 140737488355328) (hnc : n ≤ c) (hA : ∀ ad, A = some ad → ad.block < w.heap.size) (hlo : -9223372036854775808 ≤ root) (hhi : root ≤ 9223372036854775807) :
    Calls Try.prog 67 #[.slice A n c, .int .u8 (kind.toNat : Int), .int .i64 root] w fun e w' => e = .returned (.tuple #[.int .i64 (checkP l kind root).1, .int .i64 ((checkP l kind root).2 : Int)]) ∧ Below w.heap.size w w' := by
  obtain ⟨s', er, hk⟩ : ∃ s' er, Hd (checkK l kind 14 root (-1) ⟨#[]⟩ (0, ⟨#[]⟩) = (s', er)) := ⟨_, _, ⟨rfl⟩⟩
  have hcp : Hd (checkP l kind root = if er ≠ 0 then (0, er) else ((s'.1 : Int), 0)) := ⟨by unfold checkP; rw [hk.out]⟩
  obtain ⟨V, hV⟩ : ∃ V, Hd (w.alloc (.cells #[.slice A n c, .int .u8 (kind.toNat : Int), .int .i64 0, .string ⟨#[]⟩] 161) = V) := ⟨_, ⟨rfl⟩⟩
  have HB : Below w.heap.size w V := by rw [← hV.out]; exact (Below.refl _ _).alloc (Nat.le_refl _) _
  have HX : V.heap[w.heap.size]? = some (.cells #[.slice A n c, .int .u8 (kind.toNat : Int), .int .i64 0, .string ⟨#[]⟩] 161 (0, 0)) := by rw [← hV.out]; exact heap_alloc_new w _
  have HN := Hd.mk (node111 w.heap.size A n c l kind hn hnc (fun ad e => by have := hA ad e; omega) 14 root (-1) ⟨#[]⟩ (0, ⟨#[]⟩) V HX (h.below HB) (goodW_start _ _) hlo hhi (.inl ⟨rfl, rfl⟩))
  rw [hk.out] at HN
  have HB' := Hd.mk HB
  clear h HX HB
  go_enter Try.func67, Try.ntmps67
  go_wp2_with fail
  rw [hV.out]
  refine HN.out.mono ?_
  rintro e w1 ⟨rfl, C1, G1⟩
  have HB1 := Hd.mk (HB'.out.grown G1 HB'.out.size (fun k e => by injection e with e; omega))
  obtain ⟨z0, z1, z2, z3⟩ := chk_load C1
  by_cases he : er = 0
  · subst he
    have hr : Hd (checkP l kind root = ((s'.1 : Int), 0)) := ⟨by rw [hcp.out, if_neg (by simp)]⟩
    clear hcp
    go_wp2_with fail
    go_ret2
    rw [hr.out]
    exact ⟨rfl, HB1.out⟩
  · have hr : Hd (checkP l kind root = (0, er)) := ⟨by rw [hcp.out, if_pos he]⟩
    have e1 : ((er : Int) != 0) = true := by simp; omega
    clear hcp he
    go_wp2_with fail
    go_ret2
    rw [hr.out]
    exact ⟨rfl, HB1.out⟩
end Go.Proofs.Ytkgdcglnkodgnaa
