/-
  The statement TreeAny: whatever the input, the law returns true and leaves its arguments as they were. No condition beyond the row's own.
-/
import Derived.Test.YtkgdcglnkodgnaaLf
import Derived.Test.YtkgdcglnkodgnaaRngb
import Derived.Shelf.Abstract
import Derived.Test.YtkgdcglnkodgnaaAwk
import Derived.Test.YtkgdcglnkodgnaaBy
import Derived.Test.YtkgdcglnkodgnaaRows
import Derived.Test.YtkgdcglnkodgnaaOpen
namespace Go.Proofs.Ytkgdcglnkodgnaa
open Go.RowKit
attribute [local go_sem] Oper.semAt_some
theorem one_load' {w : World} {g T : Nat} {a : Value} (h : w.heap[g]? = some (.cells #[a] T (0, 0))) : w.cell? ⟨g, 0, none⟩ = some a := (cell_of_row _ _ 0 _ _ _ h).trans rfl
/-- What the iterator reads. -/
def ProtL (gw bw br : Nat) (A : Option Addr) : Nat → Prop := fun k => k = gw ∨ k = bw ∨ k = br ∨ ∃ ad, A = some ad ∧ k = ad.block
set_option maxRecDepth 100000 in
set_option maxHeartbeats 1000000 in
theorem all125 (gw : Nat) (root : Int) (w : World) :
    Calls Try.prog 125 #[.pointer (some ⟨gw, 0, none⟩), .int .i64 root] w fun e w' => e = .returned (.func (.func 160) #[] #[.pointer (some ⟨w.heap.size, 0, none⟩), .pointer (some ⟨w.heap.size + 1, 0, none⟩)]) ∧
      w' = (w.alloc (.cells #[.pointer (some ⟨gw, 0, none⟩)] 177)).alloc (.cells #[.int .i64 root] 3) := by
  have hmf : ∀ (fn : Fn) (first cap : Array Value) (w : World), (Instr.makeFunc fn first cap).run Try.prog w = .ok (.func fn first cap) w := fun _ _ _ _ => rfl
  go_enter Try.func125, Try.ntmps125
  go_wp2_with fail
  go_ret
  exact ⟨rfl, rfl⟩
set_option maxRecDepth 100000 in
set_option maxHeartbeats 2000000 in
theorem all_seq (q : Nat) (hq : 1 ≤ q) (gw bw br : Nat) (A : Option Addr) (n c : Nat) (l : List UInt8) (kind : UInt8) (key : ByteArray) (root : Int) (w : World) (hn : n ≤ 140737488355328) (hnc : n ≤ c) (hlo : -9223372036854775808 ≤ root) (hhi : root ≤ 9223372036854775807)
    (hA : ∀ ad, A = some ad → ad.block ≠ gw ∧ ad.block < w.heap.size) (hbw : w.heap[bw]? = some (.cells #[.pointer (some ⟨gw, 0, none⟩)] 177 (0, 0))) (hbr : w.heap[br]? = some (.cells #[.int .i64 root] 3 (0, 0)))
    (hw : WlkAt w gw A n c kind key (0, ⟨#[]⟩) 0) (hr : Rd8 w A n l) :
    SeqC Fence.wide q Try.prog 160 #[.pointer (some ⟨bw, 0, none⟩), .pointer (some ⟨br, 0, none⟩)] EncL (fun k => k = gw) (ProtL gw bw br A) (walkP l kind root key).1 (fun W => WlkAt W gw A n c kind key (walkP l kind root key).2.1 (walkP l kind root key).2.2)
      (fun _ W => ∃ s', WlkAt W gw A n c kind key s' 0) w := fun y J Jx W C0 hW hJ hJx hC0 hY h0 => by
  have k1 : W.heap[bw]? = some (.cells #[.pointer (some ⟨gw, 0, none⟩)] 177 (0, 0)) := (hW.block bw (Array.getElem?_eq_some_iff.1 hbw).1).trans hbw
  have k2 : W.heap[br]? = some (.cells #[.int .i64 root] 3 (0, 0)) := (hW.block br (Array.getElem?_eq_some_iff.1 hbr).1).trans hbr
  have k3 : WlkAt W gw A n c kind key (0, ⟨#[]⟩) 0 := (hW.block gw (Array.getElem?_eq_some_iff.1 hw).1).trans hw
  have HL := Hd.mk (leaves161 q y gw hq A n c l kind key hn hnc (fun ad e => (hA ad e).1) W.heap.size J Jx (walkP l kind root key).1 hJ hJx hY 14 root (-1) true (0, ⟨#[]⟩) [] C0 W k3 (hr.below hW) h0 (fun k h => (hC0 k h).1) (fun h => (hC0 _ h).2 (.inl rfl))
    (fun ad e => ⟨fun h => (hC0 _ h).2 (.inr (.inr (.inr ⟨ad, e, rfl⟩))), Nat.lt_of_lt_of_le (hA ad e).2 hW.size⟩) (goodW_start _ _) hlo hhi (.inl ⟨rfl, rfl⟩) (by rw [List.nil_append]; exact List.prefix_refl _))
  have x1 := one_load' k1
  have x2 := one_load' k2
  clear hY h0 hJ hJx k1 k2 k3 hw hr hbw hbr hW
  refine callsIn_of_wp Try.func160 rfl trivial ?_ rfl
  simp only [Try.ntmps160, List.size_toArray, List.length_cons, List.length_nil, Nat.reduceAdd, Nat.reduceSub, Array.replicate_succ, Array.replicate_zero, List.push_toArray, List.append_toArray, List.nil_append, List.cons_append]
  gi_wp2_with fail
  refine ⟨trivial, ?_⟩
  gi_at_call 161
  refine (callsIn_wide.2 HL.out).mono ?_
  rintro e w2 ⟨C2, _, _, _, _, hcase⟩
  rcases hcase with ⟨rfl, hJ2, hW2⟩ | ⟨rfl, pre', s', hp', hJ2, hW2⟩
  · have HZ := Hd.mk (And.intro hJ2 hW2)
    clear hJ2 hW2
    gi_wp2_with fail
    go_end0
    exact ⟨⟨_, rfl⟩, .inl ⟨C2, HZ.out.1, HZ.out.2⟩⟩
  · have HZ := Hd.mk (And.intro hp' (And.intro hJ2 hW2))
    clear hp' hJ2 hW2
    gi_wp2_with fail
    go_end0
    exact ⟨⟨_, rfl⟩, .inr ⟨pre', C2, HZ.out.1, HZ.out.2.1, s', HZ.out.2.2⟩⟩
end Go.Proofs.Ytkgdcglnkodgnaa
namespace Go.Proofs.Ytkgdcglnkodgnaa
open Go.RowKit Go.Shelf
attribute [local go_sem] Oper.semAt_some
/-- A pair as it is told. -/
def EncP (x : Kp) (vals : Array Value) (_ : Nat → Prop) (_ : World) : Prop := vals = #[.string x.1, .int .i64 x.2]
set_option maxRecDepth 100000 in
set_option maxHeartbeats 1000000 in
theorem each74 (A : Option Addr) (n c : Nat) (kind : UInt8) (root : Int) (w : World) :
    Calls Try.prog 74 #[.slice A n c, .int .u8 (kind.toNat : Int), .int .i64 root] w fun e w' => e = .returned (.func (.func 124) #[] #[.pointer (some ⟨w.heap.size, 0, none⟩), .pointer (some ⟨w.heap.size + 1, 0, none⟩), .pointer (some ⟨w.heap.size + 1 + 1, 0, none⟩)]) ∧
      w' = ((w.alloc (.cells #[.slice A n c] 22)).alloc (.cells #[.int .u8 (kind.toNat : Int)] 5)).alloc (.cells #[.int .i64 root] 3) := by
  have hmf : ∀ (fn : Fn) (first cap : Array Value) (w : World), (Instr.makeFunc fn first cap).run Try.prog w = .ok (.func fn first cap) w := fun _ _ _ _ => rfl
  go_enter Try.func74, Try.ntmps74
  go_wp2_with fail
  go_ret
  exact ⟨rfl, rfl⟩
/-- What the iterator of pairs reads. -/
def ProtE (b1 b2 b3 : Nat) (A : Option Addr) : Nat → Prop := fun k => k = b1 ∨ k = b2 ∨ k = b3 ∨ ∃ ad, A = some ad ∧ k = ad.block
theorem four_boxes {W V : World} {a b c d : Obj} (hV : (((W.alloc a).alloc b).alloc c).alloc d = V) : V.heap[W.heap.size]? = some a ∧ V.heap[W.heap.size + 1]? = some b ∧ V.heap[W.heap.size + 1 + 1]? = some c ∧ V.heap[W.heap.size + 1 + 1 + 1]? = some d ∧
    Below W.heap.size W V ∧ V.heap.size = W.heap.size + 4 := by
  obtain ⟨V1, h1⟩ : ∃ V1, W.alloc a = V1 := ⟨_, rfl⟩
  obtain ⟨V2, h2⟩ : ∃ V2, V1.alloc b = V2 := ⟨_, rfl⟩
  obtain ⟨V3, h3⟩ : ∃ V3, V2.alloc c = V3 := ⟨_, rfl⟩
  rw [h1, h2, h3] at hV
  have s1 : V1.heap.size = W.heap.size + 1 := by rw [← h1]; simp
  have s2 : V2.heap.size = W.heap.size + 1 + 1 := by rw [← h2]; simp [s1]
  have s3 : V3.heap.size = W.heap.size + 1 + 1 + 1 := by rw [← h3]; simp [s2]
  have n1 : V1.heap[W.heap.size]? = some a := by rw [← h1]; exact World.alloc_heap_new W a
  have n2 : V2.heap[W.heap.size + 1]? = some b := by rw [← h2, ← s1]; exact World.alloc_heap_new V1 b
  have n3 : V3.heap[W.heap.size + 1 + 1]? = some c := by rw [← h3, ← s2]; exact World.alloc_heap_new V2 c
  have n4 : V.heap[W.heap.size + 1 + 1 + 1]? = some d := by rw [← hV, ← s3]; exact World.alloc_heap_new V3 d
  have b1 : Below V1.heap.size V1 V2 := by rw [← h2]; exact (Below.refl _ _).alloc (Nat.le_refl _) _
  have b2 : Below V2.heap.size V2 V3 := by rw [← h3]; exact (Below.refl _ _).alloc (Nat.le_refl _) _
  have b3 : Below V3.heap.size V3 V := by rw [← hV]; exact (Below.refl _ _).alloc (Nat.le_refl _) _
  have b0 : Below W.heap.size W V1 := by rw [← h1]; exact (Below.refl _ _).alloc (Nat.le_refl _) _
  have b23 : Below V2.heap.size V2 V := b2.trans (b3.mono (by omega))
  have b13 : Below V1.heap.size V1 V := b1.trans (b23.mono (by omega))
  refine ⟨(b13.block _ (by omega)).trans n1, (b23.block _ (by omega)).trans n2, (b3.block _ (by omega)).trans n3, n4, b0.trans (b13.mono (by omega)), ?_⟩
  rw [← hV]; simp [s3]
theorem round_any {P : Program} {n m y l' f : Nat} {tmps : Array Value} {assign body : Code} {w : World} {R : Ending → World → Prop} (h : RoundIn Fence.wide n P y f tmps assign body w R) : RoundIn (Fence.wide.inRound l') m P y f tmps assign body w R :=
  ⟨trivial, fun c cs _ => h.2 c cs (room_wide _)⟩
theorem encL_put {x : List Kp} {vals : Array Value} {C C' : Nat → Prop} {W : World} {l : Nat} {o o' : Obj} (ho : W.heap[l]? = some o) (hc : o.isCells = false) (hC : ∀ k, C k → C' k) (h : EncL x vals C' W) : EncL x vals C (W.putObj l o') := by
  obtain ⟨A, n, c, h1, h2, h3, h4, h5⟩ := h
  refine ⟨A, n, c, h1, ⟨h2.1, fun hn => ?_⟩, h3, h4, fun h0 ad e => ⟨fun hk => (h5 h0 ad e).1 (hC _ hk), by rw [size_putObj]; exact (h5 h0 ad e).2⟩⟩
  obtain ⟨ad, hA, hcell⟩ := h2.2 hn
  refine ⟨ad, hA, fun j u hu => ?_⟩
  have hx := hcell j u hu
  exact (grownBy_putObj' W l o').cell hx (by
    intro e
    injection e with e
    unfold World.cell? at hx
    rw [e, ho] at hx
    cases o <;> simp_all [Obj.isCells])
theorem wlk_put {W : World} {g : Nat} {A : Option Addr} {n c : Nat} {kind : UInt8} {key : ByteArray} {s : Wk} {e : Nat} {l : Nat} {o o' : Obj} (ho : W.heap[l]? = some o) (hc : o.isCells = false) (h : WlkAt W g A n c kind key s e) : WlkAt (W.putObj l o') g A n c kind key s e := by
  refine (World.putObj_heap_other ?_).trans h
  intro e1
  have h' : W.heap[g]? = _ := h
  first
    | (rw [e1, ho] at h'; injection h' with h'; subst h'; cases hc)
    | (rw [← e1, h'] at ho; injection ho with ho; subst ho; cases hc)
set_option maxRecDepth 100000 in
set_option maxHeartbeats 4000000 in
theorem each_seqC (q : Nat) (hq : 3 ≤ q) (b1 b2 b3 : Nat) (A : Option Addr) (n c : Nat) (l : List UInt8) (kind : UInt8) (root : Int) (w : World) (hn : n ≤ 140737488355328) (hnc : n ≤ c) (hlo : -9223372036854775808 ≤ root) (hhi : root ≤ 9223372036854775807)
    (hA : ∀ ad, A = some ad → ad.block < w.heap.size) (h1 : w.heap[b1]? = some (.cells #[.slice A n c] 22 (0, 0))) (h2 : w.heap[b2]? = some (.cells #[.int .u8 (kind.toNat : Int)] 5 (0, 0))) (h3 : w.heap[b3]? = some (.cells #[.int .i64 root] 3 (0, 0)))
    (hr : Rd8 w A n l) :
    SeqC Fence.wide q Try.prog 124 #[.pointer (some ⟨b1, 0, none⟩), .pointer (some ⟨b2, 0, none⟩), .pointer (some ⟨b3, 0, none⟩)] EncP (fun _ => False) (ProtE b1 b2 b3 A) (walkP l kind root ⟨#[]⟩).1.flatten (fun _ => True) (fun _ _ => True) w := fun y J Jx W C0 hW hJ hJx hC0 hY h0 => by
  have k1 : W.heap[b1]? = some (.cells #[.slice A n c] 22 (0, 0)) := (hW.block b1 (Array.getElem?_eq_some_iff.1 h1).1).trans h1
  have k2 : W.heap[b2]? = some (.cells #[.int .u8 (kind.toNat : Int)] 5 (0, 0)) := (hW.block b2 (Array.getElem?_eq_some_iff.1 h2).1).trans h2
  have k3 : W.heap[b3]? = some (.cells #[.int .i64 root] 3 (0, 0)) := (hW.block b3 (Array.getElem?_eq_some_iff.1 h3).1).trans h3
  have x1 := one_load' k1
  have x2 := one_load' k2
  have x3 := one_load' k3
  have y1 : ∀ o, (W.alloc o).cell? ⟨b1, 0, none⟩ = some (.slice A n c) := fun o => (((Below.refl W.heap.size W).alloc (Nat.le_refl _) o).cell (cell_lt x1)).trans x1
  have y2 : ∀ o, (W.alloc o).cell? ⟨b2, 0, none⟩ = some (.int .u8 (kind.toNat : Int)) := fun o => (((Below.refl W.heap.size W).alloc (Nat.le_refl _) o).cell (cell_lt x2)).trans x2
  have y3 : ∀ o o', ((W.alloc o).alloc o').cell? ⟨b3, 0, none⟩ = some (.int .i64 root) := fun o o' => ((((Below.refl W.heap.size W).alloc (Nat.le_refl _) o).alloc (by simp) o').cell (cell_lt x3)).trans x3
  have hmf : ∀ (fn : Fn) (first cap : Array Value) (w : World), (Instr.makeFunc fn first cap).run Try.prog w = .ok (.func fn first cap) w := fun _ _ _ _ => rfl
  refine callsIn_of_wp_marks Try.func124 rfl trivial ?_ rfl
  simp only [Try.ntmps124, List.size_toArray, List.length_cons, List.length_nil, Nat.reduceAdd, Nat.reduceSub, Array.replicate_succ, Array.replicate_zero, List.push_toArray, List.append_toArray, List.nil_append, List.cons_append]
  gi_wp2_with fail
  refine ⟨trivial, fun h => by simp [Fence.wide] at h, ?_⟩
  refine (callsIn_wide.2 (all125 _ _ _)).mono ?_
  rintro e w2 ⟨rfl, rfl⟩
  obtain ⟨V, hV⟩ : ∃ V, ((((W.alloc (.cells #[.func (.yield y) #[] #[]] 176)).alloc (.cells #[.slice A n c, .int .u8 (kind.toNat : Int), .string ⟨#[]⟩, .string ⟨#[]⟩, .int .i64 0, .int .i64 0] 179)).alloc (.cells #[.pointer (some ⟨W.heap.size + 1, 0, none⟩)] 177)).alloc (.cells #[.int .i64 root] 3)) = V := ⟨_, rfl⟩
  obtain ⟨v1, v2, v3, v4, vb, vs⟩ := four_boxes hV
  have vr : Rd8 V A n l := (hr.below hW).below vb
  have vw : WlkAt V (W.heap.size + 1) A n c kind ⟨#[]⟩ (0, ⟨#[]⟩) 0 := v2
  gi_wp2_with fail
  try rw [hV]
  clear hV y1 y2 y3 x1 x2 x3 k1 k2 k3 hmf
  refine rangeC1 (p1 := 16) rfl (by omega) (gf := 160) (lb := #[.pointer (some ⟨W.heap.size + 1 + 1, 0, none⟩), .pointer (some ⟨W.heap.size + 1 + 1 + 1, 0, none⟩)]) rfl trivial (enters_of Try.func160 (by kernel_rfl) rfl)
    (all_seq (q - 1) (by omega) (W.heap.size + 1) (W.heap.size + 1 + 1) (W.heap.size + 1 + 1 + 1) A n c l kind ⟨#[]⟩ root V hn hnc hlo hhi (fun ad e => by have := hA ad e; have := hW.size; omega) v3 v4 vw vr) (Below.refl _ _)
    (fun x vals C W h => by obtain ⟨A, n, c, h, _⟩ := h; exact ⟨_, h⟩) (fun k hk => by rcases hk with rfl | rfl | rfl | ⟨ad, e, rfl⟩; (· omega); (· omega); (· omega); (· have := hA ad e; have := hW.size; omega))
    (fun x vals C C' W l o o' ho hc hC h => encL_put ho hc hC h) (fun W l o o' _ ho hc h => wlk_put ho hc h) (fun pre W l o o' _ ho hc h => by obtain ⟨s', h⟩ := h; exact ⟨s', wlk_put ho hc h⟩)
    C0 (fun k hk => ⟨by have := (hC0 k hk).1; omega, fun hp => by rcases hp with e | e | e | ⟨ad, e, e'⟩; (· have := (hC0 k hk).1; omega); (· have := (hC0 k hk).1; omega); (· have := (hC0 k hk).1; omega); (· exact (hC0 k hk).2 (.inr (.inr (.inr ⟨ad, e, e'⟩))))⟩)
    (fun v t => t.setIfInBounds 6 v)
    (fun pre C W' => (∃ C2 : Nat → Prop, (∀ k, C2 k → C k) ∧ J pre.flatten C2 W') ∧ W'.heap[W.heap.size]? = some (.cells #[.func (.yield y) #[] #[]] 176 (0, 0)) ∧ ¬ C W.heap.size ∧ W.heap.size < W'.heap.size)
    (fun cd _ C W' => cd = .ret ∧ ∃ (pre2 : List Kp) (C2 : Nat → Prop), (∀ k, C2 k → C k) ∧ pre2 <+: (walkP l kind root ⟨#[]⟩).1.flatten ∧ Jx pre2 C2 W') ?hI ?hIx ?h0 ?assign ?body ?done ?stop
  case hI =>
    rintro s C X Y row ⟨⟨C2, hC2, hj⟩, hbx, hCb, hlt⟩ hg hrow
    exact ⟨⟨C2, hC2, hJ _ _ _ _ row hj hg (fun r e => ⟨fun h => (hrow r e).1 (hC2 r h), (hrow r e).2.elim (fun h => .inl (by omega)) (fun h => .inl (by omega))⟩)⟩,
      (hg.block _ hlt (fun e => (hrow _ e.symm).2.elim (fun h => by omega) (fun h => by omega))).trans hbx, hCb, Nat.lt_of_lt_of_le hlt hg.size⟩
  case hIx =>
    rintro cd s C X Y row ⟨rfl, pre2, C2, hC2, hp2, hj⟩ hg hrow
    exact ⟨rfl, pre2, C2, hC2, hp2, hJx _ _ _ _ row hj hg (fun r e => ⟨fun h => (hrow r e).1 (hC2 r h), (hrow r e).2.elim (fun h => .inl (by omega)) (fun h => .inl (by omega))⟩)⟩
  case h0 => exact ⟨⟨C0, fun k h => h, hJ.below vb h0⟩, v1, fun h => by have := (hC0 _ h).1; omega, by omega⟩
  case assign =>
    intro r x v C W' K he hK
    gi_wp2
    exact hK
  case done =>
    rintro D C W' hD hCD ⟨⟨C2, hC2, hj⟩, hbx, hCb, hlt⟩ _ hk
    have hj2 := Hd.mk (hJ _ _ _ _ (some D) hj (grownBy_putObj' W' D (.deferred none)) (fun r e => by cases e; exact ⟨fun h => hCD (hC2 _ h), .inl (by omega)⟩))
    gi_wp2
    refine ⟨by simp, .inl ⟨_, _, rfl, run_takeDeferred hk, ?_⟩⟩
    refine ⟨.tuple #[], by simp [results, Try.f124, go_sem], ⟨_, rfl⟩, .inl ⟨C2, hj2.out, trivial⟩⟩
  case stop =>
    rintro D cd pre C W' hD hCD hp ⟨rfl, pre2, C2, hC2, hp2, hj⟩ _ hk
    have hj2 := Hd.mk (hJx _ _ _ _ (some D) hj (grownBy_putObj' W' D (.deferred none)) (fun r e => by cases e; exact ⟨fun h => hCD (hC2 _ h), .inl (by omega)⟩))
    gi_wp2
    refine ⟨by simp, .inl ⟨_, _, rfl, run_takeDeferred hk, ?_⟩⟩
    refine ⟨.tuple #[], by simp [results, Try.f124, go_sem], ⟨_, rfl⟩, .inr ⟨pre2, C2, hp2, hj2.out, trivial⟩⟩
  case body =>
    rintro r pre x v C W' hl ⟨⟨C2, hC2, hj⟩, hbx, hCb, hlt⟩ ⟨A1, n1, c1, hv, hRx, hn1, hc1, hAx⟩ hCl hsz hp
    obtain rfl : v = .slice A1 n1 c1 := by simpa using hv
    have hxl := Hd.mk (RdK.len hRx)
    have hPf : Hd (∀ i, i < n1 → ∀ p, x[i]? = some p → pre.flatten ++ x.take i ++ [p] <+: (walkP l kind root ⟨#[]⟩).1.flatten) := ⟨fun i hi p hx => by
      obtain ⟨t, ht⟩ := hp
      rw [← ht]
      have e1 : x.take i ++ [p] = x.take (i + 1) := by rw [List.take_add_one, hx]; rfl
      rw [List.append_assoc, e1, List.flatten_append, List.flatten_append]
      refine ⟨x.drop (i + 1) ++ t.flatten, ?_⟩
      simp only [List.flatten_cons, List.flatten_nil, List.append_nil, List.append_assoc]
      rw [← List.append_assoc (x.take (i + 1)), List.take_append_drop]⟩
    have HJ0 := Hd.mk hj
    have HC2 := Hd.mk hC2
    have HRx := Hd.mk hRx
    have HBX := Hd.mk hbx
    have HCl := Hd.mk hCl
    have HCb := Hd.mk hCb
    have HAx := Hd.mk hAx
    have HJA := Hd.mk hJ
    have HYY := Hd.mk hY
    clear hj hC2 hRx hbx hCl hCb hAx hY hp hv hJx
    simp only [List.setIfInBounds_toArray, List.set_cons_zero, List.set_cons_succ]
    gi_wp2_with fail
    gi_loopw [19, 8] (fun iv _ wr => ∃ (i : Nat) (Ci : Nat → Prop), iv = .int .i64 (i : Int) ∧ i ≤ n1 ∧ Hd (J (pre.flatten ++ x.take i) Ci wr) ∧ Hd (∀ k, Ci k → C k ∨ W'.heap.size ≤ k) ∧ Hd (∀ k, Ci k → k < wr.heap.size) ∧ Hd (Tch C W' wr) ∧ Hd (RdK wr A1 n1 x) ∧ Hd (wr.heap[W.heap.size]? = some (.cells #[.func (.yield y) #[] #[]] 176 (0, 0))))
      (fun iv _ _ => n1 - (intOf iv).toNat)
    case atStart => exact ⟨0, C2, rfl, by omega, ⟨by simpa using HJ0.out⟩, ⟨fun k h => .inl (HC2.out k h)⟩, ⟨fun k h => HCl.out k (HC2.out k h)⟩, ⟨Tch.refl _ _⟩, HRx, HBX⟩
    case round =>
      obtain ⟨i, Ci, rfl, hi, hJi, hCi, hCs, hT, hR, hB⟩ := hrel
      by_cases hlt2 : i < n1
      · obtain ⟨p, hp0⟩ : ∃ p, Hd (x[i]? = some p) := ⟨x[i]'(by have := hxl.out; omega), ⟨List.getElem?_eq_getElem _⟩⟩
        obtain ⟨ad, rfl, y0, y1⟩ := RdK.get hR.out hp0.out
        have HW5 := Hd.mk (show Below wr.heap.size wr (wr.alloc (.cells #[.string p.1, .int .i64 p.2] 113)) from (Below.refl _ _).alloc (Nat.le_refl _) _)
        have hsT := hT.out.size
        obtain ⟨W5, hW5⟩ : ∃ W5, Hd (wr.alloc (.cells #[.string p.1, .int .i64 p.2] 113) = W5) := ⟨_, ⟨rfl⟩⟩
        rw [hW5.out] at HW5
        obtain ⟨fn, tm, asn, bd, hy, hRR⟩ := HYY.out (pre.flatten ++ x.take i) p #[.string p.1, .int .i64 p.2] Ci W5 (HJA.out.below HW5.out hJi.out) (hPf.out i hlt2 p hp0.out) rfl (fun k h => Nat.lt_of_lt_of_le (hCs.out k h) HW5.out.size)
        have HRR := Hd.mk hRR
        rw [← hW5.out] at hy
        have z0 : (wr.alloc (.cells #[.string p.1, .int .i64 p.2] 113)).cell? ⟨W.heap.size, 0, none⟩ = some (.func (.yield y) #[] #[]) := one_load' ((((Below.refl wr.heap.size wr).alloc (Nat.le_refl _) _).block _ (Array.getElem?_eq_some_iff.1 hB.out).1).trans hB.out)
        have hlti : (i : Int) < (n1 : Int) := by omega
        have hi00 : (0 : Int) ≤ (i : Int) := by omega
        clear hRR
        gi_wp2_with fail
        rw [hW5.out]
        refine ⟨fun h => by simp [Fence.wide] at h, ?_⟩
        refine (round_any HRR.out).mono ?_
        rintro e W6 ⟨hcase, ht6⟩
        have hs5 := HW5.out.size
        have hs6 := ht6.size
        have HC6 : Hd (∀ k, up Ci W5 W6 k → C k ∨ W'.heap.size ≤ k) := ⟨fun k h => by
          rcases h with h | h
          · exact hCi.out k h
          · right; omega⟩
        have HS6 : Hd (∀ k, up Ci W5 W6 k → k < W6.heap.size) := ⟨fun k h => by
          rcases h with h | h
          · have := hCs.out k h; omega
          · exact h.2⟩
        have HT6 : Hd (Tch C W' W6) := ⟨(hT.out.trans (Tch.of_below HW5.out)).trans (ht6.mono fun k hk h => (hCi.out k h).elim (fun h => .inl h) (fun h => .inr ⟨h, hk⟩))⟩
        have HR6 : Hd (RdK W6 (some ad) n1 x) := ⟨RdK.tch' (Rd.below hR.out HW5.out) ht6 (fun ad' e h => by
          injection e with e
          subst e
          have h1 := HAx.out (by omega) ad rfl
          exact (hCi.out _ h).elim h1.1 (fun h => by omega))⟩
        have HB6 : Hd (W6.heap[W.heap.size]? = some (.cells #[.func (.yield y) #[] #[]] 176 (0, 0))) := ⟨(ht6.block _ (by have := (Array.getElem?_eq_some_iff.1 hB.out).1; omega) (fun h => (hCi.out _ h).elim HCb.out (fun h => by omega))).trans ((HW5.out.block _ (Array.getElem?_eq_some_iff.1 hB.out).1).trans hB.out)⟩
        have hx1 : x.take i ++ [p] = x.take (i + 1) := by rw [List.take_add_one, hp0.out]; rfl
        rcases hcase with ⟨rfl, hj6⟩ | ⟨rfl, hj6⟩
        · have HJ6 : Hd (J (pre.flatten ++ x.take (i + 1)) (up Ci W5 W6) W6) := ⟨by rw [← hx1, ← List.append_assoc]; exact hj6⟩
          clear hj6 ht6 hx1 HRR hy
          gi_wp2_with fail
          go_roundw
          case rel => exact ⟨i + 1, _, by go_num, by omega, HJ6, HC6, HS6, HT6, HR6, HB6⟩
          case measure => simp [intOf]; omega
        · have HJ6 := Hd.mk hj6
          have hpf := Hd.mk (hPf.out i hlt2 p hp0.out)
          have hsub : Hd (∀ k, up Ci W5 W6 k → up C W' W6 k) := ⟨fun k h => (HC6.out k h).imp id (fun h2 => ⟨h2, HS6.out k h⟩)⟩
          clear hj6 ht6 hx1 HRR hy
          gi_wp2_with fail
          exact ⟨HT6.out, rfl, _, _, hsub.out, hpf.out, HJ6.out⟩
      · obtain rfl : i = n1 := by omega
        have hlti : ¬ ((i : Int) < (i : Int)) := by omega
        have hsub : Hd (∀ k, Ci k → up C W' wr k) := ⟨fun k h => (hCi.out k h).imp id (fun h2 => ⟨h2, hCs.out k h⟩)⟩
        have HJ6 : Hd (J (pre ++ [x]).flatten Ci wr) := ⟨by
          have := hJi.out
          rw [List.take_of_length_le (by rw [hxl.out]; exact Nat.le_refl _)] at this
          simpa using this⟩
        have hnb : Hd (¬ up C W' wr W.heap.size) := ⟨fun h => h.elim HCb.out (fun h => by omega)⟩
        clear hJi
        gi_wp2_with fail
        exact ⟨hT.out, ⟨Ci, hsub.out, HJ6.out⟩, hB.out, hnb.out, (Array.getElem?_eq_some_iff.1 hB.out).1⟩
end Go.Proofs.Ytkgdcglnkodgnaa
namespace Go.Proofs.Ytkgdcglnkodgnaa
open Go.RowKit Go.Shelf
attribute [local go_sem] Oper.semAt_some
theorem lt_empty (a : ByteArray) : ltK a ⟨#[]⟩ = false := by
  show Op.bytesLess a.toList (ByteArray.toList ⟨#[]⟩) = false
  rw [ByteArray.toList_eq ⟨#[]⟩]
  cases a.toList <;> simp [Op.bytesLess]
/-- What is content is found. -/
theorem any_law {l : List UInt8} {kind : UInt8} {root m : Int} (h : checkP l kind root = (m, 0)) :
    ((walkP l kind root ⟨#[]⟩).1.flatten.length : Int) = m ∧ (∀ p ∈ (walkP l kind root ⟨#[]⟩).1.flatten, findP l kind root p.1 = (p.2, true, 0)) ∧ m ≤ 4194304 := by
  unfold checkP at h
  obtain ⟨s', er, hk⟩ : ∃ s' er, checkK l kind 14 root (-1) ⟨#[]⟩ (0, ⟨#[]⟩) = (s', er) := ⟨_, _, rfl⟩
  rw [hk] at h
  by_cases he : er ≠ 0
  · rw [if_pos he] at h; injection h with _ h; exact absurd h he
  rw [if_neg he] at h
  have he : er = 0 := Decidable.byContradiction he
  subst he
  injection h with h _
  simp only at h
  have hg := (checkK_good 14 root (-1) ⟨#[]⟩ (0, ⟨#[]⟩) s' (goodW_start l kind) hk).bound
  rcases check_inv 14 root (-1) ⟨#[]⟩ (0, ⟨#[]⟩) s' hk (by omega) (by omega) with ⟨_, h2, h3⟩ | ⟨L, xs, ht, hs, _, h4, _, hL⟩
  · have e : walkP l kind root ⟨#[]⟩ = ([[]], (1, ⟨#[]⟩), 0) := by
      unfold walkP
      rw [leavesK, h2, if_neg (by simp)]
      simp [headLe, lastD]
    rw [e]
    simp only at h3
    exact ⟨by rw [← h, h3]; rfl, by simp, by omega⟩
  · obtain ⟨Ls, zs, ys, e1, e2, e3, e4, _⟩ := leaves_tr (key := ⟨#[]⟩) L 14 root (-1) true xs (0, ⟨#[]⟩) ht hs (.inl rfl) (by omega) (by simp)
    have hz : zs = [] := by
      cases zs with
      | nil => rfl
      | cons z zs => have := e4 z (by simp); rw [lt_empty] at this; cases this
    subst hz
    have hw : walkP l kind root ⟨#[]⟩ = (Ls, (0 + Ls.length, lastKey xs), 0) := e1
    have hfl : Ls.flatten = xs := by rw [e3, e2]; rfl
    rw [hw]
    simp only
    rw [hfl]
    refine ⟨by rw [← h, h4]; simp, fun p hp => ?_, by omega⟩
    unfold findP
    rw [find_tr L 14 root (-1) xs ht hs (.inl rfl) (by omega), lookK_sorted hs hp]
theorem check_zero {l : List UInt8} {kind : UInt8} {root m : Int} {er : Nat} (h : checkP l kind root = (m, er)) (he : er ≠ 0) : m = 0 := by
  unfold checkP at h
  split at h
  · injection h with h _; exact h.symm
  · injection h with _ h; exact absurd h.symm he
/-- Two operations may come next. -/
theorem wpAnyZ_two' {P : Program} {ops : Array Oper} {Q : Exit → Act → World → Prop} {md : Region.Mode} {S : World → Prop} {Z : List Nat} {i j : Nat} {oi oj : Oper} {fuel : Nat} {listed : Array Bool} {a : Act} {w : World} (hi : ops[i]? = some oi) (hj : ops[j]? = some oj) (hr : Region.ready md ops listed = [i, j])
    (h : ∀ K' : Act → World → Prop, Shut (∀ a w, (zDone Z (listed.setIfInBounds i true) = false → S w) → wpAnyZ P md ops Q S Z fuel (listed.setIfInBounds i true) a w → K' a w) → if Region.wanted oi (yielded ops a.tmps) = true then Oper.wp P oi a w K' Q else K' (a.put oi.dst undef) w)
    (h' : ∀ K' : Act → World → Prop, Shut (∀ a w, (zDone Z (listed.setIfInBounds j true) = false → S w) → wpAnyZ P md ops Q S Z fuel (listed.setIfInBounds j true) a w → K' a w) → if Region.wanted oj (yielded ops a.tmps) = true then Oper.wp P oj a w K' Q else K' (a.put oj.dst undef) w) :
    wpAnyZ P md ops Q S Z (fuel + 1) listed a w := by
  refine ⟨fun h0 => (by rw [hr] at h0; cases h0), ?_⟩
  rw [hr]
  intro k hk
  simp only [List.mem_cons, List.not_mem_nil, or_false] at hk
  rcases hk with rfl | rfl
  · exact wpOp_step hi (fun K' hK => h K' (fun a w hS hW => hK a w ⟨hS, hW⟩))
  · exact wpOp_step hj (fun K' hK => h' K' (fun a w hS hW => hK a w ⟨hS, hW⟩))
theorem below_drew' (w : World) : Below w.heap.size w w.drew := ⟨rfl, rfl, rfl, Nat.le_refl _, fun _ _ => rfl⟩
theorem region_zoneR {P : Program} {ops : Array Oper} {Q : Exit → Act → World → Prop} {id N r : Nat} {a : Act} {w : World} (k : Nat) (ls : List Bool) (hk : ops.size = k) (hl : ls = List.replicate k false) (hm : P.follows .mixedOrders = true) (hnd : noDefer ops = true) (S : World → Prop) (Z : List Nat) (hS : S w.drew)
    (h : S w.drew → wpAnyZ P .any ops (onlyN Q) S Z k ls.toArray a w.drew) : (Code.region id ops true).wpIn (Fence.wide.inRound r) N P Q a w :=
  wpIn_mono (wpIn_region_any hm (wpAnyIn_round (noDefer_spec hnd) (fun ⟨_, _, h⟩ => h) _ _ _ _ (wpAny_of_zone _ _ _ _ (by
    have e : ls.toArray = Array.replicate ops.size false := by rw [hl, hk]; simp
    rw [← e, hk]
    exact h hS)))) (fun _ _ _ h => onlyN_to h)
theorem three_boxes {W V : World} {a b c : Obj} (hV : ((W.alloc a).alloc b).alloc c = V) : V.heap[W.heap.size]? = some a ∧ V.heap[W.heap.size + 1]? = some b ∧ V.heap[W.heap.size + 1 + 1]? = some c ∧ V.heap.size = W.heap.size + 3 := by
  obtain ⟨h1, h2, h3, _, _, _⟩ := four_boxes (d := c) (V := V.alloc c) (by rw [hV])
  have bb : Below V.heap.size V (V.alloc c) := (Below.refl _ _).alloc (Nat.le_refl _) _
  have hs : V.heap.size = W.heap.size + 3 := by rw [← hV]; simp
  exact ⟨(bb.block _ (by omega)).symm.trans h1, (bb.block _ (by omega)).symm.trans h2, (bb.block _ (by omega)).symm.trans h3, hs⟩
set_option maxRecDepth 100000 in
set_option maxHeartbeats 4000000 in
theorem treeAny17 (A : Option Addr) (n c : Nat) (l : List UInt8) (kind : UInt8) (root : Int) (w : World) (h : Rd8 w A n l) (hn : n ≤ 140737488355328) (hlo : -9223372036854775808 ≤ root) (hhi : root ≤ 9223372036854775807) :
    CallsIn Fence.wide 9 Try.prog 17 #[.slice A n c, .int .u8 (kind.toNat : Int), .int .i64 root] w fun e w' => e = .returned (.bool true) ∧ Below w.heap.size w w' := by
  have hmix := try_mixed
  obtain ⟨V, hV⟩ : ∃ V, ((((w.alloc (.cells #[.slice A n c] 22)).alloc (.cells #[.int .u8 (kind.toNat : Int)] 5)).alloc (.cells #[.int .i64 root] 3)).alloc (.cells #[.bool false] 4)) = V := ⟨_, rfl⟩
  obtain ⟨v1, v2, v3, v4, vb, vs⟩ := four_boxes hV
  obtain ⟨m, er, hck⟩ : ∃ m er, Hd (checkP l kind root = (m, er)) := ⟨_, _, ⟨rfl⟩⟩
  refine callsIn_of_wp_marks Try.func17 rfl trivial ?_ rfl
  simp only [Try.ntmps17, List.size_toArray, List.length_cons, List.length_nil, Nat.reduceAdd, Nat.reduceSub, Array.replicate_succ, Array.replicate_zero, List.push_toArray, List.append_toArray, List.nil_append, List.cons_append]
  gi_wp2_with fail
  try rw [hV]
  refine ⟨trivial, ?_⟩
  refine (callsIn_wide.2 (awake64 _)).mono ?_
  rintro e w1 ⟨rfl, hb1⟩
  clear hV
  have H1 := Hd.mk ((hb1.block _ (by omega)).trans v1)
  have H2 := Hd.mk ((hb1.block _ (by omega)).trans v2)
  have H3 := Hd.mk ((hb1.block _ (by omega)).trans v3)
  have H4 := Hd.mk ((hb1.block _ (by omega)).trans v4)
  have HB1 := Hd.mk (vb.trans (hb1.mono (by omega)))
  have HR1 := Hd.mk (h.below HB1.out)
  have hs1 : w.heap.size + 4 ≤ w1.heap.size := by have := hb1.size; omega
  clear v1 v2 v3 v4 vb vs hb1
  gi_wp2_with fail
  rename_i K0 hK0
  suffices HK : ∀ (nb n2 c2 : Nat) (A2 : Option Addr) (w4 : World), w.heap.size + 4 ≤ nb → w4.heap[nb]? = some (.cells #[.int .i64 m] 3 (0, 0)) → Below w1.heap.size w1 w4 → K0 { tmps := #[Value.slice A n c, .int .u8 (kind.toNat : Int), .int .i64 root, .pointer (some ⟨w.heap.size, 0, none⟩), .pointer (some ⟨w.heap.size + 1, 0, none⟩), .pointer (some ⟨w.heap.size + 1 + 1, 0, none⟩), .pointer (some ⟨w.heap.size + 1 + 1 + 1, 0, none⟩), .pointer (some ⟨nb, 0, none⟩), .int .i64 (er : Int), undef, undef, undef, undef, undef, .bool true, .bool false, .tuple #[.int .i64 m, .int .i64 (er : Int)], Value.slice A n c, .slice A2 n2 c2, .int .u8 (kind.toNat : Int), .int .i64 root, .tuple #[.int .i64 m, .int .i64 (er : Int)], .int .i64 m, .int .i64 (er : Int), undef, undef, undef, undef, undef, undef, undef, undef, undef, undef, undef, undef, undef, undef, undef, undef, undef, undef, undef, undef, undef, undef, undef, undef, undef, undef, undef, undef, undef, undef, undef, undef, undef, undef, undef, undef], defers := [] } w4 by
    refine region_zoneW 11 [false, false, false, false, false, false, false, false, false, false, false] (by kernel_rfl) (by kernel_rfl) hmix (fun w' => w'.heap[w.heap.size]? = some (.cells #[.slice A n c] 22 (0, 0)) ∧ w'.heap[w.heap.size + 1]? = some (.cells #[.int .u8 (kind.toNat : Int)] 5 (0, 0)) ∧ w'.heap[w.heap.size + 1 + 1]? = some (.cells #[.int .i64 root] 3 (0, 0))) [] ?_ (fun hS => ?_)
    · exact ⟨H1.out, H2.out, H3.out⟩
    refine wpAnyZ_take (i := 0) (oi := ⟨_, _, _, _, _, _⟩) (v := ?_) rfl (by decide +kernel) (fun _ _ _ h => h) (Or.inl ⟨by rfl, ?_⟩) hS ?_
    rotate_left
    focus (intro w hSw; (try dsimp only at hSw); (obtain ⟨y1, y2, y3⟩ := hSw; have x1 := one_load' y1; have x2 := one_load' y2; have x3 := one_load' y3; clear y1 y2 y3); go_simp; (try with_reducible rfl); done)
    simp only [Act.put, List.setIfInBounds_toArray, List.set_cons_zero, List.set_cons_succ]
    refine wpAnyZ_take (i := 2) (oi := ⟨_, _, _, _, _, _⟩) (v := ?_) rfl (by decide +kernel) (fun _ _ _ h => h) (Or.inl ⟨by rfl, ?_⟩) hS ?_
    rotate_left
    focus (intro w hSw; (try dsimp only at hSw); (obtain ⟨y1, y2, y3⟩ := hSw; have x1 := one_load' y1; have x2 := one_load' y2; have x3 := one_load' y3; clear y1 y2 y3); go_simp; (try with_reducible rfl); done)
    simp only [Act.put, List.setIfInBounds_toArray, List.set_cons_zero, List.set_cons_succ]
    refine wpAnyZ_take (i := 3) (oi := ⟨_, _, _, _, _, _⟩) (v := ?_) rfl (by decide +kernel) (fun _ _ _ h => h) (Or.inl ⟨by rfl, ?_⟩) hS ?_
    rotate_left
    focus (intro w hSw; (try dsimp only at hSw); (obtain ⟨y1, y2, y3⟩ := hSw; have x1 := one_load' y1; have x2 := one_load' y2; have x3 := one_load' y3; clear y1 y2 y3); go_simp; (try with_reducible rfl); done)
    simp only [Act.put, List.setIfInBounds_toArray, List.set_cons_zero, List.set_cons_succ]
    have hd1 := below_drew' w1
    have HSB := fun W (b : Below w1.heap.size w1 W) => And.intro ((b.block w.heap.size (by omega)).trans H1.out) (And.intro ((b.block (w.heap.size + 1) (by omega)).trans H2.out) ((b.block (w.heap.size + 1 + 1) (by omega)).trans H3.out))
    refine wpAnyZ_two' (i := 1) (j := 8) rfl rfl (by decide +kernel) (fun K hKK => ?_) (fun K hKK => ?_)
    · go_simp
      refine (bytes66w A n c l w1.drew (HR1.out.below hd1) hn).mono ?_
      rintro e w2 ⟨A2, n2, c2, rfl, o2, b2, ba2⟩
      have hnc2 := (Own8.le o2).1
      have hl2 : n2 ≤ 140737488355328 := by rw [← Own8.len o2, HR1.out.len]; exact hn
      have hA2 : ∀ ad, A2 = some ad → ad.block < w2.heap.size := fun ad e => (ba2 ad e).2
      have S2 := Hd.mk (hd1.trans (b2.mono hd1.size))
      have s2 := S2.out.size
      clear hS
      have hS := HSB _ S2.out
      refine hKK.out _ _ (fun _ => hS) ?_
      clear hKK
      simp only [List.setIfInBounds_toArray, List.set_cons_zero, List.set_cons_succ]
      refine wpAnyZ_two' (i := 4) (j := 8) rfl rfl (by decide +kernel) (fun K hKK => ?_) (fun K hKK => ?_)
      · go_simp
        have HC := check67 A2 n2 c2 l kind root w2 (Own8.rd o2) hl2 hnc2 hA2 hlo hhi
        rw [hck.out] at HC
        refine HC.mono ?_
        rintro e w3 ⟨rfl, b3⟩
        have S3 := S2.out.trans (b3.mono s2)
        have s3 := S3.size
        clear hS
        have hS := HSB _ S3
        refine hKK.out _ _ (fun _ => hS) ?_
        clear hKK
        refine wpAnyZ_take0 (i := 5) (oi := ⟨_, _, _, _, _, _⟩) (v := ?_) rfl (by decide +kernel) (fun _ _ _ h => h) (Or.inl ⟨by rfl, ?_⟩) (fun _ => hS) ?_
        rotate_left
        focus (intro w _; go_simp; (try with_reducible rfl); done)
        simp only [Act.put, List.setIfInBounds_toArray, List.set_cons_zero, List.set_cons_succ]
        refine wpAnyZ_take0 (i := 6) (oi := ⟨_, _, _, _, _, _⟩) (v := ?_) rfl (by decide +kernel) (fun _ _ _ h => h) (Or.inl ⟨by rfl, ?_⟩) (fun _ => hS) ?_
        rotate_left
        focus (intro w _; go_simp; (try with_reducible rfl); done)
        simp only [Act.put, List.setIfInBounds_toArray, List.set_cons_zero, List.set_cons_succ]
        refine wpAnyZ_take0 (i := 7) (oi := ⟨_, _, _, _, _, _⟩) (v := ?_) rfl (by decide +kernel) (fun _ _ _ h => h) (Or.inl ⟨by rfl, ?_⟩) (fun _ => hS) ?_
        rotate_left
        focus (intro w _; go_simp; (try with_reducible rfl); done)
        simp only [Act.put, List.setIfInBounds_toArray, List.set_cons_zero, List.set_cons_succ]
        refine wpAnyZ_one (i := 8) rfl (by decide +kernel) (fun K hKK => ?_)
        go_simp
        clear hS
        have hS := HSB _ (S3.alloc s3 (.cells #[.int .i64 0] 3))
        refine hKK.out _ _ (fun _ => hS) ?_
        clear hKK
        refine wpAnyZ_one (i := 9) rfl (by decide +kernel) (fun K hKK => ?_)
        go_simp
        clear hS
        have hS := HSB _ (S3.alloc s3 (.cells #[.int .i64 m] 3))
        refine hKK.out _ _ (fun _ => hS) ?_
        clear hKK
        refine wpAnyZ_take0 (i := 10) (oi := ⟨_, _, _, _, _, _⟩) (v := ?_) rfl (by decide +kernel) (fun _ _ _ h => h) (Or.inl ⟨by rfl, ?_⟩) (fun _ => hS) ?_
        rotate_left
        focus (intro w _; go_simp; (try with_reducible rfl); done)
        simp only [Act.put, List.setIfInBounds_toArray, List.set_cons_zero, List.set_cons_succ]
        refine wpAnyZ_done (by decide +kernel) ?_
        exact HK w3.heap.size n2 c2 A2 _ (by omega) (World.alloc_heap_new w3 _) (S3.alloc s3 _)
      · go_simp
        have bo := Hd.mk ((Below.refl w2.heap.size w2).alloc (Nat.le_refl _) (.cells #[.int .i64 0] 3))
        clear hS
        have hS := HSB _ (S2.out.trans (bo.out.mono s2))
        refine hKK.out _ _ (fun _ => hS) ?_
        clear hKK
        refine wpAnyZ_one (i := 4) rfl (by decide +kernel) (fun K hKK => ?_)
        go_simp
        have HC := check67 A2 n2 c2 l kind root (w2.alloc (.cells #[.int .i64 0] 3)) (Own8.rd (Own8.alloc o2 _)) hl2 hnc2 (fun ad e => Nat.lt_of_lt_of_le (hA2 ad e) bo.out.size) hlo hhi
        rw [hck.out] at HC
        refine HC.mono ?_
        rintro e w3 ⟨rfl, b3⟩
        have hb := Hd.mk ((b3.block w2.heap.size (by simp)).trans (World.alloc_heap_new w2 _))
        have x9 := one_load' hb.out
        have f9 := frozen_of_row _ _ 0 _ _ hb.out
        have S3 := Hd.mk ((S2.out.trans (bo.out.mono s2)).trans (b3.mono (Nat.le_trans s2 bo.out.size)))
        clear hS
        have hS := HSB _ S3.out
        refine hKK.out _ _ (fun _ => hS) ?_
        clear hKK
        refine wpAnyZ_take0 (i := 5) (oi := ⟨_, _, _, _, _, _⟩) (v := ?_) rfl (by decide +kernel) (fun _ _ _ h => h) (Or.inl ⟨by rfl, ?_⟩) (fun _ => hS) ?_
        rotate_left
        focus (intro w _; go_simp; (try with_reducible rfl); done)
        simp only [Act.put, List.setIfInBounds_toArray, List.set_cons_zero, List.set_cons_succ]
        refine wpAnyZ_take0 (i := 6) (oi := ⟨_, _, _, _, _, _⟩) (v := ?_) rfl (by decide +kernel) (fun _ _ _ h => h) (Or.inl ⟨by rfl, ?_⟩) (fun _ => hS) ?_
        rotate_left
        focus (intro w _; go_simp; (try with_reducible rfl); done)
        simp only [Act.put, List.setIfInBounds_toArray, List.set_cons_zero, List.set_cons_succ]
        refine wpAnyZ_take0 (i := 7) (oi := ⟨_, _, _, _, _, _⟩) (v := ?_) rfl (by decide +kernel) (fun _ _ _ h => h) (Or.inl ⟨by rfl, ?_⟩) (fun _ => hS) ?_
        rotate_left
        focus (intro w _; go_simp; (try with_reducible rfl); done)
        simp only [Act.put, List.setIfInBounds_toArray, List.set_cons_zero, List.set_cons_succ]
        refine wpAnyZ_one (i := 9) rfl (by decide +kernel) (fun K hKK => ?_)
        go_simp
        clear hS
        have hS := HSB (w3.setCell ⟨w2.heap.size, 0, none⟩ (.int .i64 m)) (S3.out.grown (grown_cell _) S3.out.size (fun k e => by injection e with e; omega))
        refine hKK.out _ _ (fun _ => hS) ?_
        clear hKK
        refine wpAnyZ_take0 (i := 10) (oi := ⟨_, _, _, _, _, _⟩) (v := ?_) rfl (by decide +kernel) (fun _ _ _ h => h) (Or.inl ⟨by rfl, ?_⟩) (fun _ => hS) ?_
        rotate_left
        focus (intro w _; go_simp; (try with_reducible rfl); done)
        simp only [Act.put, List.setIfInBounds_toArray, List.set_cons_zero, List.set_cons_succ]
        refine wpAnyZ_done (by decide +kernel) ?_
        exact HK w2.heap.size n2 c2 A2 _ (by omega) (heap_setCell_same _ _ 0 _ 3 _ hb.out) (S3.out.grown (grown_cell _) S3.out.size (fun k e => by injection e with e; omega))
    · go_simp
      have hd2 := ((Below.refl w1.heap.size w1).alloc (Nat.le_refl _) (.cells #[.int .i64 0] 3)).trans ((below_drew' (w1.alloc (.cells #[.int .i64 0] 3))).mono (by simp))
      have hbn : Hd ((w1.alloc (.cells #[.int .i64 0] 3)).drew.heap[w1.heap.size]? = some (.cells #[.int .i64 0] 3 (0, 0))) := ⟨World.alloc_heap_new w1 _⟩
      have hsn : (w1.alloc (.cells #[.int .i64 0] 3)).drew.heap.size = w1.heap.size + 1 := by simp
      clear hS
      have hS := HSB _ hd2
      refine hKK.out _ _ (fun _ => hS) ?_
      clear hKK
      refine wpAnyZ_one (i := 1) rfl (by decide +kernel) (fun K hKK => ?_)
      go_simp
      refine (bytes66w A n c l (w1.alloc (.cells #[.int .i64 0] 3)).drew (HR1.out.below hd2) hn).mono ?_
      rintro e w2 ⟨A2, n2, c2, rfl, o2, b2, ba2⟩
      have hnc2 := (Own8.le o2).1
      have hl2 : n2 ≤ 140737488355328 := by rw [← Own8.len o2, HR1.out.len]; exact hn
      have hA2 : ∀ ad, A2 = some ad → ad.block < w2.heap.size := fun ad e => (ba2 ad e).2
      have S2 := Hd.mk (hd2.trans (b2.mono hd2.size))
      have s2 := S2.out.size
      clear hS
      have hS := HSB _ S2.out
      refine hKK.out _ _ (fun _ => hS) ?_
      clear hKK
      simp only [List.setIfInBounds_toArray, List.set_cons_zero, List.set_cons_succ]
      refine wpAnyZ_one (i := 4) rfl (by decide +kernel) (fun K hKK => ?_)
      go_simp
      have HC := check67 A2 n2 c2 l kind root w2 (Own8.rd o2) hl2 hnc2 hA2 hlo hhi
      rw [hck.out] at HC
      refine HC.mono ?_
      rintro e w3 ⟨rfl, b3⟩
      have hb1 := Hd.mk ((b2.block w1.heap.size (by omega)).trans hbn.out)
      have hb := Hd.mk ((b3.block w1.heap.size (Array.getElem?_eq_some_iff.1 hb1.out).1).trans hb1.out)
      have x9 := one_load' hb.out
      have f9 := frozen_of_row _ _ 0 _ _ hb.out
      have S3 := Hd.mk (S2.out.trans (b3.mono s2))
      clear hS
      have hS := HSB _ S3.out
      refine hKK.out _ _ (fun _ => hS) ?_
      clear hKK
      refine wpAnyZ_take0 (i := 5) (oi := ⟨_, _, _, _, _, _⟩) (v := ?_) rfl (by decide +kernel) (fun _ _ _ h => h) (Or.inl ⟨by rfl, ?_⟩) (fun _ => hS) ?_
      rotate_left
      focus (intro w _; go_simp; (try with_reducible rfl); done)
      simp only [Act.put, List.setIfInBounds_toArray, List.set_cons_zero, List.set_cons_succ]
      refine wpAnyZ_take0 (i := 6) (oi := ⟨_, _, _, _, _, _⟩) (v := ?_) rfl (by decide +kernel) (fun _ _ _ h => h) (Or.inl ⟨by rfl, ?_⟩) (fun _ => hS) ?_
      rotate_left
      focus (intro w _; go_simp; (try with_reducible rfl); done)
      simp only [Act.put, List.setIfInBounds_toArray, List.set_cons_zero, List.set_cons_succ]
      refine wpAnyZ_take0 (i := 7) (oi := ⟨_, _, _, _, _, _⟩) (v := ?_) rfl (by decide +kernel) (fun _ _ _ h => h) (Or.inl ⟨by rfl, ?_⟩) (fun _ => hS) ?_
      rotate_left
      focus (intro w _; go_simp; (try with_reducible rfl); done)
      simp only [Act.put, List.setIfInBounds_toArray, List.set_cons_zero, List.set_cons_succ]
      refine wpAnyZ_one (i := 9) rfl (by decide +kernel) (fun K hKK => ?_)
      go_simp
      clear hS
      have hS := HSB (w3.setCell ⟨w1.heap.size, 0, none⟩ (.int .i64 m)) (S3.out.grown (grown_cell _) S3.out.size (fun k e => by injection e with e; omega))
      refine hKK.out _ _ (fun _ => hS) ?_
      clear hKK
      refine wpAnyZ_take0 (i := 10) (oi := ⟨_, _, _, _, _, _⟩) (v := ?_) rfl (by decide +kernel) (fun _ _ _ h => h) (Or.inl ⟨by rfl, ?_⟩) (fun _ => hS) ?_
      rotate_left
      focus (intro w _; go_simp; (try with_reducible rfl); done)
      simp only [Act.put, List.setIfInBounds_toArray, List.set_cons_zero, List.set_cons_succ]
      refine wpAnyZ_done (by decide +kernel) ?_
      exact HK w1.heap.size n2 c2 A2 _ (by omega) (heap_setCell_same _ _ 0 _ 3 _ hb.out) (S3.out.grown (grown_cell _) S3.out.size (fun k e => by injection e with e; omega))
  rintro nb n2 c2 A2 w4 hnb Y4 B4
  have hs4 := B4.size
  have Y1 := Hd.mk ((B4.block w.heap.size (by omega)).trans H1.out)
  have Y2 := Hd.mk ((B4.block (w.heap.size + 1) (by omega)).trans H2.out)
  have Y3 := Hd.mk ((B4.block (w.heap.size + 1 + 1) (by omega)).trans H3.out)
  have YR := Hd.mk ((B4.block (w.heap.size + 1 + 1 + 1) (by omega)).trans H4.out)
  have YN := Hd.mk Y4
  have HB4 := Hd.mk (HB1.out.trans (B4.mono (by omega)))
  have HR4 := Hd.mk (HR1.out.below B4)
  have hs5 : w.heap.size + 4 ≤ w4.heap.size := by omega
  have x7 := one_load' Y4
  have x6 := one_load' YR.out
  have f6 := frozen_of_row _ _ 0 _ _ YR.out
  clear Y4 B4 H1 H2 H3 H4 HB1 HR1 hs1 hs4
  refine hK0 _ _ ?_
  clear hK0
  simp only
  by_cases he : er = 0
  · subst he
    gi_wp2_with fail
    obtain ⟨hal, hfa, hmb⟩ := any_law hck.out
    refine region_zoneW 5 [false, false, false, false, false] (by kernel_rfl) (by kernel_rfl) hmix (fun w' => w'.heap[w.heap.size]? = some (.cells #[.slice A n c] 22 (0, 0)) ∧ w'.heap[w.heap.size + 1]? = some (.cells #[.int .u8 (kind.toNat : Int)] 5 (0, 0)) ∧ w'.heap[w.heap.size + 1 + 1]? = some (.cells #[.int .i64 root] 3 (0, 0))) [] ?_ (fun hS => ?_)
    · exact ⟨Y1.out, Y2.out, Y3.out⟩
    refine wpAnyZ_take (i := 0) (oi := ⟨_, _, _, _, _, _⟩) (v := ?_) rfl (by decide +kernel) (fun _ _ _ h => h) (Or.inl ⟨by rfl, ?_⟩) hS ?_
    rotate_left
    focus (intro w hSw; (try dsimp only at hSw); (obtain ⟨y1, y2, y3⟩ := hSw; have x1 := one_load' y1; have x2 := one_load' y2; have x3 := one_load' y3; clear y1 y2 y3); go_simp; (try with_reducible rfl); done)
    simp only [Act.put, List.setIfInBounds_toArray, List.set_cons_zero, List.set_cons_succ]
    refine wpAnyZ_take (i := 2) (oi := ⟨_, _, _, _, _, _⟩) (v := ?_) rfl (by decide +kernel) (fun _ _ _ h => h) (Or.inl ⟨by rfl, ?_⟩) hS ?_
    rotate_left
    focus (intro w hSw; (try dsimp only at hSw); (obtain ⟨y1, y2, y3⟩ := hSw; have x1 := one_load' y1; have x2 := one_load' y2; have x3 := one_load' y3; clear y1 y2 y3); go_simp; (try with_reducible rfl); done)
    simp only [Act.put, List.setIfInBounds_toArray, List.set_cons_zero, List.set_cons_succ]
    refine wpAnyZ_take (i := 3) (oi := ⟨_, _, _, _, _, _⟩) (v := ?_) rfl (by decide +kernel) (fun _ _ _ h => h) (Or.inl ⟨by rfl, ?_⟩) hS ?_
    rotate_left
    focus (intro w hSw; (try dsimp only at hSw); (obtain ⟨y1, y2, y3⟩ := hSw; have x1 := one_load' y1; have x2 := one_load' y2; have x3 := one_load' y3; clear y1 y2 y3); go_simp; (try with_reducible rfl); done)
    simp only [Act.put, List.setIfInBounds_toArray, List.set_cons_zero, List.set_cons_succ]
    have hd4 := below_drew' w4
    have HSB := fun W (b : Below w4.heap.size w4 W) => And.intro ((b.block w.heap.size (by omega)).trans Y1.out) (And.intro ((b.block (w.heap.size + 1) (by omega)).trans Y2.out) ((b.block (w.heap.size + 1 + 1) (by omega)).trans Y3.out))
    refine wpAnyZ_one (i := 1) rfl (by decide +kernel) (fun K hKK => ?_)
    go_simp
    refine (bytes66w A n c l w4.drew (HR4.out.below hd4) hn).mono ?_
    rintro e w6 ⟨A6, n6, c6, rfl, o6, b6, ba6⟩
    have hnc6 := (Own8.le o6).1
    have hl6 : n6 ≤ 140737488355328 := by rw [← Own8.len o6, HR4.out.len]; exact hn
    have hA6 : ∀ ad, A6 = some ad → ad.block < w6.heap.size := fun ad e => (ba6 ad e).2
    have S6 := Hd.mk (hd4.trans (b6.mono hd4.size))
    have s6 := S6.out.size
    clear hS
    have hS := HSB _ S6.out
    refine hKK.out _ _ (fun _ => hS) ?_
    clear hKK
    simp only [List.setIfInBounds_toArray, List.set_cons_zero, List.set_cons_succ]
    refine wpAnyZ_one (i := 4) rfl (by decide +kernel) (fun K hKK => ?_)
    go_simp
    refine (each74 A6 n6 c6 kind root w6).mono ?_
    rintro e w7 ⟨rfl, hw7⟩
    have e7 : Hd (w7 = ((w6.alloc (.cells #[.slice A6 n6 c6] 22)).alloc (.cells #[.int .u8 (kind.toNat : Int)] 5)).alloc (.cells #[.int .i64 root] 3)) := ⟨hw7⟩
    have b7 : Below w6.heap.size w6 w7 := by
      rw [hw7]
      exact (((Below.refl _ _).alloc (Nat.le_refl _) _).alloc (by simp) _).alloc (by simp; omega) _
    have S7 := Hd.mk (S6.out.trans (b7.mono s6))
    have s7 := S7.out.size
    clear hS
    have hS := HSB _ S7.out
    refine hKK.out _ _ (fun _ => hS) ?_
    clear hKK
    refine wpAnyZ_done (by decide +kernel) ?_
    obtain ⟨v1, v2, v3, vs⟩ := three_boxes e7.out.symm
    have vr := Rd8.below (Own8.rd o6) b7
    have R7 := Hd.mk (HR4.out.below S7.out)
    have n7 : nb < w4.heap.size := (Array.getElem?_eq_some_iff.1 YN.out).1
    have I0 := Hd.mk (And.intro (HSB _ S7.out) (And.intro ((S7.out.block nb n7).trans YN.out) (And.intro ((S7.out.block (w.heap.size + 1 + 1 + 1) (by omega)).trans YR.out) (And.intro R7.out (HB4.out.trans (S7.out.mono (by omega)))))))
    clear HSB
    gi_wp2_with fail
    refine rangeC2 (p1 := 33) (p2 := 34) rfl (by omega) (gf := 124) (lb := #[.pointer (some ⟨w6.heap.size, 0, none⟩), .pointer (some ⟨w6.heap.size + 1, 0, none⟩), .pointer (some ⟨w6.heap.size + 1 + 1, 0, none⟩)]) rfl trivial (enters_of Try.func124 (by kernel_rfl) rfl)
      (each_seqC 8 (by omega) w6.heap.size (w6.heap.size + 1) (w6.heap.size + 1 + 1) A6 n6 c6 l kind root w7 hl6 hnc6 hlo hhi (fun ad e => by have := hA6 ad e; omega) v1 v2 v3 vr) (Below.refl _ _)
      (fun x vals C W h => ⟨_, _, h⟩) (fun k hk => by rcases hk with rfl | rfl | rfl | ⟨ad, e, rfl⟩; (· omega); (· omega); (· omega); (· have := hA6 ad e; omega))
      (fun x vals C C' W l o o' ho hc hC h => h) (fun W l o o' _ ho hc h => trivial) (fun pre W l o o' _ ho hc h => trivial)
      (fun k => k = nb ∨ k = w.heap.size + 1 + 1 + 1) (fun k hk => ?hC0) (fun v u t => (t.setIfInBounds 9 v).setIfInBounds 10 u)
      (fun pre C W' => C nb ∧ C (w.heap.size + 1 + 1 + 1) ∧ (∀ k, C k → w.heap.size ≤ k) ∧ (W'.heap[w.heap.size]? = some (.cells #[.slice A n c] 22 (0, 0)) ∧ W'.heap[w.heap.size + 1]? = some (.cells #[.int .u8 (kind.toNat : Int)] 5 (0, 0)) ∧ W'.heap[w.heap.size + 1 + 1]? = some (.cells #[.int .i64 root] 3 (0, 0))) ∧
        W'.heap[nb]? = some (.cells #[.int .i64 (m - (pre.length : Int))] 3 (0, 0)) ∧ W'.heap[w.heap.size + 1 + 1 + 1]? = some (.cells #[.bool false] 4 (0, 0)) ∧ Rd8 W' A n l ∧ Below w.heap.size w W')
      (fun _ _ _ _ => False) ?hI (fun _ _ _ _ _ _ h _ _ => h) ?h0 ?assign ?body ?done (fun _ _ _ _ _ _ _ _ h => absurd h (by simp))
    case hC0 =>
      have hne : k < w4.heap.size := by rcases hk with rfl | rfl <;> omega
      exact ⟨by omega, fun hp => by rcases hp with e | e | e | ⟨ad, e, e'⟩; (· omega); (· omega); (· omega); (· have := (ba6 ad e).1; have := (below_drew' w4).size; omega)⟩
    case hI =>
      rintro s C X Y row ⟨i1, i2, i3, ⟨j1, j2, j3⟩, j4, j5, j6, j7⟩ hg hrow
      have hr1 : ∀ k, (C k ∨ k < w7.heap.size) → k < X.heap.size → Y.heap[k]? = X.heap[k]? := fun k hk hl => hg.block k hl (fun e => by
        have h := hrow k e.symm
        rcases hk with hk | hk
        · exact h.1 hk
        · exact h.2.elim (fun h => by omega) (fun h => by omega))
      have hl : ∀ {k : Nat} {o : Obj}, X.heap[k]? = some o → k < X.heap.size := fun h => (Array.getElem?_eq_some_iff.1 h).1
      have j8 := j7.grown hg j7.size (fun k e => by
        have h := hrow k e
        have hx7 := j7.size
        rcases h.2 with h | h
        · omega
        · exact h.elim)
      exact ⟨i1, i2, i3, ⟨(hr1 _ (.inr (by omega)) (hl j1)).trans j1, (hr1 _ (.inr (by omega)) (hl j2)).trans j2, (hr1 _ (.inr (by omega)) (hl j3)).trans j3⟩, (hr1 _ (.inl i1) (hl j4)).trans j4, (hr1 _ (.inl i2) (hl j5)).trans j5, h.below j8, j8⟩
    case h0 => exact ⟨.inl rfl, .inr rfl, fun k hk => by rcases hk with rfl | rfl <;> omega, I0.out.1, by simpa using I0.out.2.1, I0.out.2.2.1, I0.out.2.2.2.1, I0.out.2.2.2.2⟩
    case assign =>
      intro r x v u C W' K he hK
      gi_wp2
      exact hK
    case done =>
      rintro D C W' hD hCD ⟨i1, i2, i3, ⟨j1, j2, j3⟩, j4, j5, j6, j7⟩ _ hk
      have z1 := one_load' j4
      have z2 := one_load' j5
      have zf := frozen_of_row _ _ 0 _ _ j5
      have J5 := Hd.mk j5
      have J7 := Hd.mk j7
      have hm0 : m - (((walkP l kind root ⟨#[]⟩).1.flatten.length : Nat) : Int) = 0 := by omega
      rw [hm0] at z1
      clear j4 j5 j6 j7 j1 j2 j3
      gi_wp2_with fail
      have hk2 := (heap_setCell_other W' ⟨w.heap.size + 1 + 1 + 1, 0, none⟩ D (.bool true) (by show D ≠ w.heap.size + 1 + 1 + 1; omega)).trans hk
      have hb5 := J7.out.grown (grown_cell (g := w.heap.size + 1 + 1 + 1) (i := 0) (Value.bool true)) J7.out.size (fun k e => by injection e with e; omega)
      have x5 := (grownBy_putObj' (W'.setCell ⟨w.heap.size + 1 + 1 + 1, 0, none⟩ (.bool true)) D (.deferred none)).cell (one_load' (heap_setCell_same W' (w.heap.size + 1 + 1 + 1) 0 _ 4 (.bool true) J5.out)) (fun e => by injection e with e; first | (have e2 : D = w.heap.size + 1 + 1 + 1 := e; omega) | (have e2 : w.heap.size + 1 + 1 + 1 = D := e; omega))
      have hb6 := hb5.grown (grownBy_putObj' (W'.setCell ⟨w.heap.size + 1 + 1 + 1, 0, none⟩ (.bool true)) D (.deferred none)) hb5.size (fun k e => by injection e with e; omega)
      refine ⟨by simp, .inl ⟨_, _, rfl, run_takeDeferred hk2, ?_⟩⟩
      exact ⟨.bool true, by simp [results, Try.f17, go_sem, x5], rfl, hb6⟩
    case body =>
      rintro r pre x v u C W' hl ⟨i1, i2, i3, ⟨j1, j2, j3⟩, j4, j5, j6, j7⟩ he hCl hsz hp
      obtain ⟨rfl, rfl⟩ : v = .string x.1 ∧ u = .int .i64 x.2 := by
        have e1 : #[v, u] = #[Value.string x.1, .int .i64 x.2] := he
        simpa using e1
      have hfx : Hd (findP l kind root x.1 = (x.2, true, 0)) := ⟨hfa x (by obtain ⟨t, ht⟩ := hp; rw [← ht]; simp)⟩
      have hpre : pre.length + 1 ≤ (walkP l kind root ⟨#[]⟩).1.flatten.length := by have := hp.length_le; simpa using this
      have hwr : IntKind.i64.wrap (m - (pre.length : Int) - 1) = m - (pre.length : Int) - 1 := by rw [IntKind.wrap_i64]; omega
      have hd9 := below_drew' W'
      have HJ := Hd.mk (And.intro i1 (And.intro i2 (And.intro i3 (And.intro j4 (And.intro j5 j7)))))
      have HCL := Hd.mk hCl
      have J1 := Hd.mk j1
      have J2 := Hd.mk j2
      have J3 := Hd.mk j3
      have J6 := Hd.mk j6
      have hj7 := j7.size
      have hnbW : nb < W'.heap.size := (Array.getElem?_eq_some_iff.1 j4).1
      have HSB := fun W (b : Below W'.heap.size W' W) => And.intro ((b.block w.heap.size (by omega)).trans J1.out) (And.intro ((b.block (w.heap.size + 1) (by omega)).trans J2.out) ((b.block (w.heap.size + 1 + 1) (by omega)).trans J3.out))
      clear i1 i2 i3 j1 j2 j3 j4 j5 j6 j7 hCl hp he hl
      simp only [List.setIfInBounds_toArray, List.set_cons_zero, List.set_cons_succ]
      gi_wp2_with fail
      refine region_zoneR 13 [false, false, false, false, false, false, false, false, false, false, false, false, false] (by kernel_rfl) (by kernel_rfl) hmix (by kernel_rfl) (fun w' => w'.heap[w.heap.size]? = some (.cells #[.slice A n c] 22 (0, 0)) ∧ w'.heap[w.heap.size + 1]? = some (.cells #[.int .u8 (kind.toNat : Int)] 5 (0, 0)) ∧ w'.heap[w.heap.size + 1 + 1]? = some (.cells #[.int .i64 root] 3 (0, 0))) [] ?_ (fun hS => ?_)
      · exact ⟨J1.out, J2.out, J3.out⟩
      refine wpAnyZ_take (i := 0) (oi := ⟨_, _, _, _, _, _⟩) (v := ?_) rfl (by decide +kernel) (fun _ _ _ h => h) (Or.inl ⟨by rfl, ?_⟩) hS ?_
      rotate_left
      focus (intro w hSw; (try dsimp only at hSw); (obtain ⟨y1, y2, y3⟩ := hSw; have x1 := one_load' y1; have x2 := one_load' y2; have x3 := one_load' y3; clear y1 y2 y3); go_simp; (try with_reducible rfl); done)
      simp only [Act.put, List.setIfInBounds_toArray, List.set_cons_zero, List.set_cons_succ]
      refine wpAnyZ_take (i := 2) (oi := ⟨_, _, _, _, _, _⟩) (v := ?_) rfl (by decide +kernel) (fun _ _ _ h => h) (Or.inl ⟨by rfl, ?_⟩) hS ?_
      rotate_left
      focus (intro w hSw; (try dsimp only at hSw); (obtain ⟨y1, y2, y3⟩ := hSw; have x1 := one_load' y1; have x2 := one_load' y2; have x3 := one_load' y3; clear y1 y2 y3); go_simp; (try with_reducible rfl); done)
      simp only [Act.put, List.setIfInBounds_toArray, List.set_cons_zero, List.set_cons_succ]
      refine wpAnyZ_take (i := 3) (oi := ⟨_, _, _, _, _, _⟩) (v := ?_) rfl (by decide +kernel) (fun _ _ _ h => h) (Or.inl ⟨by rfl, ?_⟩) hS ?_
      rotate_left
      focus (intro w hSw; (try dsimp only at hSw); (obtain ⟨y1, y2, y3⟩ := hSw; have x1 := one_load' y1; have x2 := one_load' y2; have x3 := one_load' y3; clear y1 y2 y3); go_simp; (try with_reducible rfl); done)
      simp only [Act.put, List.setIfInBounds_toArray, List.set_cons_zero, List.set_cons_succ]
      refine wpAnyZ_take0 (i := 4) (oi := ⟨_, _, _, _, _, _⟩) (v := ?_) rfl (by decide +kernel) (fun _ _ _ h => h) (Or.inl ⟨by rfl, ?_⟩) (fun _ => hS) ?_
      rotate_left
      focus (intro w _; go_simp; (try with_reducible rfl); done)
      simp only [Act.put, List.setIfInBounds_toArray, List.set_cons_zero, List.set_cons_succ]
      refine wpAnyZ_one (i := 1) rfl (by decide +kernel) (fun K hKK => ?_)
      go_simp
      refine (bytes66w A n c l W'.drew (J6.out.below hd9) hn).mono ?_
      rintro e w8 ⟨A8, n8, c8, rfl, o8, b8, ba8⟩
      have hnc8 := (Own8.le o8).1
      have hl8 : n8 ≤ 140737488355328 := by rw [← Own8.len o8, J6.out.len]; exact hn
      have S8 := Hd.mk (hd9.trans (b8.mono hd9.size))
      have s8 := S8.out.size
      clear hS
      have hS := HSB _ S8.out
      refine hKK.out _ _ (fun _ => hS) ?_
      clear hKK
      simp only [List.setIfInBounds_toArray, List.set_cons_zero, List.set_cons_succ]
      refine wpAnyZ_one (i := 5) rfl (by decide +kernel) (fun K hKK => ?_)
      go_simp
      have HF := find68 A8 n8 c8 l kind root x.1 w8 (Own8.rd o8) hl8 hnc8 hlo hhi
      rw [hfx.out] at HF
      refine HF.mono ?_
      rintro e w9 ⟨rfl, b9⟩
      have S9 := Hd.mk (S8.out.trans (b9.mono s8))
      have s9 := S9.out.size
      clear hS
      have hS := HSB _ S9.out
      refine hKK.out _ _ (fun _ => hS) ?_
      clear hKK
      refine wpAnyZ_take0 (i := 6) (oi := ⟨_, _, _, _, _, _⟩) (v := ?_) rfl (by decide +kernel) (fun _ _ _ h => h) (Or.inl ⟨by rfl, ?_⟩) (fun _ => hS) ?_
      rotate_left
      focus (intro w _; go_simp; (try with_reducible rfl); done)
      simp only [Act.put, List.setIfInBounds_toArray, List.set_cons_zero, List.set_cons_succ]
      refine wpAnyZ_take0 (i := 7) (oi := ⟨_, _, _, _, _, _⟩) (v := ?_) rfl (by decide +kernel) (fun _ _ _ h => h) (Or.inl ⟨by rfl, ?_⟩) (fun _ => hS) ?_
      rotate_left
      focus (intro w _; go_simp; (try with_reducible rfl); done)
      simp only [Act.put, List.setIfInBounds_toArray, List.set_cons_zero, List.set_cons_succ]
      refine wpAnyZ_take0 (i := 8) (oi := ⟨_, _, _, _, _, _⟩) (v := ?_) rfl (by decide +kernel) (fun _ _ _ h => h) (Or.inl ⟨by rfl, ?_⟩) (fun _ => hS) ?_
      rotate_left
      focus (intro w _; go_simp; (try with_reducible rfl); done)
      simp only [Act.put, List.setIfInBounds_toArray, List.set_cons_zero, List.set_cons_succ]
      refine wpAnyZ_take0 (i := 9) (oi := ⟨_, _, _, _, _, _⟩) (v := ?_) rfl (by decide +kernel) (fun _ _ _ h => h) (Or.inl ⟨by rfl, ?_⟩) (fun _ => hS) ?_
      rotate_left
      focus (intro w _; go_simp; (try with_reducible rfl); done)
      simp only [Act.put, List.setIfInBounds_toArray, List.set_cons_zero, List.set_cons_succ]
      refine wpAnyZ_take0 (i := 10) (oi := ⟨_, _, _, _, _, _⟩) (v := ?_) rfl (by decide +kernel) (fun _ _ _ h => h) (Or.inl ⟨by rfl, ?_⟩) (fun _ => hS) ?_
      rotate_left
      focus (intro w _; go_simp; (try with_reducible rfl); done)
      simp only [Act.put, List.setIfInBounds_toArray, List.set_cons_zero, List.set_cons_succ]
      refine wpAnyZ_take0 (i := 11) (oi := ⟨_, _, _, _, _, _⟩) (v := ?_) rfl (by decide +kernel) (fun _ _ _ h => h) (Or.inl ⟨by rfl, ?_⟩) (fun _ => hS) ?_
      rotate_left
      focus (intro w _; go_simp; (try with_reducible rfl); done)
      simp only [Act.put, List.setIfInBounds_toArray, List.set_cons_zero, List.set_cons_succ]
      refine wpAnyZ_take0 (i := 12) (oi := ⟨_, _, _, _, _, _⟩) (v := ?_) rfl (by decide +kernel) (fun _ _ _ h => h) (Or.inl ⟨by rfl, ?_⟩) (fun _ => hS) ?_
      rotate_left
      focus (intro w _; go_simp; (try with_reducible rfl); done)
      simp only [Act.put, List.setIfInBounds_toArray, List.set_cons_zero, List.set_cons_succ]
      refine wpAnyZ_done (by decide +kernel) ?_
      have K4 := Hd.mk ((S9.out.block nb hnbW).trans HJ.out.2.2.2.1)
      have x7 := one_load' K4.out
      have f7 := frozen_of_row _ _ 0 _ _ K4.out
      clear HSB hS ba8 o8 b8 b9 hd9
      gi_wp2_with fail
      have hso : ∀ (v : Value) (k : Nat), k ≠ nb → k < W'.heap.size → (w9.setCell ⟨nb, 0, none⟩ v).heap[k]? = W'.heap[k]? := fun v k hk hl => (heap_setCell_other w9 ⟨nb, 0, none⟩ k v hk).trans (S9.out.block k hl)
      have hbz : ∀ v : Value, Below w.heap.size w (w9.setCell ⟨nb, 0, none⟩ v) := fun v => (HJ.out.2.2.2.2.2.trans (S9.out.mono (by omega))).grown (grown_cell (g := nb) (i := 0) v) (by omega) (fun k e => by injection e with e; omega)
      refine ⟨(Tch.of_below S9.out).trans (Tch.setCell _ _ nb 0 _ (.inl (.inl HJ.out.1))), .inl HJ.out.1, .inl HJ.out.2.1, fun k hk => hk.elim (HJ.out.2.2.1 k) (fun h => by omega), ⟨(hso _ _ (by omega) (by omega)).trans J1.out, (hso _ _ (by omega) (by omega)).trans J2.out, (hso _ _ (by omega) (by omega)).trans J3.out⟩, ?_,
        (hso _ _ (by omega) (by omega)).trans HJ.out.2.2.2.2.1, h.below (hbz _), hbz _⟩
      rw [show m - ((pre ++ [x]).length : Int) = m - (pre.length : Int) - 1 by simp; omega]
      exact (heap_setCell_same _ nb 0 _ 3 _ K4.out).trans rfl
  · have hm0 := check_zero hck.out he
    subst hm0
    have h25 : ((er : Int) == 0) = false := by simp; exact he
    gi_wp2_with fail
    have HBE := Hd.mk (HB4.out.grown (grown_cell (g := w.heap.size + 1 + 1 + 1) (i := 0) (Value.bool true)) HB4.out.size (fun k e => by injection e with e; omega))
    have HX := Hd.mk (one_load' (heap_setCell_same w4 (w.heap.size + 1 + 1 + 1) 0 _ 4 (Value.bool true) YR.out))
    obtain ⟨w5, hw5⟩ : ∃ w5, Hd (w4.setCell ⟨w.heap.size + 1 + 1 + 1, 0, none⟩ (Value.bool true) = w5) := ⟨_, ⟨rfl⟩⟩
    rw [hw5.out] at HBE HX
    try rw [hw5.out]
    have x5 := HX.out
    exact ⟨.bool true, by simp [results, Try.f17, go_sem, x5], rfl, HBE.out⟩
end Go.Proofs.Ytkgdcglnkodgnaa
namespace Go.Proofs.Ytkgdcglnkodgnaa.treeAny
open Go.ChangeShapes Go.WideShapes Go.ChangeAt Go.RowKit
open Go.ChangeMaps (open_string shut_string)
set_option maxRecDepth 100000 in
theorem lifted (os : Os) (started : os.Started) (H : Type) (enc : TypeId × Value → H) :
    ReturnsInHanded {} Try.checked os 17 .any (Rows.treeAnySpec.pre6 enc Try.prog Try.f17 Rows.treeAnyRow.domain false) (Rows.treeAnySpec.post enc Try.prog Try.f17 false true false false) := by
  refine returnsInHanded_of_change_sized (C := Try.checked) try_own started (by kernel_rfl) Try.func17
    (ChangeSpec.witness6 (enc := enc) (C := Try.checked) false ⟨#[], #[.slice none 0 0, .int .u8 0, .int .i64 0], []⟩ 8 (by kernel_rfl) (by kernel_rfl) (by kernel_rfl) (by kernel_rfl)) ?_
  intro W base args ds gs before hval0 hW _ hsz0 _
  have hval : ∀ (j : Nat) t v, Try.f17.params[j]? = some t → args[j]? = some v → Value.okWide Try.prog W .any base t v := hval0
  have hsz : (DataW.weightsEach Try.prog (Try.f17.params.toList ++ Rows.treeAnySpec.plain.varTypes Try.prog) (ds ++ gs)).all (· ≤ reachBytes) = true := hsz0
  have hW' := hW
  obtain ⟨p, q, hA0, hV, rfl, hfz, hnd⟩ := hW
  have hA : DataW.TrodAll enc Try.prog W 0 (fun _ => true) true Try.f17.params.toList args.toList ds p := hA0
  rw [Try.params17] at hA hval hsz
  obtain ⟨v0, vs0, d0, ds0, p0, q0, hargs, rfl, rfl, h0, r0⟩ := trodAll_cons hA
  obtain ⟨v1, vs1, d1, ds1, p1, q1, rfl, rfl, rfl, h1, r1⟩ := trodAll_cons r0
  obtain ⟨v2, vs2, d2, ds2, p2, q2, rfl, rfl, rfl, h2, r2⟩ := trodAll_cons r1
  obtain ⟨rfl, rfl, rfl⟩ := trodAll_nil r2
  obtain rfl : args = #[v0, v1, v2] := by cases args; simp_all
  obtain ⟨rfl, rfl⟩ := trodVars_none hV
  have k0 := h0
  have lt0 : ∀ x ∈ p0, x.block < W.heap.size := by obtain ⟨m, hm⟩ := k0; exact DataW.trod_lt m _ _ _ hm
  obtain ⟨A0, n0, c0, l0, hv0, r80, nc0, hd0⟩ := open8 h0 (hval 0 22 v0 rfl rfl)
  subst hv0
  have b0 : n0 ≤ 140737488355328 := by
    rcases hd0 with h0 | ⟨es, sp, hd, hl⟩
    · omega
    · have := sized_slice hsz (j := 0) (t := 22) (e := 5) rfl (by rw [← hd]; rfl) Try.underlying22
      rw [try_bytes5, hl] at this
      simp only [reachBytes] at this
      omega
  obtain ⟨a1, rfl, rfl, rfl, w1⟩ := open_int Try.underlying5 (hval 1 5 v1 rfl rfl) h1
  have bd1 := bounds_u8 w1
  obtain ⟨k1, rfl⟩ : ∃ k : UInt8, a1 = (k.toNat : Int) := ⟨UInt8.ofNat a1.toNat, by simp; omega⟩
  obtain ⟨a2, rfl, rfl, rfl, w2⟩ := open_int Try.underlying3 (hval 2 3 v2 rfl rfl) h2
  have bd2 := bounds_i64 w2
  clear hA0 hval0 hsz0
  refine (callsIn_wide.1 (treeAny17 A0 n0 c0 l0 k1 a2 W r80 b0 bd2.1 bd2.2)).mono fun e W' ⟨he, bel⟩ => ?_
  subst he
  exact ⟨_, rfl, _, _, _, [], _, [], hW', trodAll_mk1 (shut_bool Try.underlying4 _), (trodAll_cons_mk (Below.trod try_laidOut (by kernel_rfl) (of_decide_eq_true (by kernel_rfl)) k0 bel lt0) (trodAll_cons_mk (shut_int Try.underlying5 w1) (trodAll_cons_mk (shut_int Try.underlying3 w2) trodAll_mk0))), rfl, bel.frame _, fun h => by cases h⟩

theorem over : Rows.treeAnyRow.holds Try.pinned (OpenSpec.ofChange Rows.treeAnySpec) :=
  OpenClaim.holds_of_wide 17 Try.f17 rfl rfl rfl rfl rfl rfl rfl ⟨rfl, rfl, rfl, rfl, rfl⟩ rfl rfl rfl rfl rfl (by kernel_rfl) Try.func17 (by kernel_rfl)
    (of_decide_eq_true (by kernel_rfl)) (by unfold Func.isWrapper; first | (rw [if_pos (by decide +kernel)]; kernel_rfl) | (rw [if_neg (by decide +kernel)]; exact ⟨rfl, rfl⟩))
    (fun os started H enc _ => lifted os started H enc)
end Go.Proofs.Ytkgdcglnkodgnaa.treeAny
namespace Go.Proofs.Ytkgdcglnkodgnaa
theorem treeAny_holds : Rows.TreeAnySaid := treeAny.over
#print axioms treeAny_holds
end Go.Proofs.Ytkgdcglnkodgnaa
