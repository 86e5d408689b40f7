/-
  A region that draws its order, in a round of a range over a function under the wide fence: it may be walked by the plain moves ('wpAnyH'). No condition.
-/
import Derived.Deep.RegionHeld3
import Derived.CallsIn
import Derived.OrdersIn
import Derived.Test.YtkgdcglnkodgnaaRange
namespace Go.Proofs.Ytkgdcglnkodgnaa
open Go.RowKit
section
variable {P : Program} {ops : Array Oper} {Q : Exit → Act → World → Prop} {md : Region.Mode} {r n : Nat}
theorem operIn_round {o : Oper} {a : Act} {w : World} {K : Act → World → Prop} (hnd : ∀ c, o.op ≠ .defer c) (h : o.wp P a w K Q) : o.wpIn (Fence.wide.inRound r) n P a w K Q := by
  refine ⟨fun _ _ => trivial, ?_⟩
  rw [Oper.semAt_eq _ _ _ hnd]
  unfold Oper.wp at h
  generalize (execOp a.eval o).run P w = res at *
  have hd : ∀ {p : Prop}, (Fence.wide.inRound r).depth.isSome = true → p := fun h => by cases h
  cases res with
  | ok x w' =>
    cases x with
    | value v => exact h
    | skip => exact h
    | defer d => exact h
    | enter f args => exact ⟨hd, callsIn_wide.2 h⟩
    | row row args => exact ⟨hd, fun c cs _ => let ⟨v, w', hr, s⟩ := h c cs; ⟨v, w', hr, stepsIn_wide.2 s⟩⟩
    | _ => exact h.elim
  | halt x w' => cases x <;> exact h
theorem wpOpIn_round {i : Nat} {a : Act} {w : World} {K : Act → World → Prop} (hnd : ∀ (i : Nat) (o : Oper) c, ops[i]? = some o → o.op ≠ .defer c) (hno : ¬ LetsOut Q) (h : wpOp P ops Q i K a w) : wpOpIn (Fence.wide.inRound r) n P ops Q i K a w := by
  unfold wpOp at h
  unfold wpOpIn
  split
  · rename_i he; simp only [he] at h; exact h
  · rename_i o he
    simp only [he] at h
    split
    · rename_i hw
      rw [if_pos hw] at h
      exact operIn_round (fun c => hnd i o c he) (h.resolve_right fun h => hno h.2)
    · rename_i hw
      rw [if_neg hw] at h
      exact ⟨fun _ _ => trivial, h⟩
theorem wpAnyIn_round (hnd : ∀ (i : Nat) (o : Oper) c, ops[i]? = some o → o.op ≠ .defer c) (hno : ¬ LetsOut Q) : ∀ (fuel : Nat) (listed : Array Bool) (a : Act) (w : World),
    wpAny P md ops Q fuel listed a w → wpAnyIn (Fence.wide.inRound r) n P md ops Q fuel listed a w
  | 0, _, _, _, h => h
  | fuel + 1, _, _, _, h => ⟨h.1, fun i hi => wpOpIn_mono (fun a w h => wpAnyIn_round hnd hno fuel _ a w h) (wpOpIn_round hnd hno (h.2 i hi))⟩
/-- No operation is a defer statement. -/
def noDefer (ops : Array Oper) : Bool := ops.all fun o => match o.op with | .defer _ => false | _ => true
theorem noDefer_spec (h : noDefer ops = true) : ∀ (i : Nat) (o : Oper) c, ops[i]? = some o → o.op ≠ .defer c := fun i o c hi e => by
  have hm : o ∈ ops := Array.mem_of_getElem? hi
  have := (Array.all_eq_true_iff_forall_mem.1 h) o hm
  rw [e] at this
  cases this
/-- The region, by the held moves. -/
theorem region_held_round {id : Nat} {a : Act} {w : World} (k : Nat) (ls : List Bool) (hk : ops.size = k) (hl : ls = List.replicate k false) (hm : P.follows .mixedOrders = true) (hnd : noDefer ops = true) (hno : ¬ LetsOut Q) (S : World → Prop) (hS : S w.drew)
    (h : S w.drew → wpAnyH P .any ops Q S k ls.toArray a w.drew) : (Code.region id ops true).wpIn (Fence.wide.inRound r) n P Q a w :=
  wpIn_region_any hm (wpAnyIn_round (noDefer_spec hnd) hno _ _ _ _ (wpAny_of_held _ _ _ _ (by
    have e : ls.toArray = Array.replicate ops.size false := by rw [hl, hk]; simp
    rw [← e, hk]
    exact h hS)))
/-- What is asked at a region's end alone: it is left normally. -/
def onlyN (Q : Exit → Act → World → Prop) : Exit → Act → World → Prop
  | .normal, a, w => Q .normal a w
  | _, _, _ => False
theorem onlyN_to {e : Exit} {a : Act} {w : World} (h : onlyN Q e a w) : Q e a w := by
  cases e <;> first | exact h | exact h.elim
theorem done_only {S : World → Prop} {fuel : Nat} {listed : Array Bool} {a : Act} {w : World} (hr : Region.ready md ops listed = []) (h : Q .normal a w) : wpAnyH P md ops (onlyN Q) S fuel listed a w := wpAnyH_done (Q := onlyN Q) hr h fuel
/-- The region, by the held moves: outside a round. -/
theorem region_wide {id : Nat} {a : Act} {w : World} (k : Nat) (ls : List Bool) (hk : ops.size = k) (hl : ls = List.replicate k false) (hm : P.follows .mixedOrders = true) (S : World → Prop) (hS : S w.drew)
    (h : S w.drew → wpAnyH P .any ops (onlyN Q) S k ls.toArray a w.drew) : (Code.region id ops true).wpIn Fence.wide n P Q a w :=
  wpIn_wide.2 (wp_mono (wp_region_held (S := S) hm (by
    have e : ls.toArray = Array.replicate ops.size false := by rw [hl, hk]; simp
    rw [← e, hk]
    exact h hS)) (fun _ _ _ h => onlyN_to h))
/-- The region, by the held moves: in a plain walk. -/
theorem region_plain {id : Nat} {a : Act} {w : World} (k : Nat) (ls : List Bool) (hk : ops.size = k) (hl : ls = List.replicate k false) (hm : P.follows .mixedOrders = true) (S : World → Prop) (hS : S w.drew)
    (h : S w.drew → wpAnyH P .any ops (onlyN Q) S k ls.toArray a w.drew) : (Code.region id ops true).wp P Q a w :=
  wpIn_wide.1 (region_wide (n := 0) k ls hk hl hm S hS h)
/-- The region, by the held moves: in a round. -/
theorem region_round {id : Nat} {a : Act} {w : World} (k : Nat) (ls : List Bool) (hk : ops.size = k) (hl : ls = List.replicate k false) (hm : P.follows .mixedOrders = true) (hnd : noDefer ops = true) (S : World → Prop) (hS : S w.drew)
    (h : S w.drew → wpAnyH P .any ops (onlyN Q) S k ls.toArray a w.drew) : (Code.region id ops true).wpIn (Fence.wide.inRound r) n P Q a w :=
  wpIn_mono (region_held_round (Q := onlyN Q) k ls hk hl hm hnd (fun ⟨_, _, h⟩ => h) S hS h) (fun _ _ _ h => onlyN_to h)
end
end Go.Proofs.Ytkgdcglnkodgnaa
