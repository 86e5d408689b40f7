/-
  The document's walk over a tree: its state, its leaf (162). No condition but sizes.
-/
import Derived.Test.YtkgdcglnkodgnaaRf
import Derived.Test.YtkgdcglnkodgnaaTreeD
import Derived.Test.YtkgdcglnkodgnaaNavM
import Derived.Test.YtkgdcglnkodgnaaCk
import Derived.Test.YtkgdcglnkodgnaaPr
namespace Go.Proofs.Ytkgdcglnkodgnaa
open Go.RowKit
/-- The state of the document's walk. -/
structure RS where
  out : List Kp
  read : Nat
  last : ByteArray
  bad : Nat
  many : Nat
/-- What a walk looks for. -/
structure RQ where
  most : Int
  key : ByteArray
  whole : Bool
def addR (q : RQ) : List Kp → List Kp → List Kp
  | out, [] => out
  | out, p :: r => if (out.length : Int) < q.most then addR q (if q.whole = false ∧ leK q.key p.1 = true then out ++ [p] else out) r else out
def leafR (q : RQ) (ps : List Kp) (s : RS) : RS :=
  if ps = [] then s
  else if 0 < s.read ∧ headLe ps s.last = true then { s with bad := 202 }
  else { out := addR q s.out ps, read := s.read + 1, last := lastKey ps, bad := s.bad, many := s.many + ps.length }
theorem addR_len (q : RQ) : ∀ (ps out : List Kp), (addR q out ps).length ≤ out.length + ps.length
  | [], out => Nat.le_refl _
  | p :: r, out => by
    rw [addR]
    split
    · have h := addR_len q r (if q.whole = false ∧ leK q.key p.1 = true then out ++ [p] else out)
      split at h
      · rename_i h1; rw [if_pos h1]; simp only [List.length_append, List.length_cons, List.length_nil] at h ⊢; omega
      · rename_i h1; rw [if_neg h1]; simp only [List.length_cons] at h ⊢; omega
    · simp
/-- The walk in memory. -/
def WkR (w : World) (g : Nat) (A : Option Addr) (n c : Nat) (kind : UInt8) (q : RQ) (s : RS) (O : Option Addr) (on oc : Nat) : Prop :=
  w.heap[g]? = some (.cells #[.slice A n c, .int .u8 (kind.toNat : Int), .int .i64 q.most, .slice O on oc, .string q.key, .int .i64 (s.read : Int), .string s.last, .int .i64 (s.bad : Int), .bool q.whole, .int .i64 (s.many : Int)] 185 (0, 0))
theorem wkr_load {w : World} {g : Nat} {a b c d e f h i j k : Value} (hh : w.heap[g]? = some (.cells #[a, b, c, d, e, f, h, i, j, k] 185 (0, 0))) :
    w.cell? ⟨g, 0, none⟩ = some a ∧ w.cell? ⟨g, 1, none⟩ = some b ∧ w.cell? ⟨g, 2, none⟩ = some c ∧ w.cell? ⟨g, 3, none⟩ = some d ∧ w.cell? ⟨g, 4, none⟩ = some e ∧
    w.cell? ⟨g, 5, none⟩ = some f ∧ w.cell? ⟨g, 6, none⟩ = some h ∧ w.cell? ⟨g, 7, none⟩ = some i ∧ w.cell? ⟨g, 8, none⟩ = some j ∧ w.cell? ⟨g, 9, none⟩ = some k :=
  ⟨(cell_of_row _ _ 0 _ _ _ hh).trans rfl, (cell_of_row _ _ 1 _ _ _ hh).trans rfl, (cell_of_row _ _ 2 _ _ _ hh).trans rfl, (cell_of_row _ _ 3 _ _ _ hh).trans rfl, (cell_of_row _ _ 4 _ _ _ hh).trans rfl,
   (cell_of_row _ _ 5 _ _ _ hh).trans rfl, (cell_of_row _ _ 6 _ _ _ hh).trans rfl, (cell_of_row _ _ 7 _ _ _ hh).trans rfl, (cell_of_row _ _ 8 _ _ _ hh).trans rfl, (cell_of_row _ _ 9 _ _ _ hh).trans rfl⟩
/-- What a walk may write. -/
def FW (g : Nat) (O : Option Addr) (oc : Nat) : Nat → Prop := fun k => k = g ∨ ownBlk O oc = some k
/-- The walk and what it has gathered. -/
def WkO (w : World) (g : Nat) (A : Option Addr) (n c : Nat) (kind : UInt8) (q : RQ) (s : RS) (O : Option Addr) (on oc : Nat) : Prop := WkR w g A n c kind q s O on oc ∧ OwnK w (g + 1) O on oc s.out
/-- How a step of the walk leaves memory. -/
def StW (w : World) (g : Nat) (A : Option Addr) (n c : Nat) (kind : UInt8) (q : RQ) (s : RS) (O : Option Addr) (oc : Nat) (w' : World) : Prop :=
  ∃ O' on' oc', WkO w' g A n c kind q s O' on' oc' ∧ Tch (FW g O oc) w w' ∧ ∀ k, ownBlk O' oc' = some k → ownBlk O oc = some k ∨ w.heap.size ≤ k
theorem fw_up {g : Nat} {O O' : Option Addr} {oc oc' : Nat} {w wr : World} (h : ∀ k, ownBlk O' oc' = some k → ownBlk O oc = some k ∨ w.heap.size ≤ k) : ∀ k, k < wr.heap.size → FW g O' oc' k → up (FW g O oc) w wr k := fun k hk hf =>
  hf.elim (fun e => .inl (.inl e)) (fun e => (h k e).elim (fun e => .inl (.inr e)) (fun e => .inr ⟨e, hk⟩))
theorem StW.then_ {w w1 w2 : World} {g : Nat} {A : Option Addr} {n c : Nat} {kind : UInt8} {q : RQ} {s' : RS} {O O1 : Option Addr} {oc oc1 : Nat} (h1 : Tch (FW g O oc) w w1) (h2 : ∀ k, ownBlk O1 oc1 = some k → ownBlk O oc = some k ∨ w.heap.size ≤ k)
    (h : StW w1 g A n c kind q s' O1 oc1 w2) : StW w g A n c kind q s' O oc w2 := by
  obtain ⟨O', on', oc', h3, h4, h5⟩ := h
  exact ⟨O', on', oc', h3, h1.trans (h4.mono (fw_up h2)), fun k e => (h5 k e).elim (h2 k) (fun h => .inr (Nat.le_trans h1.size h))⟩
theorem head_get {p : Kp} {r : List Kp} {k : ByteArray} : headLe (p :: r) k = leK p.1 k := rfl
/-- The cells of a walk. -/
def wkC (A : Option Addr) (n c : Nat) (kind : UInt8) (q : RQ) (s : RS) (O : Option Addr) (on oc : Nat) : Array Value :=
  #[.slice A n c, .int .u8 (kind.toNat : Int), .int .i64 q.most, .slice O on oc, .string q.key, .int .i64 (s.read : Int), .string s.last, .int .i64 (s.bad : Int), .bool q.whole, .int .i64 (s.many : Int)]
/-- Memory in the middle of a leaf: the walk, the node, its pairs; w0: where the call began. -/
structure LfS (w0 w : World) (g : Nat) (A : Option Addr) (n c : Nat) (kind : UInt8) (q : RQ) (s : RS) (O : Option Addr) (on oc bx : Nat) (m : Int) (P : Option Addr) (pn pc : Nat) (ps : List Kp) (O0 : Option Addr) (oc0 : Nat) : Prop where
  wk : WkR w g A n c kind q s O on oc
  own : OwnK w (g + 1) O on oc s.out
  nd : NodeAt w bx m P pn pc
  pos : 0 < pn
  rd : RdK w P pn ps
  pg : ∀ ad, P = some ad → ad.block ≠ g ∧ ¬ ownBlk O oc = some ad.block
  bxg : bx ≠ g ∧ ¬ ownBlk O oc = some bx
  tch : Tch (FW g O0 oc0) w0 w
  up : ∀ k, ownBlk O oc = some k → ownBlk O0 oc0 = some k ∨ w0.heap.size ≤ k
section
variable {w0 w w' : World} {g : Nat} {A : Option Addr} {n c : Nat} {kind : UInt8} {q : RQ} {s s' : RS} {O : Option Addr} {on oc bx : Nat} {m : Int} {P : Option Addr} {pn pc : Nat} {ps : List Kp} {O0 : Option Addr} {oc0 : Nat}
theorem LfS.below (h : LfS w0 w g A n c kind q s O on oc bx m P pn pc ps O0 oc0) (hb : Below w.heap.size w w') : LfS w0 w' g A n c kind q s O on oc bx m P pn pc ps O0 oc0 :=
  ⟨(hb.block g (Array.getElem?_eq_some_iff.1 h.wk).1).trans h.wk, Own.below h.own hb, (hb.block bx (Array.getElem?_eq_some_iff.1 h.nd).1).trans h.nd, h.pos, Rd.below h.rd hb, h.pg, h.bxg, h.tch.trans (Tch.of_below hb), h.up⟩
theorem LfS.rdT (h : LfS w0 w g A n c kind q s O on oc bx m P pn pc ps O0 oc0) {row : Option Nat} (hg : w.grownBy w' row) (hr : ∀ ad, P = some ad → row ≠ some ad.block) : RdK w' P pn ps := by
  refine ⟨h.rd.1, fun hn => ?_⟩
  obtain ⟨ad, hA, hc⟩ := h.rd.2 hn
  refine ⟨ad, hA, fun j u hu => ?_⟩
  exact hg.cell (hc j u hu) (fun e => hr ad hA (by rw [← e, block_add]))
theorem LfS.set (h : LfS w0 w g A n c kind q s O on oc bx m P pn pc ps O0 oc0) {i : Nat} {v : Value} (e : (wkC A n c kind q s O on oc).setIfInBounds i v = wkC A n c kind q s' O on oc) (ho : s'.out = s.out) : LfS w0 (w.setCell ⟨g, i, none⟩ v) g A n c kind q s' O on oc bx m P pn pc ps O0 oc0 := by
  have hg := grown_cell (w := w) (g := g) (i := i) v
  refine ⟨?_, ?_, ?_, h.pos, ?_, h.pg, h.bxg, h.tch.trans (Tch.setCell _ _ g i v (.inl (.inl (.inl rfl)))), h.up⟩
  · have := heap_setCell_same w g i _ 185 v h.wk
    exact this.trans (congrArg (fun x => some (Obj.cells x 185 (0, 0))) e)
  · rw [ho]
    exact Own.grown h.own hg (fun x hx e => by injection e with e; have := (Own.lt h.own hx).1; omega)
  · exact (hg.block bx (Array.getElem?_eq_some_iff.1 h.nd).1 (fun e => by injection e with e; exact h.bxg.1 e)).trans h.nd
  · exact h.rdT hg (fun ad hP e => by injection e with e; exact (h.pg ad hP).1 e.symm)
theorem LfS.app (h : LfS w0 w g A n c kind q s O on oc bx m P pn pc ps O0 oc0) {w2 : World} {O' : Option Addr} {oc' : Nat} {out' : List Kp} (hs : w0.heap.size ≤ w.heap.size) (ho : OwnK w2 (g + 1) O' (on + 1) oc' out') (hg : w.grownBy w2 (ownBlk O oc)) (hO : (O' = O ∧ oc' = oc ∧ on + 1 ≤ oc) ∨ O' = some ⟨w.heap.size, 0, none⟩) :
    LfS w0 (w2.setCell ⟨g, 3, none⟩ (.slice O' (on + 1) oc')) g A n c kind q { s with out := out' } O' (on + 1) oc' bx m P pn pc ps O0 oc0 := by
  have hgl : g < w.heap.size := (Array.getElem?_eq_some_iff.1 h.wk).1
  have hbl : bx < w.heap.size := (Array.getElem?_eq_some_iff.1 h.nd).1
  have hgo : ownBlk O oc ≠ some g := fun e => by have := (Own.lt h.own e).1; omega
  have hw2 : WkR w2 g A n c kind q s O on oc := (hg.block g hgl (fun e => hgo e.symm)).trans h.wk
  have hn2 : NodeAt w2 bx m P pn pc := (hg.block bx hbl (fun e => h.bxg.2 e.symm)).trans h.nd
  have hr2 : RdK w2 P pn ps := h.rdT hg (fun ad hP e => (h.pg ad hP).2 e)
  have hg2 := grown_cell (w := w2) (g := g) (i := 3) (.slice O' (on + 1) oc')
  have hsame : ∀ k, ownBlk O' oc' = some k → ownBlk O oc = some k ∨ w.heap.size = k := fun k e => by
    rcases hO with ⟨rfl, rfl, _⟩ | rfl
    · exact .inl e
    · right
      unfold ownBlk at e
      split at e
      · cases e
      · simpa using e
  have hPlt : ∀ ad, P = some ad → 0 < pn → ad.block < w.heap.size := fun ad hP hpn => by
    obtain ⟨ad', hP', hc⟩ := h.rd.2 hpn
    rw [hP] at hP'; injection hP' with hP'; subst hP'
    have hl : 0 < (kc ps).length := by rw [h.rd.1]; omega
    have := cell_lt (hc 0 _ (List.getElem?_eq_getElem hl))
    rwa [block_add] at this
  refine ⟨?_, ?_, ?_, h.pos, ?_, fun ad hP => ⟨(h.pg ad hP).1, fun e => ?_⟩, ⟨h.bxg.1, fun e => ?_⟩, ?_, fun k e => ?_⟩
  · exact (heap_setCell_same w2 g 3 _ 185 _ hw2).trans rfl
  · exact Own.grown ho hg2 (fun x hx e => by injection e with e; have := (Own.lt ho hx).1; omega)
  · exact (hg2.block bx (Array.getElem?_eq_some_iff.1 hn2).1 (fun e => by injection e with e; exact h.bxg.1 e)).trans hn2
  · refine ⟨hr2.1, fun hn => ?_⟩
    obtain ⟨ad, hA, hc⟩ := hr2.2 hn
    exact ⟨ad, hA, fun j u hu => hg2.cell (hc j u hu) (fun e => by injection e with e; rw [block_add] at e; exact (h.pg ad hA).1 (by first | exact e | exact e.symm))⟩
  · rcases hsame _ e with e | e
    · exact (h.pg ad hP).2 e
    · have := hPlt ad hP h.pos; omega
  · rcases hsame _ e with e | e
    · exact h.bxg.2 e
    · omega
  · have t1 : Tch (FW g O0 oc0) w0 w2 := h.tch.trans (Tch.of_grown hg (fun k e => by
      left
      rcases h.up k e with h1 | h1
      · exact .inl (.inr h1)
      · exact .inr ⟨h1, (Own.lt h.own e).2⟩))
    exact t1.trans (Tch.setCell _ _ g 3 _ (.inl (.inl (.inl rfl))))
  · rcases hsame _ e with e | e
    · exact h.up k e
    · right; omega
theorem LfS.three (h : LfS w0 w g A n c kind q s O on oc bx m P pn pc ps O0 oc0) : WkR w g A n c kind q s O on oc ∧ NodeAt w bx m P pn pc ∧ RdK w P pn ps := ⟨h.wk, h.nd, h.rd⟩
theorem LfS.keep3 (h : LfS w0 w g A n c kind q s O on oc bx m P pn pc ps O0 oc0) {w2 : World} (hg : w.grownBy w2 (ownBlk O oc)) : WkR w2 g A n c kind q s O on oc ∧ NodeAt w2 bx m P pn pc ∧ RdK w2 P pn ps := by
  have hgl : g < w.heap.size := (Array.getElem?_eq_some_iff.1 h.wk).1
  have hbl : bx < w.heap.size := (Array.getElem?_eq_some_iff.1 h.nd).1
  have hgo : ownBlk O oc ≠ some g := fun e => by have := (Own.lt h.own e).1; omega
  exact ⟨(hg.block g hgl (fun e => hgo e.symm)).trans h.wk, (hg.block bx hbl (fun e => h.bxg.2 e.symm)).trans h.nd, h.rdT hg (fun ad hP e => (h.pg ad hP).2 e)⟩
theorem LfS.step (h : LfS w0 w g A n c kind q s O on oc bx m P pn pc ps O0 oc0) (hs : StW w g A n c kind q s' O oc w') : ∃ O' on' oc', LfS w0 w' g A n c kind q s' O' on' oc' bx m P pn pc ps O0 oc0 := by
  obtain ⟨O', on', oc', hw, ht, hu⟩ := hs
  have hbl : bx < w.heap.size := (Array.getElem?_eq_some_iff.1 h.nd).1
  have hPlt : ∀ ad, P = some ad → ad.block < w.heap.size := fun ad hP => by
    obtain ⟨ad', hP', hc⟩ := h.rd.2 h.pos
    rw [hP] at hP'; injection hP' with hP'; subst hP'
    have hl : 0 < (kc ps).length := by rw [h.rd.1]; have := h.pos; omega
    have := cell_lt (hc 0 _ (List.getElem?_eq_getElem hl))
    rwa [block_add] at this
  refine ⟨O', on', oc', hw.1, hw.2, (ht.block bx hbl (fun e => e.elim h.bxg.1 h.bxg.2)).trans h.nd, h.pos, ⟨h.rd.1, fun hn => ?_⟩, fun ad hP => ⟨(h.pg ad hP).1, fun e => (hu _ e).elim (h.pg ad hP).2 (fun h1 => by have := hPlt ad hP; omega)⟩,
    ⟨h.bxg.1, fun e => (hu _ e).elim h.bxg.2 (fun h1 => by omega)⟩, h.tch.trans (ht.mono (fw_up h.up)), fun k e => (hu k e).elim (h.up k) (fun h1 => .inr (Nat.le_trans h.tch.size h1))⟩
  obtain ⟨ad, hA, hc⟩ := h.rd.2 hn
  refine ⟨ad, hA, fun j u hu2 => ?_⟩
  have hb : (ad.add j).block = ad.block := block_add _ _
  rw [World.cell?_of_block (w := w) (ht.block _ (by rw [hb]; exact hPlt ad hA) (fun e => by rw [hb] at e; exact e.elim (h.pg ad hA).1 (h.pg ad hA).2))]
  exact hc j u hu2
theorem LfS.end_ (h : LfS w0 w g A n c kind q s O on oc bx m P pn pc ps O0 oc0) : StW w0 g A n c kind q s O0 oc0 w := ⟨O, on, oc, ⟨h.wk, h.own⟩, h.tch, h.up⟩
end
set_option maxRecDepth 100000 in
set_option maxHeartbeats 4000000 in
theorem rleaf162 (g : Nat) (A : Option Addr) (n c : Nat) (kind : UInt8) (q : RQ) (s : RS) (O : Option Addr) (on oc : Nat) (m : Int) (P : Option Addr) (pn pc : Nat) (ps : List Kp) (bg : Bool) (w : World) (hW : WkO w g A n c kind q s O on oc) (hp : RdK w P pn ps) (hpn : pn ≤ 256)
    (hPg : 0 < pn → ∀ ad, P = some ad → ad.block ≠ g ∧ ¬ ownBlk O oc = some ad.block) (hb1 : s.read ≤ 4194304) (hb2 : s.many ≤ 4194304) (hb3 : on ≤ 4194304) :
    Calls Try.prog 162 #[.pointer (some ⟨g, 0, none⟩), .agg #[.int .i64 m, .slice P pn pc], .bool bg] w fun e w' => e = .returned (.tuple #[]) ∧ StW w g A n c kind q (leafR q ps s) O oc w' := by
  have hmix := try_mixed
  have hgl := Hd.mk (Array.getElem?_eq_some_iff.1 hW.1).1
  have hpl := Hd.mk hp.len
  obtain ⟨bx, hbx⟩ : ∃ bx, w.heap.size = bx := ⟨_, rfl⟩
  obtain ⟨W, hW0⟩ : ∃ W, Hd (w.alloc (.cells #[.int .i64 m, .slice P pn pc] 188) = W) := ⟨_, ⟨rfl⟩⟩
  have BW : Hd (Below w.heap.size w W) := ⟨by rw [← hW0.out]; exact (Below.refl _ _).alloc (Nat.le_refl _) _⟩
  have HN : Hd (NodeAt W bx m P pn pc) := ⟨by rw [← hW0.out, ← hbx]; exact node_new w m P pn pc⟩
  have hgb : g < bx := by rw [← hbx]; exact hgl.out
  have HL : Hd (0 < pn → LfS w W g A n c kind q s O on oc bx m P pn pc ps O oc) := ⟨fun hpos => ⟨(BW.out.block g hgl.out).trans hW.1, Own.below hW.2 BW.out, HN.out, hpos, Rd.below hp BW.out, hPg hpos, ⟨by omega, fun e => by have := (Own.lt hW.2 e).2; omega⟩, Tch.of_below BW.out, fun k e => .inl e⟩⟩
  have HS0 : Hd (StW w g A n c kind q s O oc W) := ⟨⟨O, on, oc, ⟨(BW.out.block g hgl.out).trans hW.1, Own.below hW.2 BW.out⟩, Tch.of_below BW.out, fun k e => .inl e⟩⟩
  clear hp hPg hW BW
  go_enter Try.func162, Try.ntmps162
  go_upto_region 1 with fail
  rw [hW0.out]
  try rw [hbx]
  obtain ⟨u0, u1, u2, u3⟩ := HN.out.load
  cases hpe : ps with
  | nil =>
    subst hpe
    obtain rfl : pn = 0 := hpl.out.symm
    have hr : Hd (leafR q [] s = s) := ⟨by unfold leafR; rw [if_pos rfl]⟩
    go_wp2_with fail
    refine bodyPost_ret (results_none rfl _ _ _) rfl ?_
    rw [hr.out]
    exact ⟨rfl, HS0.out⟩
  | cons p r =>
    subst hpe
    obtain ⟨k, rfl⟩ : ∃ k, pn = k + 1 := ⟨r.length, by have := hpl.out; simp at this; omega⟩
    obtain ⟨pk, hpk⟩ : ∃ pk, Hd ((p :: r)[k]? = some pk) := ⟨(p :: r)[k]'(by have := hpl.out; omega), ⟨List.getElem?_eq_getElem _⟩⟩
    have hlk : Hd (lastKey (p :: r) = pk.1) := ⟨lastKey_get hpl.out hpk.out⟩
    have L0 := Hd.mk (HL.out (by omega))
    obtain ⟨ad, rfl⟩ : ∃ ad, P = some ad := by
      obtain ⟨ad, h, _⟩ := L0.out.rd.2 (by omega)
      exact ⟨ad, h⟩
    have QR : ∀ {w1 : World}, RdK w1 (some ad) (k + 1) (p :: r) → w1.cell? ad = some (.string p.1) ∧ w1.cell? (ad.add (k * 2)) = some (.string pk.1) := fun h => by
      obtain ⟨ad1, e1, q0, -⟩ := RdK.get (k := 0) (p := p) h rfl
      obtain ⟨ad2, e2, q2, -⟩ := RdK.get h hpk.out
      injection e1 with e1; injection e2 with e2; subst e1; subst e2
      exact ⟨by simpa [Addr.add] using q0, q2⟩
    have i0 : (((k + 1 : Nat) : Int) == 0) = false := by simp; omega
    have i2 : IntKind.i64.wrap (((k + 1 : Nat) : Int) - 1) = (k : Int) := by rw [IntKind.wrap_i64]; omega
    have i3 : (k : Int) < ((k + 1 : Nat) : Int) := by omega
    have i4 : (0 : Int) ≤ (k : Int) := by omega
    have i5 : (0 : Int) < ((k + 1 : Nat) : Int) := by omega
    by_cases hbad : 0 < s.read ∧ leK p.1 s.last = true
    · have hr : Hd (leafR q (p :: r) s = { s with bad := 202 }) := ⟨by unfold leafR; rw [if_neg (by simp), if_pos (by rw [head_get]; exact hbad)]⟩
      have c1 : decide ((s.read : Int) > 0) = true := by simp; omega
      have c2 : decide (0 < (s.read : Int)) = true := by simp; omega
      have c3 : decide (0 < s.read) = true := by simp; omega
      have c4 : (Op.bytesLess p.1.toList s.last.toList || p.1.toList == s.last.toList) = true := hbad.2
      clear hbad
      go_wp2_with fail
      clear u0 u1 u2 u3
      refine region_zone 17 [false, false, false, false, false, false, false, false, false, false, false, false, false, false, false, false, false] (by kernel_rfl) (by kernel_rfl) hmix (fun w' => LfS w w' g A n c kind q s O on oc bx m (some ad) (k + 1) pc (p :: r) O oc) [] ?_ (fun hS => ?_)
      · exact L0.out.below (below_drewK W)
      refine wpAnyZ_take0 (i := 0) (oi := ⟨_, _, _, _, _, _⟩) (v := ?_) rfl (by decide +kernel) (fun _ _ _ h => h) (Or.inl ⟨by rfl, ?_⟩) (fun _ => hS) ?_
      rotate_left
      focus (intro w _; go_simp; (try with_reducible rfl); done)
      simp only [Act.put, List.setIfInBounds_toArray, List.set_cons_zero, List.set_cons_succ]
      refine wpAnyZ_take0 (i := 1) (oi := ⟨_, _, _, _, _, _⟩) (v := ?_) rfl (by decide +kernel) (fun _ _ _ h => h) (Or.inl ⟨by rfl, ?_⟩) (fun _ => hS) ?_
      rotate_left
      focus (intro w _; go_simp; (try with_reducible rfl); done)
      simp only [Act.put, List.setIfInBounds_toArray, List.set_cons_zero, List.set_cons_succ]
      refine wpAnyZ_take0 (i := 2) (oi := ⟨_, _, _, _, _, _⟩) (v := ?_) rfl (by decide +kernel) (fun _ _ _ h => h) (Or.inl ⟨by rfl, ?_⟩) (fun _ => hS) ?_
      rotate_left
      focus (intro w _; go_simp; (try with_reducible rfl); done)
      simp only [Act.put, List.setIfInBounds_toArray, List.set_cons_zero, List.set_cons_succ]
      refine wpAnyZ_take (i := 3) (oi := ⟨_, _, _, _, _, _⟩) (v := ?_) rfl (by decide +kernel) (fun _ _ _ h => h) (Or.inl ⟨by rfl, ?_⟩) hS ?_
      rotate_left
      focus (intro w hSw; (try dsimp only at hSw); (obtain ⟨z0, z1, z2, z3, z4, z5, z6, z7, z8, z9⟩ := wkr_load hSw.wk; obtain ⟨u0, u1, u2, u3⟩ := hSw.nd.load; obtain ⟨y0, y1⟩ := QR hSw.rd; clear hSw); go_simp; (try with_reducible rfl); done)
      simp only [Act.put, List.setIfInBounds_toArray, List.set_cons_zero, List.set_cons_succ]
      refine wpAnyZ_take0 (i := 4) (oi := ⟨_, _, _, _, _, _⟩) (v := ?_) rfl (by decide +kernel) (fun _ _ _ h => h) (Or.inl ⟨by rfl, ?_⟩) (fun _ => hS) ?_
      rotate_left
      focus (intro w _; go_simp; (try with_reducible rfl); done)
      simp only [Act.put, List.setIfInBounds_toArray, List.set_cons_zero, List.set_cons_succ]
      refine wpAnyZ_take0 (i := 5) (oi := ⟨_, _, _, _, _, _⟩) (v := ?_) rfl (by decide +kernel) (fun _ _ _ h => h) (Or.inl ⟨by rfl, ?_⟩) (fun _ => hS) ?_
      rotate_left
      focus (intro w _; go_simp; (try with_reducible rfl); done)
      simp only [Act.put, List.setIfInBounds_toArray, List.set_cons_zero, List.set_cons_succ]
      first
        | (refine wpAnyZ_take0 (i := 6) (oi := ⟨_, _, _, _, _, _⟩) (v := undef) rfl (by decide +kernel) (fun _ _ _ h => h) (Or.inr ⟨by rfl, rfl⟩) (fun _ => hS) ?_)
        | (refine wpAnyZ_take0 (i := 6) (oi := ⟨_, _, _, _, _, _⟩) (v := ?_) rfl (by decide +kernel) (fun _ _ _ h => h) (Or.inl ⟨by rfl, ?_⟩) (fun _ => hS) ?_; rotate_left; focus (intro w hSw; go_simp; (try with_reducible rfl); done))
      simp only [Act.put, List.setIfInBounds_toArray, List.set_cons_zero, List.set_cons_succ]
      first
        | (refine wpAnyZ_take (i := 7) (oi := ⟨_, _, _, _, _, _⟩) (v := undef) rfl (by decide +kernel) (fun _ _ _ h => h) (Or.inr ⟨by rfl, rfl⟩) hS ?_)
        | (refine wpAnyZ_take (i := 7) (oi := ⟨_, _, _, _, _, _⟩) (v := ?_) rfl (by decide +kernel) (fun _ _ _ h => h) (Or.inl ⟨by rfl, ?_⟩) hS ?_; rotate_left; focus (intro w hSw; (try dsimp only at hSw); (obtain ⟨z0, z1, z2, z3, z4, z5, z6, z7, z8, z9⟩ := wkr_load hSw.wk; obtain ⟨u0, u1, u2, u3⟩ := hSw.nd.load; obtain ⟨y0, y1⟩ := QR hSw.rd; clear hSw); go_simp; (try with_reducible rfl); done))
      simp only [Act.put, List.setIfInBounds_toArray, List.set_cons_zero, List.set_cons_succ]
      first
        | (refine wpAnyZ_take0 (i := 8) (oi := ⟨_, _, _, _, _, _⟩) (v := undef) rfl (by decide +kernel) (fun _ _ _ h => h) (Or.inr ⟨by rfl, rfl⟩) (fun _ => hS) ?_)
        | (refine wpAnyZ_take0 (i := 8) (oi := ⟨_, _, _, _, _, _⟩) (v := ?_) rfl (by decide +kernel) (fun _ _ _ h => h) (Or.inl ⟨by rfl, ?_⟩) (fun _ => hS) ?_; rotate_left; focus (intro w hSw; go_simp; (try with_reducible rfl); done))
      simp only [Act.put, List.setIfInBounds_toArray, List.set_cons_zero, List.set_cons_succ]
      first
        | (refine wpAnyZ_take0 (i := 9) (oi := ⟨_, _, _, _, _, _⟩) (v := undef) rfl (by decide +kernel) (fun _ _ _ h => h) (Or.inr ⟨by rfl, rfl⟩) (fun _ => hS) ?_)
        | (refine wpAnyZ_take0 (i := 9) (oi := ⟨_, _, _, _, _, _⟩) (v := ?_) rfl (by decide +kernel) (fun _ _ _ h => h) (Or.inl ⟨by rfl, ?_⟩) (fun _ => hS) ?_; rotate_left; focus (intro w hSw; go_simp; (try with_reducible rfl); done))
      simp only [Act.put, List.setIfInBounds_toArray, List.set_cons_zero, List.set_cons_succ]
      first
        | (refine wpAnyZ_take (i := 10) (oi := ⟨_, _, _, _, _, _⟩) (v := undef) rfl (by decide +kernel) (fun _ _ _ h => h) (Or.inr ⟨by rfl, rfl⟩) hS ?_)
        | (refine wpAnyZ_take (i := 10) (oi := ⟨_, _, _, _, _, _⟩) (v := ?_) rfl (by decide +kernel) (fun _ _ _ h => h) (Or.inl ⟨by rfl, ?_⟩) hS ?_; rotate_left; focus (intro w hSw; (try dsimp only at hSw); (obtain ⟨z0, z1, z2, z3, z4, z5, z6, z7, z8, z9⟩ := wkr_load hSw.wk; obtain ⟨u0, u1, u2, u3⟩ := hSw.nd.load; obtain ⟨y0, y1⟩ := QR hSw.rd; clear hSw); go_simp; (try with_reducible rfl); done))
      simp only [Act.put, List.setIfInBounds_toArray, List.set_cons_zero, List.set_cons_succ]
      first
        | (refine wpAnyZ_take0 (i := 11) (oi := ⟨_, _, _, _, _, _⟩) (v := undef) rfl (by decide +kernel) (fun _ _ _ h => h) (Or.inr ⟨by rfl, rfl⟩) (fun _ => hS) ?_)
        | (refine wpAnyZ_take0 (i := 11) (oi := ⟨_, _, _, _, _, _⟩) (v := ?_) rfl (by decide +kernel) (fun _ _ _ h => h) (Or.inl ⟨by rfl, ?_⟩) (fun _ => hS) ?_; rotate_left; focus (intro w hSw; go_simp; (try with_reducible rfl); done))
      simp only [Act.put, List.setIfInBounds_toArray, List.set_cons_zero, List.set_cons_succ]
      first
        | (refine wpAnyZ_take0 (i := 12) (oi := ⟨_, _, _, _, _, _⟩) (v := undef) rfl (by decide +kernel) (fun _ _ _ h => h) (Or.inr ⟨by rfl, rfl⟩) (fun _ => hS) ?_)
        | (refine wpAnyZ_take0 (i := 12) (oi := ⟨_, _, _, _, _, _⟩) (v := ?_) rfl (by decide +kernel) (fun _ _ _ h => h) (Or.inl ⟨by rfl, ?_⟩) (fun _ => hS) ?_; rotate_left; focus (intro w hSw; go_simp; (try with_reducible rfl); done))
      simp only [Act.put, List.setIfInBounds_toArray, List.set_cons_zero, List.set_cons_succ]
      first
        | (refine wpAnyZ_take0 (i := 13) (oi := ⟨_, _, _, _, _, _⟩) (v := undef) rfl (by decide +kernel) (fun _ _ _ h => h) (Or.inr ⟨by rfl, rfl⟩) (fun _ => hS) ?_)
        | (refine wpAnyZ_take0 (i := 13) (oi := ⟨_, _, _, _, _, _⟩) (v := ?_) rfl (by decide +kernel) (fun _ _ _ h => h) (Or.inl ⟨by rfl, ?_⟩) (fun _ => hS) ?_; rotate_left; focus (intro w hSw; go_simp; (try with_reducible rfl); done))
      simp only [Act.put, List.setIfInBounds_toArray, List.set_cons_zero, List.set_cons_succ]
      first
        | (refine wpAnyZ_take (i := 14) (oi := ⟨_, _, _, _, _, _⟩) (v := undef) rfl (by decide +kernel) (fun _ _ _ h => h) (Or.inr ⟨by rfl, rfl⟩) hS ?_)
        | (refine wpAnyZ_take (i := 14) (oi := ⟨_, _, _, _, _, _⟩) (v := ?_) rfl (by decide +kernel) (fun _ _ _ h => h) (Or.inl ⟨by rfl, ?_⟩) hS ?_; rotate_left; focus (intro w hSw; (try dsimp only at hSw); (obtain ⟨z0, z1, z2, z3, z4, z5, z6, z7, z8, z9⟩ := wkr_load hSw.wk; obtain ⟨u0, u1, u2, u3⟩ := hSw.nd.load; obtain ⟨y0, y1⟩ := QR hSw.rd; clear hSw); go_simp; (try with_reducible rfl); done))
      simp only [Act.put, List.setIfInBounds_toArray, List.set_cons_zero, List.set_cons_succ]
      first
        | (refine wpAnyZ_take0 (i := 15) (oi := ⟨_, _, _, _, _, _⟩) (v := undef) rfl (by decide +kernel) (fun _ _ _ h => h) (Or.inr ⟨by rfl, rfl⟩) (fun _ => hS) ?_)
        | (refine wpAnyZ_take0 (i := 15) (oi := ⟨_, _, _, _, _, _⟩) (v := ?_) rfl (by decide +kernel) (fun _ _ _ h => h) (Or.inl ⟨by rfl, ?_⟩) (fun _ => hS) ?_; rotate_left; focus (intro w hSw; go_simp; (try with_reducible rfl); done))
      simp only [Act.put, List.setIfInBounds_toArray, List.set_cons_zero, List.set_cons_succ]
      refine wpAnyZ_take0 (i := 16) (oi := ⟨_, _, _, _, _, _⟩) (v := ?_) rfl (by decide +kernel) (fun _ _ _ h => h) (Or.inl ⟨by rfl, ?_⟩) (fun _ => hS) ?_
      rotate_left
      focus (intro w _; go_simp; (try with_reducible rfl); done)
      simp only [Act.put, List.setIfInBounds_toArray, List.set_cons_zero, List.set_cons_succ]
      refine wpAnyZ_done (by decide +kernel) ?_
      have L1 := Hd.mk (L0.out.below (below_drewK W))
      have z7 := (wkr_load L1.out.wk).2.2.2.2.2.2.2.1
      have f7 := frozen_of_row W.drew g 7 _ _ L1.out.wk
      clear hS
      go_wp2_with fail
      refine bodyPost_ret (results_none rfl _ _ _) rfl ?_
      rw [hr.out]
      exact ⟨rfl, (L1.out.set (i := 7) (v := .int .i64 202) (s' := { s with bad := 202 }) rfl rfl).end_⟩
    · obtain ⟨s1, hs1⟩ : ∃ s1 : RS, s1 = { s with read := s.read + 1, last := pk.1, many := s.many + (k + 1) } := ⟨_, rfl⟩
      have hr : Hd (leafR q (p :: r) s = { s1 with out := addR q s.out (p :: r) }) := ⟨by
        unfold leafR
        rw [if_neg (by simp), if_neg (by rw [head_get]; exact hbad), hlk.out, hpl.out, hs1]⟩
      have hc4 : (decide ((s.read : Int) > 0) = false ∧ decide (0 < (s.read : Int)) = false ∧ decide (0 < s.read) = false) ∨ ((decide ((s.read : Int) > 0) = true ∧ decide (0 < (s.read : Int)) = true ∧ decide (0 < s.read) = true) ∧ (Op.bytesLess p.1.toList s.last.toList || p.1.toList == s.last.toList) = false) := by
        by_cases h0 : 0 < s.read
        · right
          refine ⟨⟨by simp; omega, by simp; omega, by simp; omega⟩, ?_⟩
          cases h4 : leK p.1 s.last
          · exact h4
          · exact absurd ⟨h0, h4⟩ hbad
        · left; exact ⟨by simp; omega, by simp; omega, by simp; omega⟩
      have i6 : IntKind.i64.wrap ((s.read : Int) + 1) = ((s.read + 1 : Nat) : Int) := by rw [IntKind.wrap_i64]; omega
      have i7 : IntKind.i64.wrap ((s.many : Int) + ((k : Int) + 1)) = ((s.many + (k + 1) : Nat) : Int) := by rw [IntKind.wrap_i64]; omega
      clear hbad
      rcases hc4 with ⟨c1, c2, c3⟩ | ⟨⟨c1, c2, c3⟩, c4⟩
      all_goals
        go_wp2_with fail
        clear u0 u1 u2 u3
        refine region_zone 17 [false, false, false, false, false, false, false, false, false, false, false, false, false, false, false, false, false] (by kernel_rfl) (by kernel_rfl) hmix (fun w' => LfS w w' g A n c kind q s O on oc bx m (some ad) (k + 1) pc (p :: r) O oc) [] ?_ (fun hS => ?_)
        · exact L0.out.below (below_drewK W)
        refine wpAnyZ_take0 (i := 0) (oi := ⟨_, _, _, _, _, _⟩) (v := ?_) rfl (by decide +kernel) (fun _ _ _ h => h) (Or.inl ⟨by rfl, ?_⟩) (fun _ => hS) ?_
        rotate_left
        focus (intro w _; go_simp; (try with_reducible rfl); done)
        simp only [Act.put, List.setIfInBounds_toArray, List.set_cons_zero, List.set_cons_succ]
        refine wpAnyZ_take0 (i := 1) (oi := ⟨_, _, _, _, _, _⟩) (v := ?_) rfl (by decide +kernel) (fun _ _ _ h => h) (Or.inl ⟨by rfl, ?_⟩) (fun _ => hS) ?_
        rotate_left
        focus (intro w _; go_simp; (try with_reducible rfl); done)
        simp only [Act.put, List.setIfInBounds_toArray, List.set_cons_zero, List.set_cons_succ]
        refine wpAnyZ_take0 (i := 2) (oi := ⟨_, _, _, _, _, _⟩) (v := ?_) rfl (by decide +kernel) (fun _ _ _ h => h) (Or.inl ⟨by rfl, ?_⟩) (fun _ => hS) ?_
        rotate_left
        focus (intro w _; go_simp; (try with_reducible rfl); done)
        simp only [Act.put, List.setIfInBounds_toArray, List.set_cons_zero, List.set_cons_succ]
        refine wpAnyZ_take (i := 3) (oi := ⟨_, _, _, _, _, _⟩) (v := ?_) rfl (by decide +kernel) (fun _ _ _ h => h) (Or.inl ⟨by rfl, ?_⟩) hS ?_
        rotate_left
        focus (intro w hSw; (try dsimp only at hSw); (obtain ⟨z0, z1, z2, z3, z4, z5, z6, z7, z8, z9⟩ := wkr_load hSw.wk; obtain ⟨u0, u1, u2, u3⟩ := hSw.nd.load; obtain ⟨y0, y1⟩ := QR hSw.rd; clear hSw); go_simp; (try with_reducible rfl); done)
        simp only [Act.put, List.setIfInBounds_toArray, List.set_cons_zero, List.set_cons_succ]
        refine wpAnyZ_take0 (i := 4) (oi := ⟨_, _, _, _, _, _⟩) (v := ?_) rfl (by decide +kernel) (fun _ _ _ h => h) (Or.inl ⟨by rfl, ?_⟩) (fun _ => hS) ?_
        rotate_left
        focus (intro w _; go_simp; (try with_reducible rfl); done)
        simp only [Act.put, List.setIfInBounds_toArray, List.set_cons_zero, List.set_cons_succ]
        refine wpAnyZ_take0 (i := 5) (oi := ⟨_, _, _, _, _, _⟩) (v := ?_) rfl (by decide +kernel) (fun _ _ _ h => h) (Or.inl ⟨by rfl, ?_⟩) (fun _ => hS) ?_
        rotate_left
        focus (intro w _; go_simp; (try with_reducible rfl); done)
        simp only [Act.put, List.setIfInBounds_toArray, List.set_cons_zero, List.set_cons_succ]
        first
          | (refine wpAnyZ_take0 (i := 6) (oi := ⟨_, _, _, _, _, _⟩) (v := undef) rfl (by decide +kernel) (fun _ _ _ h => h) (Or.inr ⟨by rfl, rfl⟩) (fun _ => hS) ?_)
          | (refine wpAnyZ_take0 (i := 6) (oi := ⟨_, _, _, _, _, _⟩) (v := ?_) rfl (by decide +kernel) (fun _ _ _ h => h) (Or.inl ⟨by rfl, ?_⟩) (fun _ => hS) ?_; rotate_left; focus (intro w hSw; go_simp; (try with_reducible rfl); done))
        simp only [Act.put, List.setIfInBounds_toArray, List.set_cons_zero, List.set_cons_succ]
        first
          | (refine wpAnyZ_take (i := 7) (oi := ⟨_, _, _, _, _, _⟩) (v := undef) rfl (by decide +kernel) (fun _ _ _ h => h) (Or.inr ⟨by rfl, rfl⟩) hS ?_)
          | (refine wpAnyZ_take (i := 7) (oi := ⟨_, _, _, _, _, _⟩) (v := ?_) rfl (by decide +kernel) (fun _ _ _ h => h) (Or.inl ⟨by rfl, ?_⟩) hS ?_; rotate_left; focus (intro w hSw; (try dsimp only at hSw); (obtain ⟨z0, z1, z2, z3, z4, z5, z6, z7, z8, z9⟩ := wkr_load hSw.wk; obtain ⟨u0, u1, u2, u3⟩ := hSw.nd.load; obtain ⟨y0, y1⟩ := QR hSw.rd; clear hSw); go_simp; (try with_reducible rfl); done))
        simp only [Act.put, List.setIfInBounds_toArray, List.set_cons_zero, List.set_cons_succ]
        first
          | (refine wpAnyZ_take0 (i := 8) (oi := ⟨_, _, _, _, _, _⟩) (v := undef) rfl (by decide +kernel) (fun _ _ _ h => h) (Or.inr ⟨by rfl, rfl⟩) (fun _ => hS) ?_)
          | (refine wpAnyZ_take0 (i := 8) (oi := ⟨_, _, _, _, _, _⟩) (v := ?_) rfl (by decide +kernel) (fun _ _ _ h => h) (Or.inl ⟨by rfl, ?_⟩) (fun _ => hS) ?_; rotate_left; focus (intro w hSw; go_simp; (try with_reducible rfl); done))
        simp only [Act.put, List.setIfInBounds_toArray, List.set_cons_zero, List.set_cons_succ]
        first
          | (refine wpAnyZ_take0 (i := 9) (oi := ⟨_, _, _, _, _, _⟩) (v := undef) rfl (by decide +kernel) (fun _ _ _ h => h) (Or.inr ⟨by rfl, rfl⟩) (fun _ => hS) ?_)
          | (refine wpAnyZ_take0 (i := 9) (oi := ⟨_, _, _, _, _, _⟩) (v := ?_) rfl (by decide +kernel) (fun _ _ _ h => h) (Or.inl ⟨by rfl, ?_⟩) (fun _ => hS) ?_; rotate_left; focus (intro w hSw; go_simp; (try with_reducible rfl); done))
        simp only [Act.put, List.setIfInBounds_toArray, List.set_cons_zero, List.set_cons_succ]
        first
          | (refine wpAnyZ_take (i := 10) (oi := ⟨_, _, _, _, _, _⟩) (v := undef) rfl (by decide +kernel) (fun _ _ _ h => h) (Or.inr ⟨by rfl, rfl⟩) hS ?_)
          | (refine wpAnyZ_take (i := 10) (oi := ⟨_, _, _, _, _, _⟩) (v := ?_) rfl (by decide +kernel) (fun _ _ _ h => h) (Or.inl ⟨by rfl, ?_⟩) hS ?_; rotate_left; focus (intro w hSw; (try dsimp only at hSw); (obtain ⟨z0, z1, z2, z3, z4, z5, z6, z7, z8, z9⟩ := wkr_load hSw.wk; obtain ⟨u0, u1, u2, u3⟩ := hSw.nd.load; obtain ⟨y0, y1⟩ := QR hSw.rd; clear hSw); go_simp; (try with_reducible rfl); done))
        simp only [Act.put, List.setIfInBounds_toArray, List.set_cons_zero, List.set_cons_succ]
        first
          | (refine wpAnyZ_take0 (i := 11) (oi := ⟨_, _, _, _, _, _⟩) (v := undef) rfl (by decide +kernel) (fun _ _ _ h => h) (Or.inr ⟨by rfl, rfl⟩) (fun _ => hS) ?_)
          | (refine wpAnyZ_take0 (i := 11) (oi := ⟨_, _, _, _, _, _⟩) (v := ?_) rfl (by decide +kernel) (fun _ _ _ h => h) (Or.inl ⟨by rfl, ?_⟩) (fun _ => hS) ?_; rotate_left; focus (intro w hSw; go_simp; (try with_reducible rfl); done))
        simp only [Act.put, List.setIfInBounds_toArray, List.set_cons_zero, List.set_cons_succ]
        first
          | (refine wpAnyZ_take0 (i := 12) (oi := ⟨_, _, _, _, _, _⟩) (v := undef) rfl (by decide +kernel) (fun _ _ _ h => h) (Or.inr ⟨by rfl, rfl⟩) (fun _ => hS) ?_)
          | (refine wpAnyZ_take0 (i := 12) (oi := ⟨_, _, _, _, _, _⟩) (v := ?_) rfl (by decide +kernel) (fun _ _ _ h => h) (Or.inl ⟨by rfl, ?_⟩) (fun _ => hS) ?_; rotate_left; focus (intro w hSw; go_simp; (try with_reducible rfl); done))
        simp only [Act.put, List.setIfInBounds_toArray, List.set_cons_zero, List.set_cons_succ]
        first
          | (refine wpAnyZ_take0 (i := 13) (oi := ⟨_, _, _, _, _, _⟩) (v := undef) rfl (by decide +kernel) (fun _ _ _ h => h) (Or.inr ⟨by rfl, rfl⟩) (fun _ => hS) ?_)
          | (refine wpAnyZ_take0 (i := 13) (oi := ⟨_, _, _, _, _, _⟩) (v := ?_) rfl (by decide +kernel) (fun _ _ _ h => h) (Or.inl ⟨by rfl, ?_⟩) (fun _ => hS) ?_; rotate_left; focus (intro w hSw; go_simp; (try with_reducible rfl); done))
        simp only [Act.put, List.setIfInBounds_toArray, List.set_cons_zero, List.set_cons_succ]
        first
          | (refine wpAnyZ_take (i := 14) (oi := ⟨_, _, _, _, _, _⟩) (v := undef) rfl (by decide +kernel) (fun _ _ _ h => h) (Or.inr ⟨by rfl, rfl⟩) hS ?_)
          | (refine wpAnyZ_take (i := 14) (oi := ⟨_, _, _, _, _, _⟩) (v := ?_) rfl (by decide +kernel) (fun _ _ _ h => h) (Or.inl ⟨by rfl, ?_⟩) hS ?_; rotate_left; focus (intro w hSw; (try dsimp only at hSw); (obtain ⟨z0, z1, z2, z3, z4, z5, z6, z7, z8, z9⟩ := wkr_load hSw.wk; obtain ⟨u0, u1, u2, u3⟩ := hSw.nd.load; obtain ⟨y0, y1⟩ := QR hSw.rd; clear hSw); go_simp; (try with_reducible rfl); done))
        simp only [Act.put, List.setIfInBounds_toArray, List.set_cons_zero, List.set_cons_succ]
        first
          | (refine wpAnyZ_take0 (i := 15) (oi := ⟨_, _, _, _, _, _⟩) (v := undef) rfl (by decide +kernel) (fun _ _ _ h => h) (Or.inr ⟨by rfl, rfl⟩) (fun _ => hS) ?_)
          | (refine wpAnyZ_take0 (i := 15) (oi := ⟨_, _, _, _, _, _⟩) (v := ?_) rfl (by decide +kernel) (fun _ _ _ h => h) (Or.inl ⟨by rfl, ?_⟩) (fun _ => hS) ?_; rotate_left; focus (intro w hSw; go_simp; (try with_reducible rfl); done))
        simp only [Act.put, List.setIfInBounds_toArray, List.set_cons_zero, List.set_cons_succ]
        refine wpAnyZ_take0 (i := 16) (oi := ⟨_, _, _, _, _, _⟩) (v := ?_) rfl (by decide +kernel) (fun _ _ _ h => h) (Or.inl ⟨by rfl, ?_⟩) (fun _ => hS) ?_
        rotate_left
        focus (intro w _; go_simp; (try with_reducible rfl); done)
        simp only [Act.put, List.setIfInBounds_toArray, List.set_cons_zero, List.set_cons_succ]
        refine wpAnyZ_done (by decide +kernel) ?_
        have L1 := Hd.mk (L0.out.below (below_drewK W))
        clear hS
        generalize W.drew = W1 at L1 ⊢
        obtain ⟨z0, z1, z2, z3, z4, z5, z6, z7, z8, z9⟩ := wkr_load L1.out.wk
        have f5 := frozen_of_row W1 g 5 _ _ L1.out.wk
        go_upto_region 5 with fail
        have L2 := Hd.mk (L1.out.set (i := 5) (v := .int .i64 ((s.read : Int) + 1)) (s' := { s with read := s.read + 1 }) rfl rfl)
        generalize hW2 : W1.setCell ⟨g, 5, none⟩ _ = W2
        rw [hW2] at L2
        clear z0 z1 z2 z3 z4 z5 z6 z7 z8 z9 f5 hW2 L1
        obtain ⟨z0, z1, z2, z3, z4, z5, z6, z7, z8, z9⟩ := wkr_load L2.out.wk
        obtain ⟨u0, u1, u2, u3⟩ := L2.out.nd.load
        obtain ⟨y0, y1⟩ := QR L2.out.rd
        have f6 := frozen_of_row W2 g 6 _ _ L2.out.wk
        go_upto_region 6 with fail
        have L3 := Hd.mk (L2.out.set (i := 6) (v := .string pk.1) (s' := { s with read := s.read + 1, last := pk.1 }) rfl rfl)
        generalize hW3 : W2.setCell ⟨g, 6, none⟩ _ = W3
        rw [hW3] at L3
        clear z0 z1 z2 z3 z4 z5 z6 z7 z8 z9 f6 u0 u1 u2 u3 y0 y1 hW3 L2
        refine region_zone 12 [false, false, false, false, false, false, false, false, false, false, false, false] (by kernel_rfl) (by kernel_rfl) hmix (fun w' => LfS w w' g A n c kind q { s with read := s.read + 1, last := pk.1 } O on oc bx m (some ad) (k + 1) pc (p :: r) O oc) [11] ?_ (fun hS => ?_)
        · exact L3.out.below (below_drewK W3)
        refine wpAnyZ_take0 (i := 0) (oi := ⟨_, _, _, _, _, _⟩) (v := ?_) rfl (by decide +kernel) (fun _ _ _ h => h) (Or.inl ⟨by rfl, ?_⟩) (fun _ => hS) ?_
        rotate_left
        focus (intro w _; go_simp; (try with_reducible rfl); done)
        simp only [Act.put, List.setIfInBounds_toArray, List.set_cons_zero, List.set_cons_succ]
        refine wpAnyZ_take0 (i := 1) (oi := ⟨_, _, _, _, _, _⟩) (v := ?_) rfl (by decide +kernel) (fun _ _ _ h => h) (Or.inl ⟨by rfl, ?_⟩) (fun _ => hS) ?_
        rotate_left
        focus (intro w _; go_simp; (try with_reducible rfl); done)
        simp only [Act.put, List.setIfInBounds_toArray, List.set_cons_zero, List.set_cons_succ]
        refine wpAnyZ_take0 (i := 2) (oi := ⟨_, _, _, _, _, _⟩) (v := ?_) rfl (by decide +kernel) (fun _ _ _ h => h) (Or.inl ⟨by rfl, ?_⟩) (fun _ => hS) ?_
        rotate_left
        focus (intro w _; go_simp; (try with_reducible rfl); done)
        simp only [Act.put, List.setIfInBounds_toArray, List.set_cons_zero, List.set_cons_succ]
        refine wpAnyZ_take0 (i := 3) (oi := ⟨_, _, _, _, _, _⟩) (v := ?_) rfl (by decide +kernel) (fun _ _ _ h => h) (Or.inl ⟨by rfl, ?_⟩) (fun _ => hS) ?_
        rotate_left
        focus (intro w _; go_simp; (try with_reducible rfl); done)
        simp only [Act.put, List.setIfInBounds_toArray, List.set_cons_zero, List.set_cons_succ]
        refine wpAnyZ_take (i := 4) (oi := ⟨_, _, _, _, _, _⟩) (v := ?_) rfl (by decide +kernel) (fun _ _ _ h => h) (Or.inl ⟨by rfl, ?_⟩) hS ?_
        rotate_left
        focus (intro w hSw; (try dsimp only at hSw); (obtain ⟨z0, z1, z2, z3, z4, z5, z6, z7, z8, z9⟩ := wkr_load hSw.wk; obtain ⟨u0, u1, u2, u3⟩ := hSw.nd.load; clear hSw); go_simp; (try with_reducible rfl); done)
        simp only [Act.put, List.setIfInBounds_toArray, List.set_cons_zero, List.set_cons_succ]
        refine wpAnyZ_take0 (i := 5) (oi := ⟨_, _, _, _, _, _⟩) (v := ?_) rfl (by decide +kernel) (fun _ _ _ h => h) (Or.inl ⟨by rfl, ?_⟩) (fun _ => hS) ?_
        rotate_left
        focus (intro w _; go_simp; (try with_reducible rfl); done)
        simp only [Act.put, List.setIfInBounds_toArray, List.set_cons_zero, List.set_cons_succ]
        refine wpAnyZ_take (i := 6) (oi := ⟨_, _, _, _, _, _⟩) (v := ?_) rfl (by decide +kernel) (fun _ _ _ h => h) (Or.inl ⟨by rfl, ?_⟩) hS ?_
        rotate_left
        focus (intro w hSw; (try dsimp only at hSw); (obtain ⟨z0, z1, z2, z3, z4, z5, z6, z7, z8, z9⟩ := wkr_load hSw.wk; obtain ⟨u0, u1, u2, u3⟩ := hSw.nd.load; clear hSw); go_simp; (try with_reducible rfl); done)
        simp only [Act.put, List.setIfInBounds_toArray, List.set_cons_zero, List.set_cons_succ]
        refine wpAnyZ_take0 (i := 7) (oi := ⟨_, _, _, _, _, _⟩) (v := ?_) rfl (by decide +kernel) (fun _ _ _ h => h) (Or.inl ⟨by rfl, ?_⟩) (fun _ => hS) ?_
        rotate_left
        focus (intro w _; go_simp; (try with_reducible rfl); done)
        simp only [Act.put, List.setIfInBounds_toArray, List.set_cons_zero, List.set_cons_succ]
        refine wpAnyZ_take0 (i := 8) (oi := ⟨_, _, _, _, _, _⟩) (v := ?_) rfl (by decide +kernel) (fun _ _ _ h => h) (Or.inl ⟨by rfl, ?_⟩) (fun _ => hS) ?_
        rotate_left
        focus (intro w _; go_simp; (try with_reducible rfl); done)
        simp only [Act.put, List.setIfInBounds_toArray, List.set_cons_zero, List.set_cons_succ]
        refine wpAnyZ_take0 (i := 9) (oi := ⟨_, _, _, _, _, _⟩) (v := ?_) rfl (by decide +kernel) (fun _ _ _ h => h) (Or.inl ⟨by rfl, ?_⟩) (fun _ => hS) ?_
        rotate_left
        focus (intro w _; go_simp; (try with_reducible rfl); done)
        simp only [Act.put, List.setIfInBounds_toArray, List.set_cons_zero, List.set_cons_succ]
        refine wpAnyZ_take0 (i := 10) (oi := ⟨_, _, _, _, _, _⟩) (v := ?_) rfl (by decide +kernel) (fun _ _ _ h => h) (Or.inl ⟨by rfl, ?_⟩) (fun _ => hS) ?_
        rotate_left
        focus (intro w _; go_simp; (try with_reducible rfl); done)
        simp only [Act.put, List.setIfInBounds_toArray, List.set_cons_zero, List.set_cons_succ]
        have L4 := Hd.mk (L3.out.below (below_drewK W3))
        clear hS L3
        generalize W3.drew = W4 at L4 ⊢
        have z9 := (wkr_load L4.out.wk).2.2.2.2.2.2.2.2.2
        have f9 := frozen_of_row W4 g 9 _ _ L4.out.wk
        refine wpAnyZ_one (i := 11) rfl (by decide +kernel) (fun K hKK => ?_)
        go_simp
        refine hKK.out _ _ (fun hz => absurd hz (by decide +kernel)) ?_
        clear hKK
        refine wpAnyZ_done (by decide +kernel) ?_
        have L5 := Hd.mk (L4.out.set (i := 9) (v := .int .i64 ((s.many : Int) + ((k : Int) + 1))) (s' := s1) (by rw [hs1]; rfl) (by rw [hs1]))
        generalize hW5 : W4.setCell ⟨g, 9, none⟩ _ = W5
        rw [hW5] at L5
        have hon : Hd (on = s1.out.length) := ⟨by rw [← OwnK.len L5.out.own]⟩
        have hso : Hd (addR q s.out (p :: r) = addR q s1.out ((p :: r).drop 0)) := ⟨by rw [hs1]; rfl⟩
        clear z9 f9 hW5 L4 L0 HL HN HS0
        go_wp2_with fail
        go_loopw [6] (fun i wr => ∃ (j on' oc' : Nat) (O' : Option Addr) (out' : List Kp), i = .int .i64 (j : Int) ∧ j ≤ k + 1 ∧ on' ≤ on + j ∧ Hd (LfS w wr g A n c kind q { s1 with out := out' } O' on' oc' bx m (some ad) (k + 1) pc (p :: r) O oc) ∧ Hd (addR q s.out (p :: r) = addR q out' ((p :: r).drop j)))
          (fun i _ => k + 1 - (intOf i).toNat)
        case atStart => exact ⟨0, on, oc, O, s1.out, rfl, by omega, by omega, L5, hso⟩
        case round =>
          obtain ⟨j, on', oc', O', out', rfl, hj, hon', hL, hA⟩ := hrel
          have hlen : Hd (out'.length = on') := ⟨OwnK.len hL.out.own⟩
          by_cases hlt : j < k + 1
          · obtain ⟨pj, hpj⟩ : ∃ pj, Hd ((p :: r)[j]? = some pj) := ⟨(p :: r)[j]'(by have := hpl.out; omega), ⟨List.getElem?_eq_getElem _⟩⟩
            have hd : Hd ((p :: r).drop j = pj :: (p :: r).drop (j + 1)) := ⟨by
              obtain ⟨hk, e⟩ := List.getElem?_eq_some_iff.1 hpj.out
              rw [← e]; exact List.drop_eq_getElem_cons hk⟩
            have QJ : ∀ {w1 : World}, RdK w1 (some ad) (k + 1) (p :: r) → w1.cell? (ad.add (j * 2)) = some (.string pj.1) ∧ w1.cell? ⟨(ad.add (j * 2)).block, (ad.add (j * 2)).off + 1, none⟩ = some (.int .i64 pj.2) := fun h => by
              obtain ⟨ad1, e1, q0, q1⟩ := RdK.get h hpj.out
              injection e1 with e1; subst e1
              exact ⟨q0, q1⟩
            have j1 : (j : Int) < ((k + 1 : Nat) : Int) := by omega
            have j0 : (0 : Int) ≤ (j : Int) := by omega
            have j3 : (j : Int) < (k : Int) + 1 := by omega
            have j2 : decide ((j : Int) < ((k : Int) + 1)) = true := by simp; omega
            by_cases hmo : (on' : Int) < q.most
            · have m1 : decide ((on' : Int) < q.most) = true := by simpa using hmo
              have hA2 : Hd (addR q s.out (p :: r) = addR q (if q.whole = false ∧ leK q.key pj.1 = true then out' ++ [pj] else out') ((p :: r).drop (j + 1))) := ⟨by
                rw [hA.out, hd.out, addR, if_pos (by rw [hlen.out]; exact hmo)]⟩
              clear hA hd
              go_wp2_with fail
              refine region_zone 17 [false, false, false, false, false, false, false, false, false, false, false, false, false, false, false, false, false] (by kernel_rfl) (by kernel_rfl) hmix (fun w' => LfS w w' g A n c kind q { s1 with out := out' } O' on' oc' bx m (some ad) (k + 1) pc (p :: r) O oc) [] ?_ (fun hS => ?_)
              · exact hL.out.below (below_drewK wr)
              refine wpAnyZ_take0 (i := 0) (oi := ⟨_, _, _, _, _, _⟩) (v := ?_) rfl (by decide +kernel) (fun _ _ _ h => h) (Or.inl ⟨by rfl, ?_⟩) (fun _ => hS) ?_
              rotate_left
              focus (intro w _; go_simp; (try with_reducible rfl); done)
              simp only [Act.put, List.setIfInBounds_toArray, List.set_cons_zero, List.set_cons_succ]
              refine wpAnyZ_take0 (i := 1) (oi := ⟨_, _, _, _, _, _⟩) (v := ?_) rfl (by decide +kernel) (fun _ _ _ h => h) (Or.inl ⟨by rfl, ?_⟩) (fun _ => hS) ?_
              rotate_left
              focus (intro w _; go_simp; (try with_reducible rfl); done)
              simp only [Act.put, List.setIfInBounds_toArray, List.set_cons_zero, List.set_cons_succ]
              refine wpAnyZ_take (i := 2) (oi := ⟨_, _, _, _, _, _⟩) (v := ?_) rfl (by decide +kernel) (fun _ _ _ h => h) (Or.inl ⟨by rfl, ?_⟩) hS ?_
              rotate_left
              focus (intro w hSw; (try dsimp only at hSw); (obtain ⟨z0, z1, z2, z3, z4, z5, z6, z7, z8, z9⟩ := wkr_load hSw.wk; obtain ⟨u0, u1, u2, u3⟩ := hSw.nd.load; clear hSw); go_simp; (try with_reducible rfl); done)
              simp only [Act.put, List.setIfInBounds_toArray, List.set_cons_zero, List.set_cons_succ]
              refine wpAnyZ_take0 (i := 3) (oi := ⟨_, _, _, _, _, _⟩) (v := ?_) rfl (by decide +kernel) (fun _ _ _ h => h) (Or.inl ⟨by rfl, ?_⟩) (fun _ => hS) ?_
              rotate_left
              focus (intro w _; go_simp; (try with_reducible rfl); done)
              simp only [Act.put, List.setIfInBounds_toArray, List.set_cons_zero, List.set_cons_succ]
              refine wpAnyZ_take0 (i := 4) (oi := ⟨_, _, _, _, _, _⟩) (v := ?_) rfl (by decide +kernel) (fun _ _ _ h => h) (Or.inl ⟨by rfl, ?_⟩) (fun _ => hS) ?_
              rotate_left
              focus (intro w _; go_simp; (try with_reducible rfl); done)
              simp only [Act.put, List.setIfInBounds_toArray, List.set_cons_zero, List.set_cons_succ]
              refine wpAnyZ_take0 (i := 5) (oi := ⟨_, _, _, _, _, _⟩) (v := ?_) rfl (by decide +kernel) (fun _ _ _ h => h) (Or.inl ⟨by rfl, ?_⟩) (fun _ => hS) ?_
              rotate_left
              focus (intro w _; go_simp; (try with_reducible rfl); done)
              simp only [Act.put, List.setIfInBounds_toArray, List.set_cons_zero, List.set_cons_succ]
              first
                | (refine wpAnyZ_take0 (i := 6) (oi := ⟨_, _, _, _, _, _⟩) (v := undef) rfl (by decide +kernel) (fun _ _ _ h => h) (Or.inr ⟨by rfl, rfl⟩) (fun _ => hS) ?_)
                | (refine wpAnyZ_take0 (i := 6) (oi := ⟨_, _, _, _, _, _⟩) (v := ?_) rfl (by decide +kernel) (fun _ _ _ h => h) (Or.inl ⟨by rfl, ?_⟩) (fun _ => hS) ?_; rotate_left; focus (intro w hSw; go_simp; (try with_reducible rfl); done))
              simp only [Act.put, List.setIfInBounds_toArray, List.set_cons_zero, List.set_cons_succ]
              first
                | (refine wpAnyZ_take0 (i := 7) (oi := ⟨_, _, _, _, _, _⟩) (v := undef) rfl (by decide +kernel) (fun _ _ _ h => h) (Or.inr ⟨by rfl, rfl⟩) (fun _ => hS) ?_)
                | (refine wpAnyZ_take0 (i := 7) (oi := ⟨_, _, _, _, _, _⟩) (v := ?_) rfl (by decide +kernel) (fun _ _ _ h => h) (Or.inl ⟨by rfl, ?_⟩) (fun _ => hS) ?_; rotate_left; focus (intro w hSw; go_simp; (try with_reducible rfl); done))
              simp only [Act.put, List.setIfInBounds_toArray, List.set_cons_zero, List.set_cons_succ]
              first
                | (refine wpAnyZ_take0 (i := 8) (oi := ⟨_, _, _, _, _, _⟩) (v := undef) rfl (by decide +kernel) (fun _ _ _ h => h) (Or.inr ⟨by rfl, rfl⟩) (fun _ => hS) ?_)
                | (refine wpAnyZ_take0 (i := 8) (oi := ⟨_, _, _, _, _, _⟩) (v := ?_) rfl (by decide +kernel) (fun _ _ _ h => h) (Or.inl ⟨by rfl, ?_⟩) (fun _ => hS) ?_; rotate_left; focus (intro w hSw; go_simp; (try with_reducible rfl); done))
              simp only [Act.put, List.setIfInBounds_toArray, List.set_cons_zero, List.set_cons_succ]
              first
                | (refine wpAnyZ_take (i := 9) (oi := ⟨_, _, _, _, _, _⟩) (v := undef) rfl (by decide +kernel) (fun _ _ _ h => h) (Or.inr ⟨by rfl, rfl⟩) hS ?_)
                | (refine wpAnyZ_take (i := 9) (oi := ⟨_, _, _, _, _, _⟩) (v := ?_) rfl (by decide +kernel) (fun _ _ _ h => h) (Or.inl ⟨by rfl, ?_⟩) hS ?_; rotate_left; focus (intro w hSw; (try dsimp only at hSw); (obtain ⟨z0, z1, z2, z3, z4, z5, z6, z7, z8, z9⟩ := wkr_load hSw.wk; obtain ⟨u0, u1, u2, u3⟩ := hSw.nd.load; clear hSw); go_simp; (try with_reducible rfl); done))
              simp only [Act.put, List.setIfInBounds_toArray, List.set_cons_zero, List.set_cons_succ]
              first
                | (refine wpAnyZ_take0 (i := 10) (oi := ⟨_, _, _, _, _, _⟩) (v := undef) rfl (by decide +kernel) (fun _ _ _ h => h) (Or.inr ⟨by rfl, rfl⟩) (fun _ => hS) ?_)
                | (refine wpAnyZ_take0 (i := 10) (oi := ⟨_, _, _, _, _, _⟩) (v := ?_) rfl (by decide +kernel) (fun _ _ _ h => h) (Or.inl ⟨by rfl, ?_⟩) (fun _ => hS) ?_; rotate_left; focus (intro w hSw; go_simp; (try with_reducible rfl); done))
              simp only [Act.put, List.setIfInBounds_toArray, List.set_cons_zero, List.set_cons_succ]
              first
                | (refine wpAnyZ_take0 (i := 11) (oi := ⟨_, _, _, _, _, _⟩) (v := undef) rfl (by decide +kernel) (fun _ _ _ h => h) (Or.inr ⟨by rfl, rfl⟩) (fun _ => hS) ?_)
                | (refine wpAnyZ_take0 (i := 11) (oi := ⟨_, _, _, _, _, _⟩) (v := ?_) rfl (by decide +kernel) (fun _ _ _ h => h) (Or.inl ⟨by rfl, ?_⟩) (fun _ => hS) ?_; rotate_left; focus (intro w hSw; go_simp; (try with_reducible rfl); done))
              simp only [Act.put, List.setIfInBounds_toArray, List.set_cons_zero, List.set_cons_succ]
              first
                | (refine wpAnyZ_take0 (i := 12) (oi := ⟨_, _, _, _, _, _⟩) (v := undef) rfl (by decide +kernel) (fun _ _ _ h => h) (Or.inr ⟨by rfl, rfl⟩) (fun _ => hS) ?_)
                | (refine wpAnyZ_take0 (i := 12) (oi := ⟨_, _, _, _, _, _⟩) (v := ?_) rfl (by decide +kernel) (fun _ _ _ h => h) (Or.inl ⟨by rfl, ?_⟩) (fun _ => hS) ?_; rotate_left; focus (intro w hSw; go_simp; (try with_reducible rfl); done))
              simp only [Act.put, List.setIfInBounds_toArray, List.set_cons_zero, List.set_cons_succ]
              first
                | (refine wpAnyZ_take0 (i := 13) (oi := ⟨_, _, _, _, _, _⟩) (v := undef) rfl (by decide +kernel) (fun _ _ _ h => h) (Or.inr ⟨by rfl, rfl⟩) (fun _ => hS) ?_)
                | (refine wpAnyZ_take0 (i := 13) (oi := ⟨_, _, _, _, _, _⟩) (v := ?_) rfl (by decide +kernel) (fun _ _ _ h => h) (Or.inl ⟨by rfl, ?_⟩) (fun _ => hS) ?_; rotate_left; focus (intro w hSw; go_simp; (try with_reducible rfl); done))
              simp only [Act.put, List.setIfInBounds_toArray, List.set_cons_zero, List.set_cons_succ]
              first
                | (refine wpAnyZ_take (i := 14) (oi := ⟨_, _, _, _, _, _⟩) (v := undef) rfl (by decide +kernel) (fun _ _ _ h => h) (Or.inr ⟨by rfl, rfl⟩) hS ?_)
                | (refine wpAnyZ_take (i := 14) (oi := ⟨_, _, _, _, _, _⟩) (v := ?_) rfl (by decide +kernel) (fun _ _ _ h => h) (Or.inl ⟨by rfl, ?_⟩) hS ?_; rotate_left; focus (intro w hSw; (try dsimp only at hSw); (obtain ⟨z0, z1, z2, z3, z4, z5, z6, z7, z8, z9⟩ := wkr_load hSw.wk; obtain ⟨u0, u1, u2, u3⟩ := hSw.nd.load; clear hSw); go_simp; (try with_reducible rfl); done))
              simp only [Act.put, List.setIfInBounds_toArray, List.set_cons_zero, List.set_cons_succ]
              first
                | (refine wpAnyZ_take0 (i := 15) (oi := ⟨_, _, _, _, _, _⟩) (v := undef) rfl (by decide +kernel) (fun _ _ _ h => h) (Or.inr ⟨by rfl, rfl⟩) (fun _ => hS) ?_)
                | (refine wpAnyZ_take0 (i := 15) (oi := ⟨_, _, _, _, _, _⟩) (v := ?_) rfl (by decide +kernel) (fun _ _ _ h => h) (Or.inl ⟨by rfl, ?_⟩) (fun _ => hS) ?_; rotate_left; focus (intro w hSw; go_simp; (try with_reducible rfl); done))
              simp only [Act.put, List.setIfInBounds_toArray, List.set_cons_zero, List.set_cons_succ]
              refine wpAnyZ_take0 (i := 16) (oi := ⟨_, _, _, _, _, _⟩) (v := ?_) rfl (by decide +kernel) (fun _ _ _ h => h) (Or.inl ⟨by rfl, ?_⟩) (fun _ => hS) ?_
              rotate_left
              focus (intro w _; go_simp; (try with_reducible rfl); done)
              simp only [Act.put, List.setIfInBounds_toArray, List.set_cons_zero, List.set_cons_succ]
              refine wpAnyZ_done (by decide +kernel) ?_
              have L6 := Hd.mk (hL.out.below (below_drewK wr))
              clear hS hL
              generalize wr.drew = W6 at L6 ⊢
              go_wp2_with fail
              have hway : (q.whole = true ∧ ¬ (q.whole = false ∧ leK q.key pj.1 = true)) ∨ (q.whole = false ∧ Op.bytesLess pj.1.toList q.key.toList = true ∧ ¬ (q.whole = false ∧ leK q.key pj.1 = true)) ∨ (q.whole = false ∧ Op.bytesLess pj.1.toList q.key.toList = false ∧ (q.whole = false ∧ leK q.key pj.1 = true)) := by
                have hk : leK q.key pj.1 = !(Op.bytesLess pj.1.toList q.key.toList) := leK_not _ _
                cases hq : q.whole
                · right
                  cases hb : Op.bytesLess pj.1.toList q.key.toList
                  · right; rw [hb] at hk; exact ⟨rfl, rfl, rfl, hk⟩
                  · left; rw [hb] at hk; exact ⟨rfl, rfl, fun h => by rw [hk] at h; simp at h⟩
                · left; exact ⟨rfl, fun h => by cases h.1⟩
              rcases hway with ⟨hq, hn⟩ | ⟨hq, hb, hn⟩ | ⟨hq, hb, hn⟩
              · have hA3 : Hd (addR q s.out (p :: r) = addR q out' ((p :: r).drop (j + 1))) := ⟨by rw [hA2.out, if_neg hn]⟩
                clear hA2 hn
                refine region_zone 18 [false, false, false, false, false, false, false, false, false, false, false, false, false, false, false, false, false, false] (by kernel_rfl) (by kernel_rfl) hmix (fun w' => LfS w w' g A n c kind q { s1 with out := out' } O' on' oc' bx m (some ad) (k + 1) pc (p :: r) O oc) [] ?_ (fun hS => ?_)
                · exact L6.out.below (below_drewK W6)
                refine wpAnyZ_take0 (i := 0) (oi := ⟨_, _, _, _, _, _⟩) (v := ?_) rfl (by decide +kernel) (fun _ _ _ h => h) (Or.inl ⟨by rfl, ?_⟩) (fun _ => hS) ?_
                rotate_left
                focus (intro w _; go_simp; (try with_reducible rfl); done)
                simp only [Act.put, List.setIfInBounds_toArray, List.set_cons_zero, List.set_cons_succ]
                refine wpAnyZ_take0 (i := 1) (oi := ⟨_, _, _, _, _, _⟩) (v := ?_) rfl (by decide +kernel) (fun _ _ _ h => h) (Or.inl ⟨by rfl, ?_⟩) (fun _ => hS) ?_
                rotate_left
                focus (intro w _; go_simp; (try with_reducible rfl); done)
                simp only [Act.put, List.setIfInBounds_toArray, List.set_cons_zero, List.set_cons_succ]
                refine wpAnyZ_take0 (i := 2) (oi := ⟨_, _, _, _, _, _⟩) (v := ?_) rfl (by decide +kernel) (fun _ _ _ h => h) (Or.inl ⟨by rfl, ?_⟩) (fun _ => hS) ?_
                rotate_left
                focus (intro w _; go_simp; (try with_reducible rfl); done)
                simp only [Act.put, List.setIfInBounds_toArray, List.set_cons_zero, List.set_cons_succ]
                refine wpAnyZ_take (i := 3) (oi := ⟨_, _, _, _, _, _⟩) (v := ?_) rfl (by decide +kernel) (fun _ _ _ h => h) (Or.inl ⟨by rfl, ?_⟩) hS ?_
                rotate_left
                focus (intro w hSw; (try dsimp only at hSw); (obtain ⟨z0, z1, z2, z3, z4, z5, z6, z7, z8, z9⟩ := wkr_load hSw.wk; rw [hq] at z8; obtain ⟨u0, u1, u2, u3⟩ := hSw.nd.load; obtain ⟨y0, y1⟩ := QJ hSw.rd; clear hSw); go_simp; (try with_reducible rfl); done)
                simp only [Act.put, List.setIfInBounds_toArray, List.set_cons_zero, List.set_cons_succ]
                refine wpAnyZ_take0 (i := 4) (oi := ⟨_, _, _, _, _, _⟩) (v := ?_) rfl (by decide +kernel) (fun _ _ _ h => h) (Or.inl ⟨by rfl, ?_⟩) (fun _ => hS) ?_
                rotate_left
                focus (intro w _; go_simp; (try with_reducible rfl); done)
                simp only [Act.put, List.setIfInBounds_toArray, List.set_cons_zero, List.set_cons_succ]
                refine wpAnyZ_take0 (i := 5) (oi := ⟨_, _, _, _, _, _⟩) (v := ?_) rfl (by decide +kernel) (fun _ _ _ h => h) (Or.inl ⟨by rfl, ?_⟩) (fun _ => hS) ?_
                rotate_left
                focus (intro w _; go_simp; (try with_reducible rfl); done)
                simp only [Act.put, List.setIfInBounds_toArray, List.set_cons_zero, List.set_cons_succ]
                first
                  | (refine wpAnyZ_take0 (i := 6) (oi := ⟨_, _, _, _, _, _⟩) (v := undef) rfl (by decide +kernel) (fun _ _ _ h => h) (Or.inr ⟨by rfl, rfl⟩) (fun _ => hS) ?_)
                  | (refine wpAnyZ_take0 (i := 6) (oi := ⟨_, _, _, _, _, _⟩) (v := ?_) rfl (by decide +kernel) (fun _ _ _ h => h) (Or.inl ⟨by rfl, ?_⟩) (fun _ => hS) ?_; rotate_left; focus (intro w hSw; go_simp; (try with_reducible rfl); done))
                simp only [Act.put, List.setIfInBounds_toArray, List.set_cons_zero, List.set_cons_succ]
                first
                  | (refine wpAnyZ_take (i := 7) (oi := ⟨_, _, _, _, _, _⟩) (v := undef) rfl (by decide +kernel) (fun _ _ _ h => h) (Or.inr ⟨by rfl, rfl⟩) hS ?_)
                  | (refine wpAnyZ_take (i := 7) (oi := ⟨_, _, _, _, _, _⟩) (v := ?_) rfl (by decide +kernel) (fun _ _ _ h => h) (Or.inl ⟨by rfl, ?_⟩) hS ?_; rotate_left; focus (intro w hSw; (try dsimp only at hSw); (obtain ⟨z0, z1, z2, z3, z4, z5, z6, z7, z8, z9⟩ := wkr_load hSw.wk; rw [hq] at z8; obtain ⟨u0, u1, u2, u3⟩ := hSw.nd.load; obtain ⟨y0, y1⟩ := QJ hSw.rd; clear hSw); go_simp; (try with_reducible rfl); done))
                simp only [Act.put, List.setIfInBounds_toArray, List.set_cons_zero, List.set_cons_succ]
                first
                  | (refine wpAnyZ_take0 (i := 8) (oi := ⟨_, _, _, _, _, _⟩) (v := undef) rfl (by decide +kernel) (fun _ _ _ h => h) (Or.inr ⟨by rfl, rfl⟩) (fun _ => hS) ?_)
                  | (refine wpAnyZ_take0 (i := 8) (oi := ⟨_, _, _, _, _, _⟩) (v := ?_) rfl (by decide +kernel) (fun _ _ _ h => h) (Or.inl ⟨by rfl, ?_⟩) (fun _ => hS) ?_; rotate_left; focus (intro w hSw; go_simp; (try with_reducible rfl); done))
                simp only [Act.put, List.setIfInBounds_toArray, List.set_cons_zero, List.set_cons_succ]
                first
                  | (refine wpAnyZ_take0 (i := 9) (oi := ⟨_, _, _, _, _, _⟩) (v := undef) rfl (by decide +kernel) (fun _ _ _ h => h) (Or.inr ⟨by rfl, rfl⟩) (fun _ => hS) ?_)
                  | (refine wpAnyZ_take0 (i := 9) (oi := ⟨_, _, _, _, _, _⟩) (v := ?_) rfl (by decide +kernel) (fun _ _ _ h => h) (Or.inl ⟨by rfl, ?_⟩) (fun _ => hS) ?_; rotate_left; focus (intro w hSw; go_simp; (try with_reducible rfl); done))
                simp only [Act.put, List.setIfInBounds_toArray, List.set_cons_zero, List.set_cons_succ]
                first
                  | (refine wpAnyZ_take0 (i := 10) (oi := ⟨_, _, _, _, _, _⟩) (v := undef) rfl (by decide +kernel) (fun _ _ _ h => h) (Or.inr ⟨by rfl, rfl⟩) (fun _ => hS) ?_)
                  | (refine wpAnyZ_take0 (i := 10) (oi := ⟨_, _, _, _, _, _⟩) (v := ?_) rfl (by decide +kernel) (fun _ _ _ h => h) (Or.inl ⟨by rfl, ?_⟩) (fun _ => hS) ?_; rotate_left; focus (intro w hSw; go_simp; (try with_reducible rfl); done))
                simp only [Act.put, List.setIfInBounds_toArray, List.set_cons_zero, List.set_cons_succ]
                first
                  | (refine wpAnyZ_take (i := 11) (oi := ⟨_, _, _, _, _, _⟩) (v := undef) rfl (by decide +kernel) (fun _ _ _ h => h) (Or.inr ⟨by rfl, rfl⟩) hS ?_)
                  | (refine wpAnyZ_take (i := 11) (oi := ⟨_, _, _, _, _, _⟩) (v := ?_) rfl (by decide +kernel) (fun _ _ _ h => h) (Or.inl ⟨by rfl, ?_⟩) hS ?_; rotate_left; focus (intro w hSw; (try dsimp only at hSw); (obtain ⟨z0, z1, z2, z3, z4, z5, z6, z7, z8, z9⟩ := wkr_load hSw.wk; rw [hq] at z8; obtain ⟨u0, u1, u2, u3⟩ := hSw.nd.load; obtain ⟨y0, y1⟩ := QJ hSw.rd; clear hSw); go_simp; (try with_reducible rfl); done))
                simp only [Act.put, List.setIfInBounds_toArray, List.set_cons_zero, List.set_cons_succ]
                first
                  | (refine wpAnyZ_take0 (i := 12) (oi := ⟨_, _, _, _, _, _⟩) (v := undef) rfl (by decide +kernel) (fun _ _ _ h => h) (Or.inr ⟨by rfl, rfl⟩) (fun _ => hS) ?_)
                  | (refine wpAnyZ_take0 (i := 12) (oi := ⟨_, _, _, _, _, _⟩) (v := ?_) rfl (by decide +kernel) (fun _ _ _ h => h) (Or.inl ⟨by rfl, ?_⟩) (fun _ => hS) ?_; rotate_left; focus (intro w hSw; go_simp; (try with_reducible rfl); done))
                simp only [Act.put, List.setIfInBounds_toArray, List.set_cons_zero, List.set_cons_succ]
                first
                  | (refine wpAnyZ_take0 (i := 13) (oi := ⟨_, _, _, _, _, _⟩) (v := undef) rfl (by decide +kernel) (fun _ _ _ h => h) (Or.inr ⟨by rfl, rfl⟩) (fun _ => hS) ?_)
                  | (refine wpAnyZ_take0 (i := 13) (oi := ⟨_, _, _, _, _, _⟩) (v := ?_) rfl (by decide +kernel) (fun _ _ _ h => h) (Or.inl ⟨by rfl, ?_⟩) (fun _ => hS) ?_; rotate_left; focus (intro w hSw; go_simp; (try with_reducible rfl); done))
                simp only [Act.put, List.setIfInBounds_toArray, List.set_cons_zero, List.set_cons_succ]
                first
                  | (refine wpAnyZ_take0 (i := 14) (oi := ⟨_, _, _, _, _, _⟩) (v := undef) rfl (by decide +kernel) (fun _ _ _ h => h) (Or.inr ⟨by rfl, rfl⟩) (fun _ => hS) ?_)
                  | (refine wpAnyZ_take0 (i := 14) (oi := ⟨_, _, _, _, _, _⟩) (v := ?_) rfl (by decide +kernel) (fun _ _ _ h => h) (Or.inl ⟨by rfl, ?_⟩) (fun _ => hS) ?_; rotate_left; focus (intro w hSw; go_simp; (try with_reducible rfl); done))
                simp only [Act.put, List.setIfInBounds_toArray, List.set_cons_zero, List.set_cons_succ]
                first
                  | (refine wpAnyZ_take (i := 15) (oi := ⟨_, _, _, _, _, _⟩) (v := undef) rfl (by decide +kernel) (fun _ _ _ h => h) (Or.inr ⟨by rfl, rfl⟩) hS ?_)
                  | (refine wpAnyZ_take (i := 15) (oi := ⟨_, _, _, _, _, _⟩) (v := ?_) rfl (by decide +kernel) (fun _ _ _ h => h) (Or.inl ⟨by rfl, ?_⟩) hS ?_; rotate_left; focus (intro w hSw; (try dsimp only at hSw); (obtain ⟨z0, z1, z2, z3, z4, z5, z6, z7, z8, z9⟩ := wkr_load hSw.wk; rw [hq] at z8; obtain ⟨u0, u1, u2, u3⟩ := hSw.nd.load; obtain ⟨y0, y1⟩ := QJ hSw.rd; clear hSw); go_simp; (try with_reducible rfl); done))
                simp only [Act.put, List.setIfInBounds_toArray, List.set_cons_zero, List.set_cons_succ]
                first
                  | (refine wpAnyZ_take0 (i := 16) (oi := ⟨_, _, _, _, _, _⟩) (v := undef) rfl (by decide +kernel) (fun _ _ _ h => h) (Or.inr ⟨by rfl, rfl⟩) (fun _ => hS) ?_)
                  | (refine wpAnyZ_take0 (i := 16) (oi := ⟨_, _, _, _, _, _⟩) (v := ?_) rfl (by decide +kernel) (fun _ _ _ h => h) (Or.inl ⟨by rfl, ?_⟩) (fun _ => hS) ?_; rotate_left; focus (intro w hSw; go_simp; (try with_reducible rfl); done))
                simp only [Act.put, List.setIfInBounds_toArray, List.set_cons_zero, List.set_cons_succ]
                refine wpAnyZ_take0 (i := 17) (oi := ⟨_, _, _, _, _, _⟩) (v := ?_) rfl (by decide +kernel) (fun _ _ _ h => h) (Or.inl ⟨by rfl, ?_⟩) (fun _ => hS) ?_
                rotate_left
                focus (intro w _; go_simp; (try with_reducible rfl); done)
                simp only [Act.put, List.setIfInBounds_toArray, List.set_cons_zero, List.set_cons_succ]
                refine wpAnyZ_done (by decide +kernel) ?_
                have L7 := Hd.mk (L6.out.below (below_drewK W6))
                clear hS L6
                generalize W6.drew = W7 at L7 ⊢
                go_wp2_with fail
                go_roundw
                case rel => exact ⟨j + 1, on', oc', O', out', by go_num, by omega, by omega, L7, hA3⟩
                case measure => simp [intOf]; omega
              · have hA3 : Hd (addR q s.out (p :: r) = addR q out' ((p :: r).drop (j + 1))) := ⟨by rw [hA2.out, if_neg hn]⟩
                clear hA2 hn
                refine region_zone 18 [false, false, false, false, false, false, false, false, false, false, false, false, false, false, false, false, false, false] (by kernel_rfl) (by kernel_rfl) hmix (fun w' => LfS w w' g A n c kind q { s1 with out := out' } O' on' oc' bx m (some ad) (k + 1) pc (p :: r) O oc) [] ?_ (fun hS => ?_)
                · exact L6.out.below (below_drewK W6)
                refine wpAnyZ_take0 (i := 0) (oi := ⟨_, _, _, _, _, _⟩) (v := ?_) rfl (by decide +kernel) (fun _ _ _ h => h) (Or.inl ⟨by rfl, ?_⟩) (fun _ => hS) ?_
                rotate_left
                focus (intro w _; go_simp; (try with_reducible rfl); done)
                simp only [Act.put, List.setIfInBounds_toArray, List.set_cons_zero, List.set_cons_succ]
                refine wpAnyZ_take0 (i := 1) (oi := ⟨_, _, _, _, _, _⟩) (v := ?_) rfl (by decide +kernel) (fun _ _ _ h => h) (Or.inl ⟨by rfl, ?_⟩) (fun _ => hS) ?_
                rotate_left
                focus (intro w _; go_simp; (try with_reducible rfl); done)
                simp only [Act.put, List.setIfInBounds_toArray, List.set_cons_zero, List.set_cons_succ]
                refine wpAnyZ_take0 (i := 2) (oi := ⟨_, _, _, _, _, _⟩) (v := ?_) rfl (by decide +kernel) (fun _ _ _ h => h) (Or.inl ⟨by rfl, ?_⟩) (fun _ => hS) ?_
                rotate_left
                focus (intro w _; go_simp; (try with_reducible rfl); done)
                simp only [Act.put, List.setIfInBounds_toArray, List.set_cons_zero, List.set_cons_succ]
                refine wpAnyZ_take (i := 3) (oi := ⟨_, _, _, _, _, _⟩) (v := ?_) rfl (by decide +kernel) (fun _ _ _ h => h) (Or.inl ⟨by rfl, ?_⟩) hS ?_
                rotate_left
                focus (intro w hSw; (try dsimp only at hSw); (obtain ⟨z0, z1, z2, z3, z4, z5, z6, z7, z8, z9⟩ := wkr_load hSw.wk; rw [hq] at z8; obtain ⟨u0, u1, u2, u3⟩ := hSw.nd.load; obtain ⟨y0, y1⟩ := QJ hSw.rd; clear hSw); go_simp; (try with_reducible rfl); done)
                simp only [Act.put, List.setIfInBounds_toArray, List.set_cons_zero, List.set_cons_succ]
                refine wpAnyZ_take0 (i := 4) (oi := ⟨_, _, _, _, _, _⟩) (v := ?_) rfl (by decide +kernel) (fun _ _ _ h => h) (Or.inl ⟨by rfl, ?_⟩) (fun _ => hS) ?_
                rotate_left
                focus (intro w _; go_simp; (try with_reducible rfl); done)
                simp only [Act.put, List.setIfInBounds_toArray, List.set_cons_zero, List.set_cons_succ]
                refine wpAnyZ_take0 (i := 5) (oi := ⟨_, _, _, _, _, _⟩) (v := ?_) rfl (by decide +kernel) (fun _ _ _ h => h) (Or.inl ⟨by rfl, ?_⟩) (fun _ => hS) ?_
                rotate_left
                focus (intro w _; go_simp; (try with_reducible rfl); done)
                simp only [Act.put, List.setIfInBounds_toArray, List.set_cons_zero, List.set_cons_succ]
                first
                  | (refine wpAnyZ_take0 (i := 6) (oi := ⟨_, _, _, _, _, _⟩) (v := undef) rfl (by decide +kernel) (fun _ _ _ h => h) (Or.inr ⟨by rfl, rfl⟩) (fun _ => hS) ?_)
                  | (refine wpAnyZ_take0 (i := 6) (oi := ⟨_, _, _, _, _, _⟩) (v := ?_) rfl (by decide +kernel) (fun _ _ _ h => h) (Or.inl ⟨by rfl, ?_⟩) (fun _ => hS) ?_; rotate_left; focus (intro w hSw; go_simp; (try with_reducible rfl); done))
                simp only [Act.put, List.setIfInBounds_toArray, List.set_cons_zero, List.set_cons_succ]
                first
                  | (refine wpAnyZ_take (i := 7) (oi := ⟨_, _, _, _, _, _⟩) (v := undef) rfl (by decide +kernel) (fun _ _ _ h => h) (Or.inr ⟨by rfl, rfl⟩) hS ?_)
                  | (refine wpAnyZ_take (i := 7) (oi := ⟨_, _, _, _, _, _⟩) (v := ?_) rfl (by decide +kernel) (fun _ _ _ h => h) (Or.inl ⟨by rfl, ?_⟩) hS ?_; rotate_left; focus (intro w hSw; (try dsimp only at hSw); (obtain ⟨z0, z1, z2, z3, z4, z5, z6, z7, z8, z9⟩ := wkr_load hSw.wk; rw [hq] at z8; obtain ⟨u0, u1, u2, u3⟩ := hSw.nd.load; obtain ⟨y0, y1⟩ := QJ hSw.rd; clear hSw); go_simp; (try with_reducible rfl); done))
                simp only [Act.put, List.setIfInBounds_toArray, List.set_cons_zero, List.set_cons_succ]
                first
                  | (refine wpAnyZ_take0 (i := 8) (oi := ⟨_, _, _, _, _, _⟩) (v := undef) rfl (by decide +kernel) (fun _ _ _ h => h) (Or.inr ⟨by rfl, rfl⟩) (fun _ => hS) ?_)
                  | (refine wpAnyZ_take0 (i := 8) (oi := ⟨_, _, _, _, _, _⟩) (v := ?_) rfl (by decide +kernel) (fun _ _ _ h => h) (Or.inl ⟨by rfl, ?_⟩) (fun _ => hS) ?_; rotate_left; focus (intro w hSw; go_simp; (try with_reducible rfl); done))
                simp only [Act.put, List.setIfInBounds_toArray, List.set_cons_zero, List.set_cons_succ]
                first
                  | (refine wpAnyZ_take0 (i := 9) (oi := ⟨_, _, _, _, _, _⟩) (v := undef) rfl (by decide +kernel) (fun _ _ _ h => h) (Or.inr ⟨by rfl, rfl⟩) (fun _ => hS) ?_)
                  | (refine wpAnyZ_take0 (i := 9) (oi := ⟨_, _, _, _, _, _⟩) (v := ?_) rfl (by decide +kernel) (fun _ _ _ h => h) (Or.inl ⟨by rfl, ?_⟩) (fun _ => hS) ?_; rotate_left; focus (intro w hSw; go_simp; (try with_reducible rfl); done))
                simp only [Act.put, List.setIfInBounds_toArray, List.set_cons_zero, List.set_cons_succ]
                first
                  | (refine wpAnyZ_take0 (i := 10) (oi := ⟨_, _, _, _, _, _⟩) (v := undef) rfl (by decide +kernel) (fun _ _ _ h => h) (Or.inr ⟨by rfl, rfl⟩) (fun _ => hS) ?_)
                  | (refine wpAnyZ_take0 (i := 10) (oi := ⟨_, _, _, _, _, _⟩) (v := ?_) rfl (by decide +kernel) (fun _ _ _ h => h) (Or.inl ⟨by rfl, ?_⟩) (fun _ => hS) ?_; rotate_left; focus (intro w hSw; go_simp; (try with_reducible rfl); done))
                simp only [Act.put, List.setIfInBounds_toArray, List.set_cons_zero, List.set_cons_succ]
                first
                  | (refine wpAnyZ_take (i := 11) (oi := ⟨_, _, _, _, _, _⟩) (v := undef) rfl (by decide +kernel) (fun _ _ _ h => h) (Or.inr ⟨by rfl, rfl⟩) hS ?_)
                  | (refine wpAnyZ_take (i := 11) (oi := ⟨_, _, _, _, _, _⟩) (v := ?_) rfl (by decide +kernel) (fun _ _ _ h => h) (Or.inl ⟨by rfl, ?_⟩) hS ?_; rotate_left; focus (intro w hSw; (try dsimp only at hSw); (obtain ⟨z0, z1, z2, z3, z4, z5, z6, z7, z8, z9⟩ := wkr_load hSw.wk; rw [hq] at z8; obtain ⟨u0, u1, u2, u3⟩ := hSw.nd.load; obtain ⟨y0, y1⟩ := QJ hSw.rd; clear hSw); go_simp; (try with_reducible rfl); done))
                simp only [Act.put, List.setIfInBounds_toArray, List.set_cons_zero, List.set_cons_succ]
                first
                  | (refine wpAnyZ_take0 (i := 12) (oi := ⟨_, _, _, _, _, _⟩) (v := undef) rfl (by decide +kernel) (fun _ _ _ h => h) (Or.inr ⟨by rfl, rfl⟩) (fun _ => hS) ?_)
                  | (refine wpAnyZ_take0 (i := 12) (oi := ⟨_, _, _, _, _, _⟩) (v := ?_) rfl (by decide +kernel) (fun _ _ _ h => h) (Or.inl ⟨by rfl, ?_⟩) (fun _ => hS) ?_; rotate_left; focus (intro w hSw; go_simp; (try with_reducible rfl); done))
                simp only [Act.put, List.setIfInBounds_toArray, List.set_cons_zero, List.set_cons_succ]
                first
                  | (refine wpAnyZ_take0 (i := 13) (oi := ⟨_, _, _, _, _, _⟩) (v := undef) rfl (by decide +kernel) (fun _ _ _ h => h) (Or.inr ⟨by rfl, rfl⟩) (fun _ => hS) ?_)
                  | (refine wpAnyZ_take0 (i := 13) (oi := ⟨_, _, _, _, _, _⟩) (v := ?_) rfl (by decide +kernel) (fun _ _ _ h => h) (Or.inl ⟨by rfl, ?_⟩) (fun _ => hS) ?_; rotate_left; focus (intro w hSw; go_simp; (try with_reducible rfl); done))
                simp only [Act.put, List.setIfInBounds_toArray, List.set_cons_zero, List.set_cons_succ]
                first
                  | (refine wpAnyZ_take0 (i := 14) (oi := ⟨_, _, _, _, _, _⟩) (v := undef) rfl (by decide +kernel) (fun _ _ _ h => h) (Or.inr ⟨by rfl, rfl⟩) (fun _ => hS) ?_)
                  | (refine wpAnyZ_take0 (i := 14) (oi := ⟨_, _, _, _, _, _⟩) (v := ?_) rfl (by decide +kernel) (fun _ _ _ h => h) (Or.inl ⟨by rfl, ?_⟩) (fun _ => hS) ?_; rotate_left; focus (intro w hSw; go_simp; (try with_reducible rfl); done))
                simp only [Act.put, List.setIfInBounds_toArray, List.set_cons_zero, List.set_cons_succ]
                first
                  | (refine wpAnyZ_take (i := 15) (oi := ⟨_, _, _, _, _, _⟩) (v := undef) rfl (by decide +kernel) (fun _ _ _ h => h) (Or.inr ⟨by rfl, rfl⟩) hS ?_)
                  | (refine wpAnyZ_take (i := 15) (oi := ⟨_, _, _, _, _, _⟩) (v := ?_) rfl (by decide +kernel) (fun _ _ _ h => h) (Or.inl ⟨by rfl, ?_⟩) hS ?_; rotate_left; focus (intro w hSw; (try dsimp only at hSw); (obtain ⟨z0, z1, z2, z3, z4, z5, z6, z7, z8, z9⟩ := wkr_load hSw.wk; rw [hq] at z8; obtain ⟨u0, u1, u2, u3⟩ := hSw.nd.load; obtain ⟨y0, y1⟩ := QJ hSw.rd; clear hSw); go_simp; (try with_reducible rfl); done))
                simp only [Act.put, List.setIfInBounds_toArray, List.set_cons_zero, List.set_cons_succ]
                first
                  | (refine wpAnyZ_take0 (i := 16) (oi := ⟨_, _, _, _, _, _⟩) (v := undef) rfl (by decide +kernel) (fun _ _ _ h => h) (Or.inr ⟨by rfl, rfl⟩) (fun _ => hS) ?_)
                  | (refine wpAnyZ_take0 (i := 16) (oi := ⟨_, _, _, _, _, _⟩) (v := ?_) rfl (by decide +kernel) (fun _ _ _ h => h) (Or.inl ⟨by rfl, ?_⟩) (fun _ => hS) ?_; rotate_left; focus (intro w hSw; go_simp; (try with_reducible rfl); done))
                simp only [Act.put, List.setIfInBounds_toArray, List.set_cons_zero, List.set_cons_succ]
                refine wpAnyZ_take0 (i := 17) (oi := ⟨_, _, _, _, _, _⟩) (v := ?_) rfl (by decide +kernel) (fun _ _ _ h => h) (Or.inl ⟨by rfl, ?_⟩) (fun _ => hS) ?_
                rotate_left
                focus (intro w _; go_simp; (try with_reducible rfl); done)
                simp only [Act.put, List.setIfInBounds_toArray, List.set_cons_zero, List.set_cons_succ]
                refine wpAnyZ_done (by decide +kernel) ?_
                have L7 := Hd.mk (L6.out.below (below_drewK W6))
                clear hS L6
                generalize W6.drew = W7 at L7 ⊢
                go_wp2_with fail
                go_roundw
                case rel => exact ⟨j + 1, on', oc', O', out', by go_num, by omega, by omega, L7, hA3⟩
                case measure => simp [intOf]; omega
              · have hA3 : Hd (addR q s.out (p :: r) = addR q (out' ++ [pj]) ((p :: r).drop (j + 1))) := ⟨by rw [hA2.out, if_pos hn]⟩
                clear hA2 hn
                refine region_zone 18 [false, false, false, false, false, false, false, false, false, false, false, false, false, false, false, false, false, false] (by kernel_rfl) (by kernel_rfl) hmix (fun w' => LfS w w' g A n c kind q { s1 with out := out' } O' on' oc' bx m (some ad) (k + 1) pc (p :: r) O oc) [] ?_ (fun hS => ?_)
                · exact L6.out.below (below_drewK W6)
                refine wpAnyZ_take0 (i := 0) (oi := ⟨_, _, _, _, _, _⟩) (v := ?_) rfl (by decide +kernel) (fun _ _ _ h => h) (Or.inl ⟨by rfl, ?_⟩) (fun _ => hS) ?_
                rotate_left
                focus (intro w _; go_simp; (try with_reducible rfl); done)
                simp only [Act.put, List.setIfInBounds_toArray, List.set_cons_zero, List.set_cons_succ]
                refine wpAnyZ_take0 (i := 1) (oi := ⟨_, _, _, _, _, _⟩) (v := ?_) rfl (by decide +kernel) (fun _ _ _ h => h) (Or.inl ⟨by rfl, ?_⟩) (fun _ => hS) ?_
                rotate_left
                focus (intro w _; go_simp; (try with_reducible rfl); done)
                simp only [Act.put, List.setIfInBounds_toArray, List.set_cons_zero, List.set_cons_succ]
                refine wpAnyZ_take0 (i := 2) (oi := ⟨_, _, _, _, _, _⟩) (v := ?_) rfl (by decide +kernel) (fun _ _ _ h => h) (Or.inl ⟨by rfl, ?_⟩) (fun _ => hS) ?_
                rotate_left
                focus (intro w _; go_simp; (try with_reducible rfl); done)
                simp only [Act.put, List.setIfInBounds_toArray, List.set_cons_zero, List.set_cons_succ]
                refine wpAnyZ_take (i := 3) (oi := ⟨_, _, _, _, _, _⟩) (v := ?_) rfl (by decide +kernel) (fun _ _ _ h => h) (Or.inl ⟨by rfl, ?_⟩) hS ?_
                rotate_left
                focus (intro w hSw; (try dsimp only at hSw); (obtain ⟨z0, z1, z2, z3, z4, z5, z6, z7, z8, z9⟩ := wkr_load hSw.wk; rw [hq] at z8; obtain ⟨u0, u1, u2, u3⟩ := hSw.nd.load; obtain ⟨y0, y1⟩ := QJ hSw.rd; clear hSw); go_simp; (try with_reducible rfl); done)
                simp only [Act.put, List.setIfInBounds_toArray, List.set_cons_zero, List.set_cons_succ]
                refine wpAnyZ_take0 (i := 4) (oi := ⟨_, _, _, _, _, _⟩) (v := ?_) rfl (by decide +kernel) (fun _ _ _ h => h) (Or.inl ⟨by rfl, ?_⟩) (fun _ => hS) ?_
                rotate_left
                focus (intro w _; go_simp; (try with_reducible rfl); done)
                simp only [Act.put, List.setIfInBounds_toArray, List.set_cons_zero, List.set_cons_succ]
                refine wpAnyZ_take0 (i := 5) (oi := ⟨_, _, _, _, _, _⟩) (v := ?_) rfl (by decide +kernel) (fun _ _ _ h => h) (Or.inl ⟨by rfl, ?_⟩) (fun _ => hS) ?_
                rotate_left
                focus (intro w _; go_simp; (try with_reducible rfl); done)
                simp only [Act.put, List.setIfInBounds_toArray, List.set_cons_zero, List.set_cons_succ]
                first
                  | (refine wpAnyZ_take0 (i := 6) (oi := ⟨_, _, _, _, _, _⟩) (v := undef) rfl (by decide +kernel) (fun _ _ _ h => h) (Or.inr ⟨by rfl, rfl⟩) (fun _ => hS) ?_)
                  | (refine wpAnyZ_take0 (i := 6) (oi := ⟨_, _, _, _, _, _⟩) (v := ?_) rfl (by decide +kernel) (fun _ _ _ h => h) (Or.inl ⟨by rfl, ?_⟩) (fun _ => hS) ?_; rotate_left; focus (intro w hSw; go_simp; (try with_reducible rfl); done))
                simp only [Act.put, List.setIfInBounds_toArray, List.set_cons_zero, List.set_cons_succ]
                first
                  | (refine wpAnyZ_take (i := 7) (oi := ⟨_, _, _, _, _, _⟩) (v := undef) rfl (by decide +kernel) (fun _ _ _ h => h) (Or.inr ⟨by rfl, rfl⟩) hS ?_)
                  | (refine wpAnyZ_take (i := 7) (oi := ⟨_, _, _, _, _, _⟩) (v := ?_) rfl (by decide +kernel) (fun _ _ _ h => h) (Or.inl ⟨by rfl, ?_⟩) hS ?_; rotate_left; focus (intro w hSw; (try dsimp only at hSw); (obtain ⟨z0, z1, z2, z3, z4, z5, z6, z7, z8, z9⟩ := wkr_load hSw.wk; rw [hq] at z8; obtain ⟨u0, u1, u2, u3⟩ := hSw.nd.load; obtain ⟨y0, y1⟩ := QJ hSw.rd; clear hSw); go_simp; (try with_reducible rfl); done))
                simp only [Act.put, List.setIfInBounds_toArray, List.set_cons_zero, List.set_cons_succ]
                first
                  | (refine wpAnyZ_take0 (i := 8) (oi := ⟨_, _, _, _, _, _⟩) (v := undef) rfl (by decide +kernel) (fun _ _ _ h => h) (Or.inr ⟨by rfl, rfl⟩) (fun _ => hS) ?_)
                  | (refine wpAnyZ_take0 (i := 8) (oi := ⟨_, _, _, _, _, _⟩) (v := ?_) rfl (by decide +kernel) (fun _ _ _ h => h) (Or.inl ⟨by rfl, ?_⟩) (fun _ => hS) ?_; rotate_left; focus (intro w hSw; go_simp; (try with_reducible rfl); done))
                simp only [Act.put, List.setIfInBounds_toArray, List.set_cons_zero, List.set_cons_succ]
                first
                  | (refine wpAnyZ_take0 (i := 9) (oi := ⟨_, _, _, _, _, _⟩) (v := undef) rfl (by decide +kernel) (fun _ _ _ h => h) (Or.inr ⟨by rfl, rfl⟩) (fun _ => hS) ?_)
                  | (refine wpAnyZ_take0 (i := 9) (oi := ⟨_, _, _, _, _, _⟩) (v := ?_) rfl (by decide +kernel) (fun _ _ _ h => h) (Or.inl ⟨by rfl, ?_⟩) (fun _ => hS) ?_; rotate_left; focus (intro w hSw; go_simp; (try with_reducible rfl); done))
                simp only [Act.put, List.setIfInBounds_toArray, List.set_cons_zero, List.set_cons_succ]
                first
                  | (refine wpAnyZ_take0 (i := 10) (oi := ⟨_, _, _, _, _, _⟩) (v := undef) rfl (by decide +kernel) (fun _ _ _ h => h) (Or.inr ⟨by rfl, rfl⟩) (fun _ => hS) ?_)
                  | (refine wpAnyZ_take0 (i := 10) (oi := ⟨_, _, _, _, _, _⟩) (v := ?_) rfl (by decide +kernel) (fun _ _ _ h => h) (Or.inl ⟨by rfl, ?_⟩) (fun _ => hS) ?_; rotate_left; focus (intro w hSw; go_simp; (try with_reducible rfl); done))
                simp only [Act.put, List.setIfInBounds_toArray, List.set_cons_zero, List.set_cons_succ]
                first
                  | (refine wpAnyZ_take (i := 11) (oi := ⟨_, _, _, _, _, _⟩) (v := undef) rfl (by decide +kernel) (fun _ _ _ h => h) (Or.inr ⟨by rfl, rfl⟩) hS ?_)
                  | (refine wpAnyZ_take (i := 11) (oi := ⟨_, _, _, _, _, _⟩) (v := ?_) rfl (by decide +kernel) (fun _ _ _ h => h) (Or.inl ⟨by rfl, ?_⟩) hS ?_; rotate_left; focus (intro w hSw; (try dsimp only at hSw); (obtain ⟨z0, z1, z2, z3, z4, z5, z6, z7, z8, z9⟩ := wkr_load hSw.wk; rw [hq] at z8; obtain ⟨u0, u1, u2, u3⟩ := hSw.nd.load; obtain ⟨y0, y1⟩ := QJ hSw.rd; clear hSw); go_simp; (try with_reducible rfl); done))
                simp only [Act.put, List.setIfInBounds_toArray, List.set_cons_zero, List.set_cons_succ]
                first
                  | (refine wpAnyZ_take0 (i := 12) (oi := ⟨_, _, _, _, _, _⟩) (v := undef) rfl (by decide +kernel) (fun _ _ _ h => h) (Or.inr ⟨by rfl, rfl⟩) (fun _ => hS) ?_)
                  | (refine wpAnyZ_take0 (i := 12) (oi := ⟨_, _, _, _, _, _⟩) (v := ?_) rfl (by decide +kernel) (fun _ _ _ h => h) (Or.inl ⟨by rfl, ?_⟩) (fun _ => hS) ?_; rotate_left; focus (intro w hSw; go_simp; (try with_reducible rfl); done))
                simp only [Act.put, List.setIfInBounds_toArray, List.set_cons_zero, List.set_cons_succ]
                first
                  | (refine wpAnyZ_take0 (i := 13) (oi := ⟨_, _, _, _, _, _⟩) (v := undef) rfl (by decide +kernel) (fun _ _ _ h => h) (Or.inr ⟨by rfl, rfl⟩) (fun _ => hS) ?_)
                  | (refine wpAnyZ_take0 (i := 13) (oi := ⟨_, _, _, _, _, _⟩) (v := ?_) rfl (by decide +kernel) (fun _ _ _ h => h) (Or.inl ⟨by rfl, ?_⟩) (fun _ => hS) ?_; rotate_left; focus (intro w hSw; go_simp; (try with_reducible rfl); done))
                simp only [Act.put, List.setIfInBounds_toArray, List.set_cons_zero, List.set_cons_succ]
                first
                  | (refine wpAnyZ_take0 (i := 14) (oi := ⟨_, _, _, _, _, _⟩) (v := undef) rfl (by decide +kernel) (fun _ _ _ h => h) (Or.inr ⟨by rfl, rfl⟩) (fun _ => hS) ?_)
                  | (refine wpAnyZ_take0 (i := 14) (oi := ⟨_, _, _, _, _, _⟩) (v := ?_) rfl (by decide +kernel) (fun _ _ _ h => h) (Or.inl ⟨by rfl, ?_⟩) (fun _ => hS) ?_; rotate_left; focus (intro w hSw; go_simp; (try with_reducible rfl); done))
                simp only [Act.put, List.setIfInBounds_toArray, List.set_cons_zero, List.set_cons_succ]
                first
                  | (refine wpAnyZ_take (i := 15) (oi := ⟨_, _, _, _, _, _⟩) (v := undef) rfl (by decide +kernel) (fun _ _ _ h => h) (Or.inr ⟨by rfl, rfl⟩) hS ?_)
                  | (refine wpAnyZ_take (i := 15) (oi := ⟨_, _, _, _, _, _⟩) (v := ?_) rfl (by decide +kernel) (fun _ _ _ h => h) (Or.inl ⟨by rfl, ?_⟩) hS ?_; rotate_left; focus (intro w hSw; (try dsimp only at hSw); (obtain ⟨z0, z1, z2, z3, z4, z5, z6, z7, z8, z9⟩ := wkr_load hSw.wk; rw [hq] at z8; obtain ⟨u0, u1, u2, u3⟩ := hSw.nd.load; obtain ⟨y0, y1⟩ := QJ hSw.rd; clear hSw); go_simp; (try with_reducible rfl); done))
                simp only [Act.put, List.setIfInBounds_toArray, List.set_cons_zero, List.set_cons_succ]
                first
                  | (refine wpAnyZ_take0 (i := 16) (oi := ⟨_, _, _, _, _, _⟩) (v := undef) rfl (by decide +kernel) (fun _ _ _ h => h) (Or.inr ⟨by rfl, rfl⟩) (fun _ => hS) ?_)
                  | (refine wpAnyZ_take0 (i := 16) (oi := ⟨_, _, _, _, _, _⟩) (v := ?_) rfl (by decide +kernel) (fun _ _ _ h => h) (Or.inl ⟨by rfl, ?_⟩) (fun _ => hS) ?_; rotate_left; focus (intro w hSw; go_simp; (try with_reducible rfl); done))
                simp only [Act.put, List.setIfInBounds_toArray, List.set_cons_zero, List.set_cons_succ]
                refine wpAnyZ_take0 (i := 17) (oi := ⟨_, _, _, _, _, _⟩) (v := ?_) rfl (by decide +kernel) (fun _ _ _ h => h) (Or.inl ⟨by rfl, ?_⟩) (fun _ => hS) ?_
                rotate_left
                focus (intro w _; go_simp; (try with_reducible rfl); done)
                simp only [Act.put, List.setIfInBounds_toArray, List.set_cons_zero, List.set_cons_succ]
                refine wpAnyZ_done (by decide +kernel) ?_
                have L7 := Hd.mk (L6.out.below (below_drewK W6))
                clear hS L6
                generalize W6.drew = W7 at L7 ⊢
                go_wp2_with fail
                refine region_zone 15 [false, false, false, false, false, false, false, false, false, false, false, false, false, false, false] (by kernel_rfl) (by kernel_rfl) hmix (fun w' => WkR w' g A n c kind q { s1 with out := out' } O' on' oc' ∧ NodeAt w' bx m (some ad) (k + 1) pc ∧ RdK w' (some ad) (k + 1) (p :: r)) [14] ?_ (fun hS => ?_)
                · exact (L7.out.below (below_drewK W7)).three
                refine wpAnyZ_take0 (i := 0) (oi := ⟨_, _, _, _, _, _⟩) (v := ?_) rfl (by decide +kernel) (fun _ _ _ h => h) (Or.inl ⟨by rfl, ?_⟩) (fun _ => hS) ?_
                rotate_left
                focus (intro w _; go_simp; (try with_reducible rfl); done)
                simp only [Act.put, List.setIfInBounds_toArray, List.set_cons_zero, List.set_cons_succ]
                refine wpAnyZ_take0 (i := 1) (oi := ⟨_, _, _, _, _, _⟩) (v := ?_) rfl (by decide +kernel) (fun _ _ _ h => h) (Or.inl ⟨by rfl, ?_⟩) (fun _ => hS) ?_
                rotate_left
                focus (intro w _; go_simp; (try with_reducible rfl); done)
                simp only [Act.put, List.setIfInBounds_toArray, List.set_cons_zero, List.set_cons_succ]
                refine wpAnyZ_take0 (i := 2) (oi := ⟨_, _, _, _, _, _⟩) (v := ?_) rfl (by decide +kernel) (fun _ _ _ h => h) (Or.inl ⟨by rfl, ?_⟩) (fun _ => hS) ?_
                rotate_left
                focus (intro w _; go_simp; (try with_reducible rfl); done)
                simp only [Act.put, List.setIfInBounds_toArray, List.set_cons_zero, List.set_cons_succ]
                refine wpAnyZ_take0 (i := 3) (oi := ⟨_, _, _, _, _, _⟩) (v := ?_) rfl (by decide +kernel) (fun _ _ _ h => h) (Or.inl ⟨by rfl, ?_⟩) (fun _ => hS) ?_
                rotate_left
                focus (intro w _; go_simp; (try with_reducible rfl); done)
                simp only [Act.put, List.setIfInBounds_toArray, List.set_cons_zero, List.set_cons_succ]
                refine wpAnyZ_take (i := 4) (oi := ⟨_, _, _, _, _, _⟩) (v := ?_) rfl (by decide +kernel) (fun _ _ _ h => h) (Or.inl ⟨by rfl, ?_⟩) hS ?_
                rotate_left
                focus (intro w hSw; (try dsimp only at hSw); (obtain ⟨hS1, hS2, hS3⟩ := hSw; obtain ⟨z0, z1, z2, z3, z4, z5, z6, z7, z8, z9⟩ := wkr_load hS1; obtain ⟨u0, u1, u2, u3⟩ := hS2.load; obtain ⟨y0, y1⟩ := QJ hS3; clear hS1 hS2 hS3); go_simp; (try with_reducible rfl); done)
                simp only [Act.put, List.setIfInBounds_toArray, List.set_cons_zero, List.set_cons_succ]
                refine wpAnyZ_take0 (i := 5) (oi := ⟨_, _, _, _, _, _⟩) (v := ?_) rfl (by decide +kernel) (fun _ _ _ h => h) (Or.inl ⟨by rfl, ?_⟩) (fun _ => hS) ?_
                rotate_left
                focus (intro w _; go_simp; (try with_reducible rfl); done)
                simp only [Act.put, List.setIfInBounds_toArray, List.set_cons_zero, List.set_cons_succ]
                refine wpAnyZ_take (i := 6) (oi := ⟨_, _, _, _, _, _⟩) (v := ?_) rfl (by decide +kernel) (fun _ _ _ h => h) (Or.inl ⟨by rfl, ?_⟩) hS ?_
                rotate_left
                focus (intro w hSw; (try dsimp only at hSw); (obtain ⟨hS1, hS2, hS3⟩ := hSw; obtain ⟨z0, z1, z2, z3, z4, z5, z6, z7, z8, z9⟩ := wkr_load hS1; obtain ⟨u0, u1, u2, u3⟩ := hS2.load; obtain ⟨y0, y1⟩ := QJ hS3; clear hS1 hS2 hS3); go_simp; (try with_reducible rfl); done)
                simp only [Act.put, List.setIfInBounds_toArray, List.set_cons_zero, List.set_cons_succ]
                refine wpAnyZ_take0 (i := 7) (oi := ⟨_, _, _, _, _, _⟩) (v := ?_) rfl (by decide +kernel) (fun _ _ _ h => h) (Or.inl ⟨by rfl, ?_⟩) (fun _ => hS) ?_
                rotate_left
                focus (intro w _; go_simp; (try with_reducible rfl); done)
                simp only [Act.put, List.setIfInBounds_toArray, List.set_cons_zero, List.set_cons_succ]
                refine wpAnyZ_take0 (i := 8) (oi := ⟨_, _, _, _, _, _⟩) (v := ?_) rfl (by decide +kernel) (fun _ _ _ h => h) (Or.inl ⟨by rfl, ?_⟩) (fun _ => hS) ?_
                rotate_left
                focus (intro w _; go_simp; (try with_reducible rfl); done)
                simp only [Act.put, List.setIfInBounds_toArray, List.set_cons_zero, List.set_cons_succ]
                refine wpAnyZ_take (i := 9) (oi := ⟨_, _, _, _, _, _⟩) (v := ?_) rfl (by decide +kernel) (fun _ _ _ h => h) (Or.inl ⟨by rfl, ?_⟩) hS ?_
                rotate_left
                focus (intro w hSw; (try dsimp only at hSw); (obtain ⟨hS1, hS2, hS3⟩ := hSw; obtain ⟨z0, z1, z2, z3, z4, z5, z6, z7, z8, z9⟩ := wkr_load hS1; obtain ⟨u0, u1, u2, u3⟩ := hS2.load; obtain ⟨y0, y1⟩ := QJ hS3; clear hS1 hS2 hS3); go_simp; (try with_reducible rfl); done)
                simp only [Act.put, List.setIfInBounds_toArray, List.set_cons_zero, List.set_cons_succ]
                have L8 := Hd.mk (L7.out.below (below_drewK W7))
                clear L7
                generalize W7.drew = W8 at L8 hS ⊢
                refine wpAnyZ_one (i := 10) rfl (by decide +kernel) (fun K hKK => ?_)
                go_simp
                have L9 := Hd.mk (L8.out.below ((Below.refl W8.heap.size W8).alloc (Nat.le_refl _) (.cells #[.string pj.1, .int .i64 pj.2] 113)))
                clear hS
                have hS := L9.out.three
                refine hKK.out _ _ (fun _ => hS) ?_
                clear hKK
                refine wpAnyZ_one (i := 11) rfl (by decide +kernel) (fun K hKK => ?_)
                refine st_appK (by rfl) (.tmp 102) (.tmp 108) (by rfl) (by rfl) (by rfl) (m := 1) L9.out.own (RdK.newAt W8 [(pj.1, pj.2)] rfl rfl rfl) (by omega) (by have := (Array.getElem?_eq_some_iff.1 L9.out.wk).1; omega) ?_
                rintro v w4 ⟨O2, oc2, rfl, own2, gr2, hO2⟩
                have L10 := Hd.mk (L9.out.app L9.out.tch.size own2 gr2 hO2)
                have hK3 := L9.out.keep3 gr2
                have f3 := frozen_of_row w4 g 3 _ _ hK3.1
                clear hS
                have hS := hK3
                refine hKK.out _ _ (fun _ => hS) ?_
                clear hKK
                change wpAnyZ _ _ _ _ _ _ _ _ (Act.put _ (some 109) _) _
                simp only [Act.put, List.setIfInBounds_toArray, List.set_cons_zero, List.set_cons_succ]
                refine wpAnyZ_take0 (i := 12) (oi := ⟨_, _, _, _, _, _⟩) (v := ?_) rfl (by decide +kernel) (fun _ _ _ h => h) (Or.inl ⟨by rfl, ?_⟩) (fun _ => hS) ?_
                rotate_left
                focus (intro w _; go_simp; (try with_reducible rfl); done)
                simp only [Act.put, List.setIfInBounds_toArray, List.set_cons_zero, List.set_cons_succ]
                refine wpAnyZ_take0 (i := 13) (oi := ⟨_, _, _, _, _, _⟩) (v := ?_) rfl (by decide +kernel) (fun _ _ _ h => h) (Or.inl ⟨by rfl, ?_⟩) (fun _ => hS) ?_
                rotate_left
                focus (intro w _; go_simp; (try with_reducible rfl); done)
                simp only [Act.put, List.setIfInBounds_toArray, List.set_cons_zero, List.set_cons_succ]
                have z3 := (wkr_load hK3.1).2.2.2.1
                refine wpAnyZ_one (i := 14) rfl (by decide +kernel) (fun K hKK => ?_)
                go_simp
                refine hKK.out _ _ (fun hz => absurd hz (by decide +kernel)) ?_
                clear hKK
                refine wpAnyZ_done (by decide +kernel) ?_
                clear z3 f3 hK3 own2 gr2 hO2 L8 L9
                go_wp2_with fail
                go_roundw
                case rel => exact ⟨j + 1, on' + 1, oc2, O2, out' ++ [pj], by go_num, by omega, by omega, L10, hA3⟩
                case measure => simp [intOf]; omega
            · have m1 : decide ((on' : Int) < q.most) = false := by simpa using hmo
              have hA3 : Hd (addR q s.out (p :: r) = out') := ⟨by rw [hA.out, hd.out, addR, if_neg (by rw [hlen.out]; exact hmo)]⟩
              clear hA hd
              go_wp2_with fail
              refine region_zone 17 [false, false, false, false, false, false, false, false, false, false, false, false, false, false, false, false, false] (by kernel_rfl) (by kernel_rfl) hmix (fun w' => LfS w w' g A n c kind q { s1 with out := out' } O' on' oc' bx m (some ad) (k + 1) pc (p :: r) O oc) [] ?_ (fun hS => ?_)
              · exact hL.out.below (below_drewK wr)
              refine wpAnyZ_take0 (i := 0) (oi := ⟨_, _, _, _, _, _⟩) (v := ?_) rfl (by decide +kernel) (fun _ _ _ h => h) (Or.inl ⟨by rfl, ?_⟩) (fun _ => hS) ?_
              rotate_left
              focus (intro w _; go_simp; (try with_reducible rfl); done)
              simp only [Act.put, List.setIfInBounds_toArray, List.set_cons_zero, List.set_cons_succ]
              refine wpAnyZ_take0 (i := 1) (oi := ⟨_, _, _, _, _, _⟩) (v := ?_) rfl (by decide +kernel) (fun _ _ _ h => h) (Or.inl ⟨by rfl, ?_⟩) (fun _ => hS) ?_
              rotate_left
              focus (intro w _; go_simp; (try with_reducible rfl); done)
              simp only [Act.put, List.setIfInBounds_toArray, List.set_cons_zero, List.set_cons_succ]
              refine wpAnyZ_take (i := 2) (oi := ⟨_, _, _, _, _, _⟩) (v := ?_) rfl (by decide +kernel) (fun _ _ _ h => h) (Or.inl ⟨by rfl, ?_⟩) hS ?_
              rotate_left
              focus (intro w hSw; (try dsimp only at hSw); (obtain ⟨z0, z1, z2, z3, z4, z5, z6, z7, z8, z9⟩ := wkr_load hSw.wk; obtain ⟨u0, u1, u2, u3⟩ := hSw.nd.load; clear hSw); go_simp; (try with_reducible rfl); done)
              simp only [Act.put, List.setIfInBounds_toArray, List.set_cons_zero, List.set_cons_succ]
              refine wpAnyZ_take0 (i := 3) (oi := ⟨_, _, _, _, _, _⟩) (v := ?_) rfl (by decide +kernel) (fun _ _ _ h => h) (Or.inl ⟨by rfl, ?_⟩) (fun _ => hS) ?_
              rotate_left
              focus (intro w _; go_simp; (try with_reducible rfl); done)
              simp only [Act.put, List.setIfInBounds_toArray, List.set_cons_zero, List.set_cons_succ]
              refine wpAnyZ_take0 (i := 4) (oi := ⟨_, _, _, _, _, _⟩) (v := ?_) rfl (by decide +kernel) (fun _ _ _ h => h) (Or.inl ⟨by rfl, ?_⟩) (fun _ => hS) ?_
              rotate_left
              focus (intro w _; go_simp; (try with_reducible rfl); done)
              simp only [Act.put, List.setIfInBounds_toArray, List.set_cons_zero, List.set_cons_succ]
              refine wpAnyZ_take0 (i := 5) (oi := ⟨_, _, _, _, _, _⟩) (v := ?_) rfl (by decide +kernel) (fun _ _ _ h => h) (Or.inl ⟨by rfl, ?_⟩) (fun _ => hS) ?_
              rotate_left
              focus (intro w _; go_simp; (try with_reducible rfl); done)
              simp only [Act.put, List.setIfInBounds_toArray, List.set_cons_zero, List.set_cons_succ]
              first
                | (refine wpAnyZ_take0 (i := 6) (oi := ⟨_, _, _, _, _, _⟩) (v := undef) rfl (by decide +kernel) (fun _ _ _ h => h) (Or.inr ⟨by rfl, rfl⟩) (fun _ => hS) ?_)
                | (refine wpAnyZ_take0 (i := 6) (oi := ⟨_, _, _, _, _, _⟩) (v := ?_) rfl (by decide +kernel) (fun _ _ _ h => h) (Or.inl ⟨by rfl, ?_⟩) (fun _ => hS) ?_; rotate_left; focus (intro w hSw; go_simp; (try with_reducible rfl); done))
              simp only [Act.put, List.setIfInBounds_toArray, List.set_cons_zero, List.set_cons_succ]
              first
                | (refine wpAnyZ_take0 (i := 7) (oi := ⟨_, _, _, _, _, _⟩) (v := undef) rfl (by decide +kernel) (fun _ _ _ h => h) (Or.inr ⟨by rfl, rfl⟩) (fun _ => hS) ?_)
                | (refine wpAnyZ_take0 (i := 7) (oi := ⟨_, _, _, _, _, _⟩) (v := ?_) rfl (by decide +kernel) (fun _ _ _ h => h) (Or.inl ⟨by rfl, ?_⟩) (fun _ => hS) ?_; rotate_left; focus (intro w hSw; go_simp; (try with_reducible rfl); done))
              simp only [Act.put, List.setIfInBounds_toArray, List.set_cons_zero, List.set_cons_succ]
              first
                | (refine wpAnyZ_take0 (i := 8) (oi := ⟨_, _, _, _, _, _⟩) (v := undef) rfl (by decide +kernel) (fun _ _ _ h => h) (Or.inr ⟨by rfl, rfl⟩) (fun _ => hS) ?_)
                | (refine wpAnyZ_take0 (i := 8) (oi := ⟨_, _, _, _, _, _⟩) (v := ?_) rfl (by decide +kernel) (fun _ _ _ h => h) (Or.inl ⟨by rfl, ?_⟩) (fun _ => hS) ?_; rotate_left; focus (intro w hSw; go_simp; (try with_reducible rfl); done))
              simp only [Act.put, List.setIfInBounds_toArray, List.set_cons_zero, List.set_cons_succ]
              first
                | (refine wpAnyZ_take (i := 9) (oi := ⟨_, _, _, _, _, _⟩) (v := undef) rfl (by decide +kernel) (fun _ _ _ h => h) (Or.inr ⟨by rfl, rfl⟩) hS ?_)
                | (refine wpAnyZ_take (i := 9) (oi := ⟨_, _, _, _, _, _⟩) (v := ?_) rfl (by decide +kernel) (fun _ _ _ h => h) (Or.inl ⟨by rfl, ?_⟩) hS ?_; rotate_left; focus (intro w hSw; (try dsimp only at hSw); (obtain ⟨z0, z1, z2, z3, z4, z5, z6, z7, z8, z9⟩ := wkr_load hSw.wk; obtain ⟨u0, u1, u2, u3⟩ := hSw.nd.load; clear hSw); go_simp; (try with_reducible rfl); done))
              simp only [Act.put, List.setIfInBounds_toArray, List.set_cons_zero, List.set_cons_succ]
              first
                | (refine wpAnyZ_take0 (i := 10) (oi := ⟨_, _, _, _, _, _⟩) (v := undef) rfl (by decide +kernel) (fun _ _ _ h => h) (Or.inr ⟨by rfl, rfl⟩) (fun _ => hS) ?_)
                | (refine wpAnyZ_take0 (i := 10) (oi := ⟨_, _, _, _, _, _⟩) (v := ?_) rfl (by decide +kernel) (fun _ _ _ h => h) (Or.inl ⟨by rfl, ?_⟩) (fun _ => hS) ?_; rotate_left; focus (intro w hSw; go_simp; (try with_reducible rfl); done))
              simp only [Act.put, List.setIfInBounds_toArray, List.set_cons_zero, List.set_cons_succ]
              first
                | (refine wpAnyZ_take0 (i := 11) (oi := ⟨_, _, _, _, _, _⟩) (v := undef) rfl (by decide +kernel) (fun _ _ _ h => h) (Or.inr ⟨by rfl, rfl⟩) (fun _ => hS) ?_)
                | (refine wpAnyZ_take0 (i := 11) (oi := ⟨_, _, _, _, _, _⟩) (v := ?_) rfl (by decide +kernel) (fun _ _ _ h => h) (Or.inl ⟨by rfl, ?_⟩) (fun _ => hS) ?_; rotate_left; focus (intro w hSw; go_simp; (try with_reducible rfl); done))
              simp only [Act.put, List.setIfInBounds_toArray, List.set_cons_zero, List.set_cons_succ]
              first
                | (refine wpAnyZ_take0 (i := 12) (oi := ⟨_, _, _, _, _, _⟩) (v := undef) rfl (by decide +kernel) (fun _ _ _ h => h) (Or.inr ⟨by rfl, rfl⟩) (fun _ => hS) ?_)
                | (refine wpAnyZ_take0 (i := 12) (oi := ⟨_, _, _, _, _, _⟩) (v := ?_) rfl (by decide +kernel) (fun _ _ _ h => h) (Or.inl ⟨by rfl, ?_⟩) (fun _ => hS) ?_; rotate_left; focus (intro w hSw; go_simp; (try with_reducible rfl); done))
              simp only [Act.put, List.setIfInBounds_toArray, List.set_cons_zero, List.set_cons_succ]
              first
                | (refine wpAnyZ_take0 (i := 13) (oi := ⟨_, _, _, _, _, _⟩) (v := undef) rfl (by decide +kernel) (fun _ _ _ h => h) (Or.inr ⟨by rfl, rfl⟩) (fun _ => hS) ?_)
                | (refine wpAnyZ_take0 (i := 13) (oi := ⟨_, _, _, _, _, _⟩) (v := ?_) rfl (by decide +kernel) (fun _ _ _ h => h) (Or.inl ⟨by rfl, ?_⟩) (fun _ => hS) ?_; rotate_left; focus (intro w hSw; go_simp; (try with_reducible rfl); done))
              simp only [Act.put, List.setIfInBounds_toArray, List.set_cons_zero, List.set_cons_succ]
              first
                | (refine wpAnyZ_take (i := 14) (oi := ⟨_, _, _, _, _, _⟩) (v := undef) rfl (by decide +kernel) (fun _ _ _ h => h) (Or.inr ⟨by rfl, rfl⟩) hS ?_)
                | (refine wpAnyZ_take (i := 14) (oi := ⟨_, _, _, _, _, _⟩) (v := ?_) rfl (by decide +kernel) (fun _ _ _ h => h) (Or.inl ⟨by rfl, ?_⟩) hS ?_; rotate_left; focus (intro w hSw; (try dsimp only at hSw); (obtain ⟨z0, z1, z2, z3, z4, z5, z6, z7, z8, z9⟩ := wkr_load hSw.wk; obtain ⟨u0, u1, u2, u3⟩ := hSw.nd.load; clear hSw); go_simp; (try with_reducible rfl); done))
              simp only [Act.put, List.setIfInBounds_toArray, List.set_cons_zero, List.set_cons_succ]
              first
                | (refine wpAnyZ_take0 (i := 15) (oi := ⟨_, _, _, _, _, _⟩) (v := undef) rfl (by decide +kernel) (fun _ _ _ h => h) (Or.inr ⟨by rfl, rfl⟩) (fun _ => hS) ?_)
                | (refine wpAnyZ_take0 (i := 15) (oi := ⟨_, _, _, _, _, _⟩) (v := ?_) rfl (by decide +kernel) (fun _ _ _ h => h) (Or.inl ⟨by rfl, ?_⟩) (fun _ => hS) ?_; rotate_left; focus (intro w hSw; go_simp; (try with_reducible rfl); done))
              simp only [Act.put, List.setIfInBounds_toArray, List.set_cons_zero, List.set_cons_succ]
              refine wpAnyZ_take0 (i := 16) (oi := ⟨_, _, _, _, _, _⟩) (v := ?_) rfl (by decide +kernel) (fun _ _ _ h => h) (Or.inl ⟨by rfl, ?_⟩) (fun _ => hS) ?_
              rotate_left
              focus (intro w _; go_simp; (try with_reducible rfl); done)
              simp only [Act.put, List.setIfInBounds_toArray, List.set_cons_zero, List.set_cons_succ]
              refine wpAnyZ_done (by decide +kernel) ?_
              have L6 := Hd.mk (hL.out.below (below_drewK wr))
              clear hS hL
              generalize wr.drew = W6 at L6 ⊢
              go_wp2_with fail
              go_end0
              rw [hr.out, hA3.out]
              exact ⟨rfl, L6.out.end_⟩
          · obtain rfl : j = k + 1 := by omega
            have hA3 : Hd (addR q s.out (p :: r) = out') := ⟨by rw [hA.out, List.drop_of_length_le (by rw [hpl.out]; exact Nat.le_refl _)]; rfl⟩
            have j1 : ¬ (((k + 1 : Nat) : Int) < ((k + 1 : Nat) : Int)) := by omega
            have j2 : decide (((k : Int) + 1) < ((k : Int) + 1)) = false := by simp
            clear hA
            go_wp2_with fail
            refine region_zone 17 [false, false, false, false, false, false, false, false, false, false, false, false, false, false, false, false, false] (by kernel_rfl) (by kernel_rfl) hmix (fun w' => LfS w w' g A n c kind q { s1 with out := out' } O' on' oc' bx m (some ad) (k + 1) pc (p :: r) O oc) [] ?_ (fun hS => ?_)
            · exact hL.out.below (below_drewK wr)
            refine wpAnyZ_take0 (i := 0) (oi := ⟨_, _, _, _, _, _⟩) (v := ?_) rfl (by decide +kernel) (fun _ _ _ h => h) (Or.inl ⟨by rfl, ?_⟩) (fun _ => hS) ?_
            rotate_left
            focus (intro w _; go_simp; (try with_reducible rfl); done)
            simp only [Act.put, List.setIfInBounds_toArray, List.set_cons_zero, List.set_cons_succ]
            refine wpAnyZ_take0 (i := 1) (oi := ⟨_, _, _, _, _, _⟩) (v := ?_) rfl (by decide +kernel) (fun _ _ _ h => h) (Or.inl ⟨by rfl, ?_⟩) (fun _ => hS) ?_
            rotate_left
            focus (intro w _; go_simp; (try with_reducible rfl); done)
            simp only [Act.put, List.setIfInBounds_toArray, List.set_cons_zero, List.set_cons_succ]
            refine wpAnyZ_take (i := 2) (oi := ⟨_, _, _, _, _, _⟩) (v := ?_) rfl (by decide +kernel) (fun _ _ _ h => h) (Or.inl ⟨by rfl, ?_⟩) hS ?_
            rotate_left
            focus (intro w hSw; (try dsimp only at hSw); (obtain ⟨z0, z1, z2, z3, z4, z5, z6, z7, z8, z9⟩ := wkr_load hSw.wk; obtain ⟨u0, u1, u2, u3⟩ := hSw.nd.load; clear hSw); go_simp; (try with_reducible rfl); done)
            simp only [Act.put, List.setIfInBounds_toArray, List.set_cons_zero, List.set_cons_succ]
            refine wpAnyZ_take0 (i := 3) (oi := ⟨_, _, _, _, _, _⟩) (v := ?_) rfl (by decide +kernel) (fun _ _ _ h => h) (Or.inl ⟨by rfl, ?_⟩) (fun _ => hS) ?_
            rotate_left
            focus (intro w _; go_simp; (try with_reducible rfl); done)
            simp only [Act.put, List.setIfInBounds_toArray, List.set_cons_zero, List.set_cons_succ]
            refine wpAnyZ_take0 (i := 4) (oi := ⟨_, _, _, _, _, _⟩) (v := ?_) rfl (by decide +kernel) (fun _ _ _ h => h) (Or.inl ⟨by rfl, ?_⟩) (fun _ => hS) ?_
            rotate_left
            focus (intro w _; go_simp; (try with_reducible rfl); done)
            simp only [Act.put, List.setIfInBounds_toArray, List.set_cons_zero, List.set_cons_succ]
            refine wpAnyZ_take0 (i := 5) (oi := ⟨_, _, _, _, _, _⟩) (v := ?_) rfl (by decide +kernel) (fun _ _ _ h => h) (Or.inl ⟨by rfl, ?_⟩) (fun _ => hS) ?_
            rotate_left
            focus (intro w _; go_simp; (try with_reducible rfl); done)
            simp only [Act.put, List.setIfInBounds_toArray, List.set_cons_zero, List.set_cons_succ]
            first
              | (refine wpAnyZ_take0 (i := 6) (oi := ⟨_, _, _, _, _, _⟩) (v := undef) rfl (by decide +kernel) (fun _ _ _ h => h) (Or.inr ⟨by rfl, rfl⟩) (fun _ => hS) ?_)
              | (refine wpAnyZ_take0 (i := 6) (oi := ⟨_, _, _, _, _, _⟩) (v := ?_) rfl (by decide +kernel) (fun _ _ _ h => h) (Or.inl ⟨by rfl, ?_⟩) (fun _ => hS) ?_; rotate_left; focus (intro w hSw; go_simp; (try with_reducible rfl); done))
            simp only [Act.put, List.setIfInBounds_toArray, List.set_cons_zero, List.set_cons_succ]
            first
              | (refine wpAnyZ_take0 (i := 7) (oi := ⟨_, _, _, _, _, _⟩) (v := undef) rfl (by decide +kernel) (fun _ _ _ h => h) (Or.inr ⟨by rfl, rfl⟩) (fun _ => hS) ?_)
              | (refine wpAnyZ_take0 (i := 7) (oi := ⟨_, _, _, _, _, _⟩) (v := ?_) rfl (by decide +kernel) (fun _ _ _ h => h) (Or.inl ⟨by rfl, ?_⟩) (fun _ => hS) ?_; rotate_left; focus (intro w hSw; go_simp; (try with_reducible rfl); done))
            simp only [Act.put, List.setIfInBounds_toArray, List.set_cons_zero, List.set_cons_succ]
            first
              | (refine wpAnyZ_take0 (i := 8) (oi := ⟨_, _, _, _, _, _⟩) (v := undef) rfl (by decide +kernel) (fun _ _ _ h => h) (Or.inr ⟨by rfl, rfl⟩) (fun _ => hS) ?_)
              | (refine wpAnyZ_take0 (i := 8) (oi := ⟨_, _, _, _, _, _⟩) (v := ?_) rfl (by decide +kernel) (fun _ _ _ h => h) (Or.inl ⟨by rfl, ?_⟩) (fun _ => hS) ?_; rotate_left; focus (intro w hSw; go_simp; (try with_reducible rfl); done))
            simp only [Act.put, List.setIfInBounds_toArray, List.set_cons_zero, List.set_cons_succ]
            first
              | (refine wpAnyZ_take (i := 9) (oi := ⟨_, _, _, _, _, _⟩) (v := undef) rfl (by decide +kernel) (fun _ _ _ h => h) (Or.inr ⟨by rfl, rfl⟩) hS ?_)
              | (refine wpAnyZ_take (i := 9) (oi := ⟨_, _, _, _, _, _⟩) (v := ?_) rfl (by decide +kernel) (fun _ _ _ h => h) (Or.inl ⟨by rfl, ?_⟩) hS ?_; rotate_left; focus (intro w hSw; (try dsimp only at hSw); (obtain ⟨z0, z1, z2, z3, z4, z5, z6, z7, z8, z9⟩ := wkr_load hSw.wk; obtain ⟨u0, u1, u2, u3⟩ := hSw.nd.load; clear hSw); go_simp; (try with_reducible rfl); done))
            simp only [Act.put, List.setIfInBounds_toArray, List.set_cons_zero, List.set_cons_succ]
            first
              | (refine wpAnyZ_take0 (i := 10) (oi := ⟨_, _, _, _, _, _⟩) (v := undef) rfl (by decide +kernel) (fun _ _ _ h => h) (Or.inr ⟨by rfl, rfl⟩) (fun _ => hS) ?_)
              | (refine wpAnyZ_take0 (i := 10) (oi := ⟨_, _, _, _, _, _⟩) (v := ?_) rfl (by decide +kernel) (fun _ _ _ h => h) (Or.inl ⟨by rfl, ?_⟩) (fun _ => hS) ?_; rotate_left; focus (intro w hSw; go_simp; (try with_reducible rfl); done))
            simp only [Act.put, List.setIfInBounds_toArray, List.set_cons_zero, List.set_cons_succ]
            first
              | (refine wpAnyZ_take0 (i := 11) (oi := ⟨_, _, _, _, _, _⟩) (v := undef) rfl (by decide +kernel) (fun _ _ _ h => h) (Or.inr ⟨by rfl, rfl⟩) (fun _ => hS) ?_)
              | (refine wpAnyZ_take0 (i := 11) (oi := ⟨_, _, _, _, _, _⟩) (v := ?_) rfl (by decide +kernel) (fun _ _ _ h => h) (Or.inl ⟨by rfl, ?_⟩) (fun _ => hS) ?_; rotate_left; focus (intro w hSw; go_simp; (try with_reducible rfl); done))
            simp only [Act.put, List.setIfInBounds_toArray, List.set_cons_zero, List.set_cons_succ]
            first
              | (refine wpAnyZ_take0 (i := 12) (oi := ⟨_, _, _, _, _, _⟩) (v := undef) rfl (by decide +kernel) (fun _ _ _ h => h) (Or.inr ⟨by rfl, rfl⟩) (fun _ => hS) ?_)
              | (refine wpAnyZ_take0 (i := 12) (oi := ⟨_, _, _, _, _, _⟩) (v := ?_) rfl (by decide +kernel) (fun _ _ _ h => h) (Or.inl ⟨by rfl, ?_⟩) (fun _ => hS) ?_; rotate_left; focus (intro w hSw; go_simp; (try with_reducible rfl); done))
            simp only [Act.put, List.setIfInBounds_toArray, List.set_cons_zero, List.set_cons_succ]
            first
              | (refine wpAnyZ_take0 (i := 13) (oi := ⟨_, _, _, _, _, _⟩) (v := undef) rfl (by decide +kernel) (fun _ _ _ h => h) (Or.inr ⟨by rfl, rfl⟩) (fun _ => hS) ?_)
              | (refine wpAnyZ_take0 (i := 13) (oi := ⟨_, _, _, _, _, _⟩) (v := ?_) rfl (by decide +kernel) (fun _ _ _ h => h) (Or.inl ⟨by rfl, ?_⟩) (fun _ => hS) ?_; rotate_left; focus (intro w hSw; go_simp; (try with_reducible rfl); done))
            simp only [Act.put, List.setIfInBounds_toArray, List.set_cons_zero, List.set_cons_succ]
            first
              | (refine wpAnyZ_take (i := 14) (oi := ⟨_, _, _, _, _, _⟩) (v := undef) rfl (by decide +kernel) (fun _ _ _ h => h) (Or.inr ⟨by rfl, rfl⟩) hS ?_)
              | (refine wpAnyZ_take (i := 14) (oi := ⟨_, _, _, _, _, _⟩) (v := ?_) rfl (by decide +kernel) (fun _ _ _ h => h) (Or.inl ⟨by rfl, ?_⟩) hS ?_; rotate_left; focus (intro w hSw; (try dsimp only at hSw); (obtain ⟨z0, z1, z2, z3, z4, z5, z6, z7, z8, z9⟩ := wkr_load hSw.wk; obtain ⟨u0, u1, u2, u3⟩ := hSw.nd.load; clear hSw); go_simp; (try with_reducible rfl); done))
            simp only [Act.put, List.setIfInBounds_toArray, List.set_cons_zero, List.set_cons_succ]
            first
              | (refine wpAnyZ_take0 (i := 15) (oi := ⟨_, _, _, _, _, _⟩) (v := undef) rfl (by decide +kernel) (fun _ _ _ h => h) (Or.inr ⟨by rfl, rfl⟩) (fun _ => hS) ?_)
              | (refine wpAnyZ_take0 (i := 15) (oi := ⟨_, _, _, _, _, _⟩) (v := ?_) rfl (by decide +kernel) (fun _ _ _ h => h) (Or.inl ⟨by rfl, ?_⟩) (fun _ => hS) ?_; rotate_left; focus (intro w hSw; go_simp; (try with_reducible rfl); done))
            simp only [Act.put, List.setIfInBounds_toArray, List.set_cons_zero, List.set_cons_succ]
            refine wpAnyZ_take0 (i := 16) (oi := ⟨_, _, _, _, _, _⟩) (v := ?_) rfl (by decide +kernel) (fun _ _ _ h => h) (Or.inl ⟨by rfl, ?_⟩) (fun _ => hS) ?_
            rotate_left
            focus (intro w _; go_simp; (try with_reducible rfl); done)
            simp only [Act.put, List.setIfInBounds_toArray, List.set_cons_zero, List.set_cons_succ]
            refine wpAnyZ_done (by decide +kernel) ?_
            have L6 := Hd.mk (hL.out.below (below_drewK wr))
            clear hS hL
            generalize wr.drew = W6 at L6 ⊢
            go_wp2_with fail
            go_end0
            rw [hr.out, hA3.out]
            exact ⟨rfl, L6.out.end_⟩
end Go.Proofs.Ytkgdcglnkodgnaa

