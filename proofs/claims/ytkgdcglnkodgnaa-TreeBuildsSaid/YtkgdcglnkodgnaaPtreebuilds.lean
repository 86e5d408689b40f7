/-
  The statement TreeBuilds: whatever the input, the law returns true and leaves its arguments as they were. No condition beyond the row's own.
-/
import Derived.Test.YtkgdcglnkodgnaaLev
import Derived.Test.YtkgdcglnkodgnaaRdS
import Derived.Test.YtkgdcglnkodgnaaBu
import Derived.Test.YtkgdcglnkodgnaaPr
import Derived.Deep.DeepCutAuto
import Derived.Test.YtkgdcglnkodgnaaAwk
import Derived.Test.YtkgdcglnkodgnaaRows
import Derived.Test.YtkgdcglnkodgnaaOpen
import Derived.Test.YtkgdcglnkodgnaaOpenK
namespace Go.Proofs.Ytkgdcglnkodgnaa
open Go.RowKit
theorem info22 : (Try.prog.info? 22).map (fun i => (i.zero, i.size, i.bytes)) = some (some (.slice none 0 0), 1, 24) := by kernel_rfl
theorem info9 : (Try.prog.info? 9).map (fun i => (i.zero, i.size, i.bytes)) = some (some (.string ⟨#[]⟩), 1, 16) := by kernel_rfl
/-- What an append of one-cell elements leaves. -/
def AppG (w : World) (base : Nat) (e : TypeId) (A : Option Addr) (c n' : Nat) (xs : List Value) (v : Value) (w' : World) : Prop :=
  ∃ A' c', v = .slice A' n' c' ∧ Own w' base e 1 A' n' c' xs ∧ w.grownBy w' (ownBlk A c) ∧ ((A' = A ∧ c' = c ∧ n' ≤ c) ∨ A' = some ⟨w.heap.size, 0, none⟩)
section
variable {w : World} {ops : Array Oper} {rest : List Oper} {o : Oper} {a : Act} {Q : Exit → Act → World → Prop}
theorem wl_appG {t e : TypeId} {z : Value} {by_ : Nat} (ht : Try.prog.underlying t = some (.slice e)) (hi : (Try.prog.info? e).map (fun i => (i.zero, i.size, i.bytes)) = some (some z, 1, by_)) (hz : z.cells.size = 1)
    (hgd : o.guard = none) (s x : Operand) (ho : o.op = .call { callee := .builtin .append, args := #[s, x], argTypes := #[t, t] })
    {base : Nat} {A S : Option Addr} {n c m cs : Nat} {xs ys : List Value} (hs : a.eval s = .slice A n c) (hx : a.eval x = .slice S m cs)
    (hown : Own w base e 1 A n c xs) (hr : Rd w 1 S m ys) (h1 : ∀ u ∈ ys, u.oneCell' = true) (hb : (n + m) * by_ ≤ 140737488355328) (hm : n + m ≤ maxLen) (hbase : base ≤ w.heap.size)
    (h : ∀ v w', AppG w base e A c (n + m) (xs ++ ys) v w' → wpList Try.prog ops Q rest (a.put o.dst v) w') : wpList Try.prog ops Q (o :: rest) a w := by
  obtain ⟨i0, hi, hz0, hz1, hz2⟩ := info_parts hi
  obtain ⟨A', c', w', hrun, hap⟩ := run_append_rd (P := Try.prog) w base t o.type e i0 _ 1 by_ ht hi hz0 hz1 hz2 hz A n c xs hown S m cs ys hr h1 hm hb hbase
  exact wpList_run w hgd s x t t ho _ _ hs hx (R := AppG w base e A c (n + m) (xs ++ ys)) ⟨_, w', hrun, A', c', rfl, hap.1, hap.2⟩ h
end
abbrev Hdr := Option Addr × Nat × Nat
def sV (h : Hdr) : Value := .slice h.1 h.2.1 h.2.2
/-- Slices of bytes, each the call's own, in a slice of the call's own. -/
structure LayD (w : World) (base : Nat) (D : Option Addr) (dn dc : Nat) (hs : List Hdr) (ds : List (List UInt8)) : Prop where
  arr : Own w base 22 1 D dn dc (hs.map sV)
  len : hs.length = ds.length
  el : ∀ (j : Nat) h d, hs[j]? = some h → ds[j]? = some d → Own8 w base h.1 h.2.1 h.2.2 d
  ne : ∀ (i j : Nat) hi hj k, hs[i]? = some hi → hs[j]? = some hj → ownBlk hi.1 hi.2.2 = some k → ownBlk hj.1 hj.2.2 = some k → i = j
section
variable {w w' : World} {base : Nat} {D : Option Addr} {dn dc : Nat} {hs : List Hdr} {ds : List (List UInt8)}
theorem LayD.dlen (h : LayD w base D dn dc hs ds) : ds.length = dn := by rw [← h.len]; have := h.arr.1; simpa using this
theorem LayD.keep (h : LayD w base D dn dc hs ds) (hk : ∀ k, base ≤ k → k < w.heap.size → w'.heap[k]? = w.heap[k]?) : LayD w' base D dn dc hs ds :=
  ⟨Own.keep h.arr fun g _ h1 h2 => hk g h1 h2, h.len, fun j q d hq hd => Own.keep (h.el j q d hq hd) fun g _ h1 h2 => hk g h1 h2, h.ne⟩
theorem LayD.below (h : LayD w base D dn dc hs ds) (hb : Below w.heap.size w w') : LayD w' base D dn dc hs ds := h.keep fun k _ hk => hb.block k hk
/-- A block of another type. -/
theorem LayD.grown (h : LayD w base D dn dc hs ds) {row : Option Nat} {T : Nat} (hg : w.grownBy w' row) (hT : ∀ k, row = some k → ∃ cs, w.heap[k]? = some (.cells cs T (0, 0))) (h1 : T ≠ 22) (h2 : T ≠ 5) : LayD w' base D dn dc hs ds := by
  refine ⟨Own.grown h.arr hg fun g hg' e => ?_, h.len, fun j q d hq hd => Own.grown (h.el j q d hq hd) hg fun g hg' e => ?_, h.ne⟩
  · obtain ⟨cs, hcs⟩ := hT g e
    exact own_ne h.arr hcs h1 hg'
  · obtain ⟨cs, hcs⟩ := hT g e
    exact own_ne (h.el j q d hq hd) hcs h2 hg'
theorem LayD.push (h : LayD w base D dn dc hs ds) {q : Hdr} {d : List UInt8} {v : Value} (hq : Own8 w base q.1 q.2.1 q.2.2 d) (hnew : ∀ (j : Nat) (hj : Hdr) (k : Nat), hs[j]? = some hj → ownBlk hj.1 hj.2.2 = some k → ownBlk q.1 q.2.2 ≠ some k)
    (ha : AppG w base 22 D dc (dn + 1) (hs.map sV ++ [sV q]) v w') : ∃ D' dc', v = .slice D' (dn + 1) dc' ∧ LayD w' base D' (dn + 1) dc' (hs ++ [q]) (ds ++ [d]) ∧ w.grownBy w' (ownBlk D dc) := by
  obtain ⟨D', dc', rfl, o, g, _⟩ := ha
  have hne : ∀ {A : Option Addr} {n c : Nat} {l : List UInt8} (k : Nat), Own8 w base A n c l → ownBlk A c = some k → ownBlk D dc ≠ some k := fun k ho e e' => by
    obtain ⟨cs, hcs⟩ := own_type ho e
    exact own_ne h.arr hcs (by decide) e'
  have hk : ∀ {A : Option Addr} {n c : Nat} {l : List UInt8}, Own8 w base A n c l → Own8 w' base A n c l := fun ho => Own.grown ho g fun k e e' => hne k ho e e'
  have ha : ∀ (j : Nat) x, (hs ++ [q])[j]? = some x → (hs[j]? = some x ∧ j < hs.length) ∨ (j = hs.length ∧ x = q) := fun j x hx => by
    rcases Nat.lt_or_ge j hs.length with hj | hj
    · rw [List.getElem?_append_left hj] at hx; exact .inl ⟨hx, hj⟩
    · rw [List.getElem?_append_right hj] at hx
      rcases Nat.eq_zero_or_pos (j - hs.length) with h0 | h0
      · rw [h0] at hx; simp at hx; exact .inr ⟨by omega, hx.symm⟩
      · rw [List.getElem?_eq_none (by simp; omega)] at hx; cases hx
  refine ⟨D', dc', rfl, ⟨by rw [List.map_append]; exact o, by simp [h.len], fun j x e hx he => ?_, fun i j x y k hx hy hkx hky => ?_⟩, g⟩
  · rcases ha j x hx with ⟨h1, h2⟩ | ⟨h1, rfl⟩
    · rw [List.getElem?_append_left (by rw [← h.len]; exact h2)] at he
      exact hk (h.el j x e h1 he)
    · rw [h1, h.len, List.getElem?_append_right (Nat.le_refl _), Nat.sub_self] at he
      simp at he; subst he
      exact hk hq
  · rcases ha i x hx with ⟨h1, h2⟩ | ⟨h1, rfl⟩ <;> rcases ha j y hy with ⟨h3, h4⟩ | ⟨h3, rfl⟩
    · exact h.ne i j x y k h1 h3 hkx hky
    · exact absurd hky (hnew i x k h1 hkx)
    · exact absurd hkx (hnew j y k h3 hky)
    · omega
/-- An own slice keeps where an own slice of another type grows. -/
theorem own_apart {e e' size size' n c n' c' base base' : Nat} {A B : Option Addr} {xs ys : List Value} (h : Own w base e size A n c xs) (h' : Own w base' e' size' B n' c' ys) (hT : e ≠ e') (hg : w.grownBy w' (ownBlk B c')) : Own w' base e size A n c xs :=
  Own.grown h hg fun k hk e1 => by
    obtain ⟨cs, hcs⟩ := own_type h hk
    exact own_ne h' hcs hT e1
/-- The last of them grown. -/
theorem LayD.last {q : Hdr} {d : List UInt8} (h : LayD w base D (dn + 1) dc (hs ++ [q]) (ds ++ [d])) {n' : Nat} {d' : List UInt8} {v : Value} (ha : App8 w base q.1 q.2.2 n' d' v w') :
    ∃ q' ad, v = sV q' ∧ D = some ad ∧ w'.frozen? (ad.add dn) = false ∧ w'.cell? (ad.add dn) = some (sV q) ∧ LayD (w'.setCell (ad.add dn) v) base D (dn + 1) dc (hs ++ [q']) (ds ++ [d']) ∧ q'.2.1 = n' ∧
      (∀ w0, Below base w0 w → base ≤ w.heap.size → Below base w0 (w'.setCell (ad.add dn) v)) ∧ ∀ {K : Option Addr} {kn kc : Nat} {xs : List Value}, Own w base 9 1 K kn kc xs → Own (w'.setCell (ad.add dn) v) base 9 1 K kn kc xs := by
  obtain ⟨A', c', rfl, o, g, hcase⟩ := ha
  have hhl : hs.length = dn := by have := h.arr.1; simp at this; omega
  have hdl : ds.length = dn := by have := h.len; simp at this; omega
  have hq : (hs ++ [q])[dn]? = some q := by rw [← hhl]; simp
  have hd : (ds ++ [d])[dn]? = some d := by rw [← hdl]; simp
  have hqo := h.el dn q d hq hd
  have arr' : Own w' base 22 1 D (dn + 1) dc ((hs ++ [q]).map sV) := own_apart h.arr hqo (by decide) g
  obtain ⟨ad, u, hD, hu, hc, hf, hb⟩ := Own.at_ arr' (j := dn) (by omega)
  have hu' : u = sV q := by rw [List.getElem?_map, hq] at hu; injection hu with hu; exact hu.symm
  subst hu'
  have gs : w'.grownBy (w'.setCell (ad.add dn) (.slice A' n' c')) (ownBlk D dc) := grown_set dn _ hb
  have oset := Own.set_ arr' (j := dn) (by omega) hD (sV (A', n', c'))
  have eset : ((hs ++ [q]).map sV).set dn (sV (A', n', c')) = (hs ++ [(A', n', c')]).map sV := by
    rw [List.map_append, List.map_append, List.set_append_right _ _ (by simp [hhl])]
    simp [hhl]
  rw [eset] at oset
  have hlast : ∀ (j : Nat) x, (hs ++ [(A', n', c')])[j]? = some x → (hs[j]? = some x ∧ j < dn) ∨ (j = dn ∧ x = (A', n', c')) := fun j x hx => by
    rcases Nat.lt_or_ge j hs.length with hj | hj
    · rw [List.getElem?_append_left hj] at hx; exact .inl ⟨hx, by omega⟩
    · rw [List.getElem?_append_right hj] at hx
      rcases Nat.eq_zero_or_pos (j - hs.length) with h0 | h0
      · rw [h0] at hx; simp at hx; exact .inr ⟨by omega, hx.symm⟩
      · rw [List.getElem?_eq_none (by simp; omega)] at hx; cases hx
  have hold : ∀ (j : Nat) x, hs[j]? = some x → j < dn → (hs ++ [q])[j]? = some x := fun j x hx hj => by rw [List.getElem?_append_left (by omega)]; exact hx
  have hqk : ∀ (j : Nat) x k, hs[j]? = some x → j < dn → ownBlk x.1 x.2.2 = some k → ownBlk q.1 q.2.2 ≠ some k := fun j x k hx hj e e' => by
    have := h.ne j dn x q k (hold j x hx hj) hq e e'
    omega
  have hnew : ∀ k, ownBlk A' c' = some k → ownBlk q.1 q.2.2 = some k ∨ k = w.heap.size := fun k e => by
    rcases hcase with ⟨e1, e2, _⟩ | e1
    · left; rw [← e1, ← e2]; exact e
    · right
      unfold ownBlk at e
      split at e
      · cases e
      · rw [e1] at e; simp at e; omega
  refine ⟨(A', n', c'), ad, rfl, hD, hf, hc, ⟨oset, by simp [hhl, hdl], fun j x e hx he => ?_, fun i j x y k hx hy hkx hky => ?_⟩, rfl, fun w0 hb0 hsz => ?_, fun ho => ?_⟩
  · rcases hlast j x hx with ⟨h1, h2⟩ | ⟨h1, rfl⟩
    · rw [List.getElem?_append_left (by omega)] at he
      have he' : (ds ++ [d])[j]? = some e := by rw [List.getElem?_append_left (by omega)]; exact he
      have h3 := h.el j x e (hold j x h1 h2) he'
      exact own_apart (Own.grown h3 g fun k hk e' => hqk j x k h1 h2 hk e') arr' (by decide) gs
    · rw [h1, ← hdl, List.getElem?_append_right (Nat.le_refl _), Nat.sub_self] at he
      simp at he; subst he
      exact own_apart o arr' (by decide) gs
  · rcases hlast i x hx with ⟨h1, h2⟩ | ⟨h1, rfl⟩ <;> rcases hlast j y hy with ⟨h3, h4⟩ | ⟨h3, rfl⟩
    · exact h.ne i j x y k (hold i x h1 h2) (hold j y h3 h4) hkx hky
    · rcases hnew k hky with e | e
      · exact absurd e (hqk i x k h1 h2 hkx)
      · have h5 : ∃ e', (ds ++ [d])[i]? = some e' := ⟨_, List.getElem?_eq_getElem (by simp; omega)⟩
        obtain ⟨e', he'⟩ := h5
        have := (Own.lt (h.el i x e' (hold i x h1 h2) he') hkx).2
        omega
    · rcases hnew k hkx with e | e
      · exact absurd e (hqk j y k h3 h4 hky)
      · have h5 : ∃ e', (ds ++ [d])[j]? = some e' := ⟨_, List.getElem?_eq_getElem (by simp; omega)⟩
        obtain ⟨e', he'⟩ := h5
        have := (Own.lt (h.el j y e' (hold j y h3 h4) he') hky).2
        omega
    · omega
  · have g1 := hb0.grown g hsz (fun k e => (Own.lt hqo e).1)
    exact g1.grown gs (Nat.le_trans hsz g.size) (fun k e => (Own.lt arr' e).1)
  · exact own_apart (own_apart ho hqo (by decide) g) arr' (by decide) gs
end
theorem rd_one (w : World) (v : Value) (T H : Nat) (hH : H = w.heap.size) : Rd (w.alloc (.cells #[v] T)) 1 (some ⟨H, 0, none⟩) 1 [v] := by
  subst hH
  exact (Own.made (base := 0) (e := T) (size := 1) w #[v] 1 1 (Nat.zero_le _) (Nat.le_refl _) (by unfold maxLen; omega) rfl).rd
/-- Strings. -/
def sK (l : List ByteArray) : List Value := l.map Value.string
theorem sK_one (l : List ByteArray) : ∀ u ∈ sK l, u.oneCell' = true := by
  intro u hu
  obtain ⟨x, _, rfl⟩ := List.mem_map.1 hu
  rfl
def nodeB (lev : UInt8) (c : List Kp) : List UInt8 := lev :: pairsB c
def keyAt (l cur : List Kp) : ByteArray := if cur = [] then headK l else headK cur
/-- What the document's layer answers. -/
def RetLa (w : World) (lev : UInt8) (cs : List (List Kp)) (e : Ending) (w' : World) : Prop :=
  ∃ D dn dc K kn kc hs, e = .returned (.tuple #[.slice D dn dc, .slice K kn kc]) ∧ LayD w' w.heap.size D dn dc hs (cs.map (nodeB lev)) ∧ Own w' w.heap.size 9 1 K kn kc (sK (cs.map headK)) ∧ Below w.heap.size w w'
theorem lay_start (w : World) (lev : UInt8) {V : World} (hV : V = ((w.alloc (.cells #[.int .u8 (lev.toNat : Int)] 5)).alloc (.cells #[.slice (some ⟨w.heap.size, 0, none⟩) 1 1] 22)).alloc (.cells #[.string ⟨#[]⟩] 9)) :
    LayD V w.heap.size (some ⟨w.heap.size + 1, 0, none⟩) 1 1 ([] ++ [(some ⟨w.heap.size, 0, none⟩, 1, 1)]) ([] ++ [nodeB lev []]) ∧ Own V w.heap.size 9 1 (some ⟨w.heap.size + 1 + 1, 0, none⟩) 1 1 (sK [⟨#[]⟩]) ∧ Below w.heap.size w V := by
  have o1 := Own8.new w [lev] (cell1 lev) (m := 1) (base := w.heap.size) rfl (Nat.le_refl _) (by unfold maxLen; omega)
  have o2 := Own.made (base := w.heap.size) (e := 22) (size := 1) (w.alloc (.cells #[.int .u8 (lev.toNat : Int)] 5)) #[.slice (some ⟨w.heap.size, 0, none⟩) 1 1] 1 1 (by simp) (Nat.le_refl _) (by unfold maxLen; omega) rfl
  have o3 := Own.made (base := w.heap.size) (e := 9) (size := 1) ((w.alloc (.cells #[.int .u8 (lev.toNat : Int)] 5)).alloc (.cells #[.slice (some ⟨w.heap.size, 0, none⟩) 1 1] 22)) #[.string ⟨#[]⟩] 1 1 (by simp; omega) (Nat.le_refl _) (by unfold maxLen; omega) rfl
  simp only [World.size_alloc] at o2 o3
  have e1 : ∀ (j : Nat) (x : Hdr), ([] ++ [((some ⟨w.heap.size, 0, none⟩, 1, 1) : Hdr)])[j]? = some x → j = 0 ∧ x = (some ⟨w.heap.size, 0, none⟩, 1, 1) := fun j x hx => by
    match j with
    | 0 => simp at hx; exact ⟨rfl, hx.symm⟩
    | j + 1 => simp at hx
  refine ⟨⟨by rw [hV]; exact Own.alloc o2 _, rfl, fun j x d hx hd => ?_, fun i j x y k hx hy _ _ => by rw [(e1 i x hx).1, (e1 j y hy).1]⟩, by rw [hV]; exact o3, by rw [hV]; exact (((Below.refl _ _).alloc (Nat.le_refl _) _).alloc (by simp) _).alloc (by simp; omega) _⟩
  obtain ⟨rfl, rfl⟩ := e1 j x hx
  simp at hd; subst hd
  rw [hV]
  exact Own8.alloc (Own8.alloc o1 _) _
set_option maxRecDepth 100000 in
set_option maxHeartbeats 4000000 in
theorem layer110 (A : Option Addr) (n c : Nat) (l : List Kp) (level : Nat) (w : World) (h : RdK w A n l) (hn : n ≤ 20000) (hok : ∀ p ∈ l, OkP p) :
    Calls Try.prog 110 #[.slice A n c, .int .i64 (level : Int)] w (RetLa w (UInt8.ofNat level) (chunks l)) := by
  have hmix := try_mixed
  have HL := Hd.mk h.len
  have HR := Hd.mk h
  have HOK := Hd.mk hok
  obtain ⟨lev, hlev⟩ : ∃ lev, UInt8.ofNat level = lev := ⟨_, rfl⟩
  have hwl : IntKind.u8.wrap (level : Int) = ((UInt8.ofNat level).toNat : Int) := by rw [IntKind.wrap_u8, UInt8.toNat_ofNat']; omega
  rw [hlev] at hwl ⊢
  clear h hok
  obtain ⟨V, hV⟩ : ∃ V, Hd (((w.alloc (.cells #[.int .u8 (lev.toNat : Int)] 5)).alloc (.cells #[.slice (some ⟨w.heap.size, 0, none⟩) 1 1] 22)).alloc (.cells #[.string ⟨#[]⟩] 9) = V) := ⟨_, ⟨rfl⟩⟩
  obtain ⟨s1, s2, s3⟩ := lay_start w lev hV.out.symm
  have S1 := Hd.mk s1
  have S2 := Hd.mk s2
  have S3 := Hd.mk s3
  clear s1 s2 s3
  go_enter Try.func110, Try.ntmps110
  go_upto_if 18 with fail
  rw [hV.out]
  go_cut [] from 18 to 24 (fun wd => Hd (LayD wd w.heap.size (some ⟨w.heap.size + 1, 0, none⟩) 1 1 ([] ++ [(some ⟨w.heap.size, 0, none⟩, 1, 1)]) ([] ++ [nodeB lev []])) ∧ Hd (Own wd w.heap.size 9 1 (some ⟨w.heap.size + 1 + 1, 0, none⟩) 1 1 (sK [headK l])) ∧ Hd (Below w.heap.size w wd))
  case first =>
    by_cases h0 : 0 < n
    · obtain ⟨p, r, hpr⟩ : ∃ p r, l = p :: r := by
        cases l with
        | nil => have := HL.out; simp at this; omega
        | cons p r => exact ⟨p, r, rfl⟩
      have RV : RdK V A n l := Rd.below HR.out S3.out
      obtain ⟨ad, rfl, y0, -⟩ := RdK.get (k := 0) (p := p) RV (by rw [hpr]; rfl)
      have y0' : V.cell? ad = some (.string p.1) := by simpa [Addr.add] using y0
      have h0i : (0 : Int) < (n : Int) := by omega
      obtain ⟨ad2, u, hA, hu, hc, hf, hb⟩ := Own.at_ S2.out (j := 0) (by omega)
      injection hA with hA
      subst hA
      have gs := Hd.mk (grown_set (w := V) 0 (.string p.1) hb)
      have o2 := Own.set_ S2.out (j := 0) (by omega) rfl (.string p.1)
      have O2 : Hd (Own (V.setCell ⟨w.heap.size + 1 + 1, 0, none⟩ (.string p.1)) w.heap.size 9 1 (some ⟨w.heap.size + 1 + 1, 0, none⟩) 1 1 (sK [headK l])) := ⟨by
        rw [hpr]
        exact o2⟩
      have e0 : (⟨w.heap.size + 1 + 1, 0, none⟩ : Addr).add 0 = ⟨w.heap.size + 1 + 1, 0, none⟩ := rfl
      rw [e0] at hc hf gs
      have L2 := Hd.mk (S1.out.grown (T := 9) gs.out (fun k e => by obtain ⟨cs, hcs⟩ := own_type S2.out e; exact ⟨cs, hcs⟩) (by decide) (by decide))
      have B2 := Hd.mk (S3.out.grown gs.out S3.out.size (fun k e => (Own.lt S2.out e).1))
      clear y0 o2 RV
      go_wp2_with fail
      go_meet
      case rel => exact ⟨L2, O2, B2⟩
    · have h0n : ¬ 0 < n := h0
      have hl0 : l = [] := List.eq_nil_of_length_eq_zero (by rw [HL.out]; omega)
      have hk0 : headK l = ⟨#[]⟩ := by rw [hl0]; rfl
      have S2' : Hd (Own V w.heap.size 9 1 (some ⟨w.heap.size + 1 + 1, 0, none⟩) 1 1 (sK [headK l])) := ⟨by rw [hk0]; exact S2.out⟩
      have h0i : ¬ (0 : Int) < (n : Int) := by omega
      go_wp2_with fail
      go_meet
      case rel => exact ⟨S1, S2', S3⟩
  case rest =>
    obtain ⟨C1, C2, C3⟩ := hcut
    have hpb : Hd (∀ p, p ∈ l → (pairB p).length ≤ 70 ∧ 0 < (pairB p).length) := ⟨fun p hp => ⟨(pairB_len p (HOK.out p hp)).2, (pairB_len p (HOK.out p hp)).1⟩⟩
    clear S1 S2 S3 hV
    go_wp2_with fail
    go_loopw [6, 7, 8, 9, 10] (fun dv kv iv _ _ wr => ∃ (i : Nat) (D : Option Addr) (dn dc : Nat) (K : Option Addr) (kc : Nat) (hs : List Hdr) (q : Hdr) (done : List (List Kp)) (cur : List Kp), dv = .slice D (dn + 1) dc ∧ kv = .slice K (dn + 1) kc ∧ iv = .int .i64 (i : Int) ∧ i ≤ n ∧ dn ≤ i ∧
        Hd (LayD wr w.heap.size D (dn + 1) dc (hs ++ [q]) (done.map (nodeB lev) ++ [nodeB lev cur])) ∧ Hd (Own wr w.heap.size 9 1 K (dn + 1) kc (sK (done.map headK ++ [keyAt l cur]))) ∧ Hd (Below w.heap.size w wr) ∧
        Hd (done ++ chunkK (1 + (pairsB cur).length) cur (l.drop i) = chunks l) ∧ 1 + (pairsB cur).length ≤ 246 ∧ Hd (cur = [] → i = 0))
      (fun _ _ iv _ _ _ => n - (intOf iv).toNat)
    case atStart => exact ⟨0, _, 0, 1, _, 1, [], _, [], [], rfl, rfl, rfl, by omega, by omega, C1, C2, C3, ⟨rfl⟩, by simp [pairsB], ⟨fun _ => rfl⟩⟩
    case round =>
      obtain ⟨i, D, dn, dc, K, kc, hs, q, done, cur, rfl, rfl, rfl, hi, hdi, hL, hK, hB, hch, hroom, hcur⟩ := hrel
      clear C1 C2 C3
      have hbs := hB.out.size
      by_cases hlt : i < n
      · obtain ⟨p, hp⟩ : ∃ p, Hd (l[i]? = some p) := ⟨l[i]'(by have := HL.out; omega), ⟨List.getElem?_eq_getElem _⟩⟩
        have hpm := List.mem_of_getElem? hp.out
        obtain ⟨hp1, hp2⟩ := hpb.out p hpm
        obtain ⟨hk64, hp0, hpx⟩ := HOK.out p hpm
        have hd : Hd (l.drop i = p :: l.drop (i + 1)) := ⟨by
          obtain ⟨hk, e⟩ := List.getElem?_eq_some_iff.1 hp.out
          rw [← e]; exact List.drop_eq_getElem_cons hk⟩
        have HRr := Hd.mk (show RdK wr A n l from Rd.below HR.out hB.out)
        obtain ⟨ad, rfl, y0, y1⟩ := RdK.get HRr.out hp.out
        have i1 : (i : Int) < (n : Int) := by omega
        have i0 : (0 : Int) ≤ (i : Int) := by omega
        have HPB := Hd.mk (rbytes151 p wr (by omega) hp0 (by omega))
        go_wp2_with fail
        refine HPB.out.mono ?_
        rintro e w1 ⟨B, bn, bc', rfl, ob, b1⟩
        have hbl : (pairB p).length = bn := Own8.len ob
        obtain ⟨qA, qn, qc⟩ := q
        have L1 := Hd.mk (hL.out.below b1)
        have K1 := Hd.mk (Own.below hK.out b1)
        have B1 := Hd.mk (hB.out.trans (b1.mono hbs))
        have HB8 := Hd.mk (show Own8 w1 w.heap.size B bn bc' (pairB p) from Own.mono ob hbs)
        have hhl : hs.length = dn := by have := L1.out.arr.1; simp at this; omega
        have hdl : (done.map (nodeB lev)).length = dn := by have := L1.out.len; simp at this ⊢; omega
        have hqe : (hs ++ [((qA, qn, qc) : Hdr)])[dn]? = some (qA, qn, qc) := by rw [← hhl]; simp
        have hqd : (done.map (nodeB lev) ++ [nodeB lev cur])[dn]? = some (nodeB lev cur) := by rw [← hdl]; simp
        have hqo := L1.out.el dn _ _ hqe hqd
        have hqn : qn = 1 + (pairsB cur).length := by have := Own8.len hqo; simp only [nodeB, List.length_cons] at this; omega
        obtain ⟨adD, u, rfl, hu, hc, hf, hb⟩ := Own.at_ L1.out.arr (j := dn) (by omega)
        have hu' : u = sV (qA, qn, qc) := by rw [List.getElem?_map, hqe] at hu; injection hu with hu; exact hu.symm
        subst hu'
        have hc' : w1.cell? (adD.add dn) = some (.slice qA qn qc) := hc
        have hbs1 : w.heap.size ≤ w1.heap.size := B1.out.size
        have j1 : IntKind.i64.wrap (((dn + 1 : Nat) : Int) - 1) = (dn : Int) := by rw [IntKind.wrap_i64]; omega
        have j1' : IntKind.i64.wrap ((dn : Int) + 1 - 1) = (dn : Int) := by rw [IntKind.wrap_i64]; omega
        have j2 : (dn : Int) < (dn : Int) + 1 := by omega
        have j3 : (0 : Int) ≤ (dn : Int) := by omega
        have j4 : IntKind.i64.wrap ((qn : Int) + (bn : Int)) = (qn : Int) + (bn : Int) := by rw [IntKind.wrap_i64]; omega
        clear hu hc hf hb hL hK hB ob HPB b1 y0 y1 HRr
        go_upto_if 47 with fail
        go_cut [6, 7, 10] from 47 to 63 (fun dv kv nv wd => ∃ (D' : Option Addr) (dn' dc' : Nat) (K' : Option Addr) (kc' : Nat) (hs' : List Hdr) (q' : Hdr) (done' : List (List Kp)) (cur' : List Kp), dv = .slice D' (dn' + 1) dc' ∧ kv = .slice K' (dn' + 1) kc' ∧ nv = .int .i64 (dn' : Int) ∧ dn' ≤ i + 1 ∧
          Hd (LayD wd w.heap.size D' (dn' + 1) dc' (hs' ++ [q']) (done'.map (nodeB lev) ++ [nodeB lev cur'])) ∧ Hd (Own wd w.heap.size 9 1 K' (dn' + 1) kc' (sK (done'.map headK ++ [headK (cur' ++ [p])]))) ∧ Hd (Below w.heap.size w wd) ∧ Hd (Own8 wd w.heap.size B bn bc' (pairB p)) ∧
          Hd (done' ++ chunkK (1 + (pairsB (cur' ++ [p])).length) (cur' ++ [p]) (l.drop (i + 1)) = chunks l) ∧ 1 + (pairsB (cur' ++ [p])).length ≤ 246)
        case first =>
          by_cases hbig : 246 < qn + bn
          · have hcne : cur ≠ [] := fun e => by rw [e] at hqn; simp [pairsB] at hqn; omega
            have hg : decide ((qn : Int) + (bn : Int) > 246) = true := by simp; omega
            have hg' : (qn : Int) + (bn : Int) > 246 := by omega
            have hch2 : Hd ((done ++ [cur]) ++ chunkK (1 + (pairsB ([] ++ [p])).length) ([] ++ [p]) (l.drop (i + 1)) = chunks l) := ⟨by
              rw [← hch.out, hd.out, chunkK_new ⟨hcne, by omega⟩]
              simp [pairsB]⟩
            have hk2 : Hd (keyAt l cur = headK cur) := ⟨by unfold keyAt; rw [if_neg hcne]⟩
            have z1 : Below w1.heap.size w1 ((w1.alloc (.cells #[.int .u8 (lev.toNat : Int)] 5)).alloc (.cells #[.slice (some ⟨w1.heap.size, 0, none⟩) 1 1] 22)) := ((Below.refl _ _).alloc (Nat.le_refl _) _).alloc (by simp) _
            have L2 := Hd.mk (L1.out.below z1)
            have K2 := Hd.mk (Own.below K1.out z1)
            have O2 := Hd.mk (Own.below HB8.out z1)
            have B2 := Hd.mk (B1.out.trans (z1.mono hbs1))
            have N2 : Hd (Own8 ((w1.alloc (.cells #[.int .u8 (lev.toNat : Int)] 5)).alloc (.cells #[.slice (some ⟨w1.heap.size, 0, none⟩) 1 1] 22)) w.heap.size (some ⟨w1.heap.size, 0, none⟩) 1 1 (nodeB lev [])) := ⟨Own8.alloc (Own8.new w1 [lev] (cell1 lev) (m := 1) (base := w.heap.size) rfl hbs1 (by unfold maxLen; omega)) _⟩
            have hnew : Hd (∀ (j : Nat) (hj : Hdr) (k : Nat), (hs ++ [((qA, qn, qc) : Hdr)])[j]? = some hj → ownBlk hj.1 hj.2.2 = some k → ownBlk (some ⟨w1.heap.size, 0, none⟩) 1 ≠ some k) := ⟨fun j hj k hx hk e => by
              have h5 : ∃ e', (done.map (nodeB lev) ++ [nodeB lev cur])[j]? = some e' := ⟨_, List.getElem?_eq_getElem (by rw [← L1.out.len]; exact (List.getElem?_eq_some_iff.1 hx).1)⟩
              obtain ⟨e', he'⟩ := h5
              have h6 := (Own.lt (L1.out.el j hj e' hx he') hk).2
              simp [ownBlk] at e
              omega⟩
            clear hqe hqd hqo hhl hdl L1 K1 HB8
            go_wp2_with (first
              | (at_builtin; refine wl_appG (t := 40) (e := 22) Try.underlying40 info22 rfl rfl _ _ rfl rfl rfl L2.out.arr (rd_one _ _ _ _ (by simp)) (by intro u hu; simp at hu; subst hu; rfl) (by omega) (by unfold maxLen; omega) B2.out.size ?_; rintro v w3 ha; obtain ⟨D3, dc3, rfl, l3, g3⟩ := L2.out.push (q := (some ⟨w1.heap.size, 0, none⟩, 1, 1)) N2.out hnew.out ha; have b3 := B2.out.grown g3 B2.out.size (fun k e => (Own.lt L2.out.arr e).1); obtain ⟨ad', e', y0, -⟩ := RdK.get (Rd.below HR.out b3) hp.out; injection e' with e'; subst e')
              | (at_builtin; refine wl_appG (t := 156) (e := 9) Try.underlying156 info9 rfl rfl _ _ rfl rfl rfl (Own.alloc (own_apart K2.out L2.out.arr (by decide) g3) _) (rd_one _ _ _ _ rfl) (by intro u hu; simp at hu; subst hu; rfl) (by omega) (by unfold maxLen; omega) (by have := b3.size; simp; omega) ?_; rintro v w5 ha5; obtain ⟨K5, kc5, rfl, k5, g5, -⟩ := ha5))
            have z4 : Below w3.heap.size w3 (w3.alloc (.cells #[.string p.1] 9)) := (Below.refl _ _).alloc (Nat.le_refl _) _
            have k4 := Own.below (own_apart K2.out L2.out.arr (by decide) g3) z4
            have L5 := Hd.mk ((l3.below z4).grown (T := 9) g5 (fun k e => own_type k4 e) (by decide) (by decide))
            have O5 := Hd.mk (own_apart (Own.below (own_apart O2.out L2.out.arr (by decide) g3) z4) k4 (by decide) g5)
            have B5 := Hd.mk ((b3.trans (z4.mono b3.size)).grown g5 (Nat.le_trans b3.size z4.size) (fun k e => (Own.lt k4 e).1))
            have e6 : sK (done.map headK ++ [keyAt l cur]) ++ [.string p.1] = sK ((done ++ [cur]).map headK ++ [headK ([] ++ [p])]) := by
              rw [hk2.out]; simp [sK, headK]
            have K5' : Hd (Own w5 w.heap.size 9 1 K5 (dn + 1 + 1) kc5 (sK ((done ++ [cur]).map headK ++ [headK ([] ++ [p])]))) := ⟨by rw [← e6]; exact k5⟩
            have e7 : done.map (nodeB lev) ++ [nodeB lev cur] ++ [nodeB lev []] = (done ++ [cur]).map (nodeB lev) ++ [nodeB lev []] := by simp
            rw [e7] at L5
            have hr2 : 1 + (pairsB ([] ++ [p])).length ≤ 246 := by rw [List.nil_append, pairsB_one]; omega
            clear z1 z4 k4 l3 g3 g5 k5 ha b3
            go_meet
            case rel => exact ⟨D3, dn + 1, dc3, K5, kc5, hs ++ [(qA, qn, qc)], _, done ++ [cur], [], rfl, rfl, by go_num, by omega, L5, K5', B5, O5, hch2, hr2⟩
          · have hg : decide ((qn : Int) + (bn : Int) > 246) = false := by simp; omega
            have hg' : ¬ (qn : Int) + (bn : Int) > 246 := by omega
            have hch2 : Hd (done ++ chunkK (1 + (pairsB (cur ++ [p])).length) (cur ++ [p]) (l.drop (i + 1)) = chunks l) := ⟨by
              rw [← hch.out, hd.out, chunkK_add (fun h => by omega)]
              rw [pairsB_append, pairsB_one, List.length_append, Nat.add_assoc]⟩
            have hk2 : keyAt l cur = headK (cur ++ [p]) := by
              unfold keyAt
              by_cases hc0 : cur = []
              · have hi0 := hcur.out hc0
                rw [if_pos hc0, hc0]
                subst hi0
                have := hd.out
                simp only [List.drop_zero] at this
                rw [this]; rfl
              · rw [if_neg hc0, headK_snoc hc0]
            have K2 : Hd (Own w1 w.heap.size 9 1 K (dn + 1) kc (sK (done.map headK ++ [headK (cur ++ [p])]))) := ⟨by rw [← hk2]; exact K1.out⟩
            have hr2 : 1 + (pairsB (cur ++ [p])).length ≤ 246 := by rw [pairsB_append, pairsB_one, List.length_append]; omega
            go_wp2_with fail
            go_meet
            case rel => exact ⟨some adD, dn, dc, K, kc, hs, (qA, qn, qc), done, cur, rfl, rfl, rfl, by omega, L1, K2, B1, HB8, hch2, hr2⟩
        case rest =>
          obtain ⟨D', dn', dc', K', kc', hs', q', done', cur', rfl, rfl, rfl, hdn', L6, K6, B6, O6, hch6, hr6⟩ := hcut
          obtain ⟨qA', qn', qc'⟩ := q'
          clear hch hroom hcur L1 K1 B1 HB8 hqe hqd hqo hhl hdl hc' hd hqn j1 j1' j2 j3 j4
          have hhl : hs'.length = dn' := by have := L6.out.arr.1; simp at this; omega
          have hdl : (done'.map (nodeB lev)).length = dn' := by have := L6.out.len; simp at this ⊢; omega
          have hqe : (hs' ++ [((qA', qn', qc') : Hdr)])[dn']? = some (qA', qn', qc') := by rw [← hhl]; simp
          have hqd : (done'.map (nodeB lev) ++ [nodeB lev cur'])[dn']? = some (nodeB lev cur') := by rw [← hdl]; simp
          have hqo := Hd.mk (L6.out.el dn' _ _ hqe hqd)
          have hqn : Hd (qn' = 1 + (pairsB cur').length) := ⟨by have := Own8.len hqo.out; simp only [nodeB, List.length_cons] at this; omega⟩
          have hr7 : qn' + bn ≤ 246 := by have := hqn.out; rw [pairsB_append, pairsB_one, List.length_append, hbl] at hr6; omega
          obtain ⟨adE, u, rfl, hu, hc, hf, hb⟩ := Own.at_ L6.out.arr (j := dn') (by omega)
          have hu' : u = sV (qA', qn', qc') := by rw [List.getElem?_map, hqe] at hu; injection hu with hu; exact hu.symm
          subst hu'
          have hc' : wc.cell? (adE.add dn') = some (.slice qA' qn' qc') := hc
          have j2 : (dn' : Int) < (dn' : Int) + 1 := by omega
          have j3 : (0 : Int) ≤ (dn' : Int) := by omega
          have hbs6 : w.heap.size ≤ wc.heap.size := B6.out.size
          have j5 : IntKind.i64.wrap ((i : Int) + 1) = (i : Int) + 1 := by rw [IntKind.wrap_i64]; omega
          clear hu hc hf hb hqe hqd hhl hdl
          go_wp2_with (first
            | (at_builtin; refine wl_app8 rfl _ _ rfl rfl rfl hqo.out (Own8.rd O6.out) (by omega) hbs6 ?_; rintro v w7 ha7; obtain ⟨⟨q7A, q7n, q7c⟩, ad7, hv7, hD7, hf7, hc7, L7, hn7, hB7, hK7⟩ := L6.out.last ha7; change v = .slice q7A q7n q7c at hv7; subst hv7; injection hD7 with hD7; subst hD7)
            | fail)
          go_roundw
          case rel =>
            refine ⟨i + 1, some adE, dn', dc', K', kc', hs', (q7A, q7n, q7c), done', cur' ++ [p], rfl, rfl, by go_num, by omega, by omega, ⟨?_⟩, ⟨?_⟩, ⟨hB7 w B6.out hbs6⟩, hch6, hr6, ⟨fun e => by simp at e⟩⟩
            · have e8 : nodeB lev cur' ++ pairB p = nodeB lev (cur' ++ [p]) := by simp [nodeB, pairsB_append, pairsB_one]
              rw [e8] at L7
              exact L7
            · have e9 : keyAt l (cur' ++ [p]) = headK (cur' ++ [p]) := by unfold keyAt; rw [if_neg (by simp)]
              rw [e9]
              exact hK7 K6.out
          case measure => simp [intOf]; omega
      · obtain rfl : i = n := by omega
        have hlti : ¬ ((i : Int) < (i : Int)) := by omega
        have hch2 : Hd (chunks l = done ++ [cur]) := ⟨by
          rw [← hch.out, List.drop_of_length_le (by rw [HL.out]; exact Nat.le_refl _), chunkK]⟩
        have hke : Hd (keyAt l cur = headK cur) := ⟨by
          unfold keyAt
          by_cases hc0 : cur = []
          · have hi0 := hcur.out hc0
            have hl0 : l = [] := List.eq_nil_of_length_eq_zero (by rw [HL.out]; exact hi0)
            rw [if_pos hc0, hc0, hl0]
          · rw [if_neg hc0]⟩
        rw [hke.out] at hK
        clear hch hcur
        go_wp2_with fail
        go_ret2
        rw [hch2.out]
        exact ⟨_, _, _, _, _, _, _, rfl, by rw [List.map_append]; exact hL.out, by rw [List.map_append]; exact hK.out, hB.out⟩
end Go.Proofs.Ytkgdcglnkodgnaa
namespace Go.Proofs.Ytkgdcglnkodgnaa
open Go.RowKit
set_option maxRecDepth 100000 in
set_option maxHeartbeats 4000000 in
theorem rbuild63 (kind : UInt8) (first : Int) (A : Option Addr) (n c : Nat) (l : List Kp) (w : World) (h : RdK w A n l) (hn : n ≤ 5864062014805) (hlo : -9223372036854775808 ≤ first) (hhi : first ≤ 9223372036854775807)
    (hsz : ∀ p ∈ l, p.1.size ≤ 9223372036854775807) :
    Calls Try.prog 63 #[.int .u8 (kind.toNat : Int), .int .i64 first, .slice A n c] w (RetB w (buildK kind first l)) := by
  have hmix := try_mixed
  have HL := Hd.mk h.len
  have HR := Hd.mk h
  have HS := Hd.mk hsz
  clear h hsz
  go_enter Try.func63, Try.ntmps63
  by_cases hlong : 20000 < l.length
  · have hres : Hd (buildK kind first l = ([], 0, 0, 2)) := ⟨if_pos hlong⟩
    have e1 : (n : Int) > 20000 := by have := HL.out; omega
    go_wp2_with fail
    ((try simp only [Exit.inBlock, Exit.then]); refine bodyPost_ret (results_tmp4 rfl _ _ _) rfl ?_)
    rw [hres.out]
    exact RetB.err w w 2 (Below.refl _ _)
  have hn2 : n ≤ 20000 := by have := HL.out; omega
  have hres : Hd (buildK kind first l = if badK none l ≠ 0 then ([], 0, 0, badK none l)
      else if (upK kind (l.length + 1) first 0 l []).2.2 ≠ 0 then ([], 0, 0, (upK kind (l.length + 1) first 0 l []).2.2)
      else ((upK kind (l.length + 1) first 0 l []).1, (upK kind (l.length + 1) first 0 l []).2.1 - 1, (upK kind (l.length + 1) first 0 l []).2.1 - first, 0)) := ⟨by unfold buildK; rw [if_neg hlong]⟩
  clear hlong
  have e1 : ¬ (n : Int) > 20000 := by omega
  go_wp2_with fail
  go_loopw [10] (fun iv wr => ∃ i : Nat, iv = .int .i64 (i : Int) ∧ i ≤ n ∧ Hd (Below w.heap.size w wr) ∧ Hd (badK (prevK l i) (l.drop i) = badK none l))
    (fun iv _ => n - (intOf iv).toNat)
  case atStart => exact ⟨0, rfl, by omega, ⟨Below.refl _ _⟩, ⟨by simp [prevK]⟩⟩
  case round =>
    obtain ⟨i, rfl, hi, hb, hbk⟩ := hrel
    have HRr := Hd.mk (show RdK wr A n l from Rd.below HR.out hb.out)
    have HBr := Hd.mk hb.out
    by_cases hlt : i < n
    · obtain ⟨p, hp⟩ : ∃ p, Hd (l[i]? = some p) := ⟨l[i]'(by have := HL.out; omega), ⟨List.getElem?_eq_getElem _⟩⟩
      have hst := Hd.mk (badK_step hp.out)
      rw [hbk.out] at hst
      obtain ⟨ad, rfl, q0, q1⟩ := RdK.get HRr.out hp.out
      have hlti : (i : Int) < (n : Int) := by omega
      have hi00 : (0 : Int) ≤ (i : Int) := by omega
      have Q0 := Hd.mk q0
      obtain ⟨bd, hbd⟩ : ∃ bd, Hd (decide (64 < p.1.size ∨ notAhead (prevK l i) p.1 = true) = bd) := ⟨_, ⟨rfl⟩⟩
      have BW := Hd.mk (below_drewK wr)
      go_upto_region 6 with fail
      go_cut [53] from 29 to 53 (fun v wd => v = .bool bd ∧ Hd (Below wr.heap.size wr wd))
      case first =>
        by_cases hk1 : 64 < p.1.size
        · obtain rfl : bd = true := by rw [← hbd.out]; simp [hk1]
          have e2 : decide ((p.1.size : Int) > 64) = true := by simp; omega
          clear hst hbk hres hbd
          refine region_zone 25 [false, false, false, false, false, false, false, false, false, false, false, false, false, false, false, false, false, false, false, false, false, false, false, false, false] (by kernel_rfl) (by kernel_rfl) hmix (fun w' => w'.cell? (ad.add (i * 2)) = some (.string p.1)) [] ?_ (fun hS => ?_)
          · exact below_cellK BW.out Q0.out
          refine wpAnyZ_take0 (i := 0) (oi := ⟨_, _, _, _, _, _⟩) (v := ?_) rfl (by decide +kernel) (fun _ _ _ h => h) (Or.inl ⟨by rfl, ?_⟩) (fun _ => hS) ?_
          rotate_left
          focus (intro w _; go_simp; (try with_reducible rfl); done)
          simp only [Act.put, List.setIfInBounds_toArray, List.set_cons_zero, List.set_cons_succ]
          refine wpAnyZ_take0 (i := 1) (oi := ⟨_, _, _, _, _, _⟩) (v := ?_) rfl (by decide +kernel) (fun _ _ _ h => h) (Or.inl ⟨by rfl, ?_⟩) (fun _ => hS) ?_
          rotate_left
          focus (intro w _; go_simp; (try with_reducible rfl); done)
          simp only [Act.put, List.setIfInBounds_toArray, List.set_cons_zero, List.set_cons_succ]
          refine wpAnyZ_take0 (i := 2) (oi := ⟨_, _, _, _, _, _⟩) (v := ?_) rfl (by decide +kernel) (fun _ _ _ h => h) (Or.inl ⟨by rfl, ?_⟩) (fun _ => hS) ?_
          rotate_left
          focus (intro w _; go_simp; (try with_reducible rfl); done)
          simp only [Act.put, List.setIfInBounds_toArray, List.set_cons_zero, List.set_cons_succ]
          refine wpAnyZ_take0 (i := 3) (oi := ⟨_, _, _, _, _, _⟩) (v := ?_) rfl (by decide +kernel) (fun _ _ _ h => h) (Or.inl ⟨by rfl, ?_⟩) (fun _ => hS) ?_
          rotate_left
          focus (intro w _; go_simp; (try with_reducible rfl); done)
          simp only [Act.put, List.setIfInBounds_toArray, List.set_cons_zero, List.set_cons_succ]
          refine wpAnyZ_take (i := 4) (oi := ⟨_, _, _, _, _, _⟩) (v := ?_) rfl (by decide +kernel) (fun _ _ _ h => h) (Or.inl ⟨by rfl, ?_⟩) hS ?_
          rotate_left
          focus (intro w hSw; (try dsimp only at hSw); (have y0 := hSw; clear hSw); go_simp; (try with_reducible rfl); done)
          simp only [Act.put, List.setIfInBounds_toArray, List.set_cons_zero, List.set_cons_succ]
          refine wpAnyZ_take0 (i := 5) (oi := ⟨_, _, _, _, _, _⟩) (v := ?_) rfl (by decide +kernel) (fun _ _ _ h => h) (Or.inl ⟨by rfl, ?_⟩) (fun _ => hS) ?_
          rotate_left
          focus (intro w _; go_simp; (try with_reducible rfl); done)
          simp only [Act.put, List.setIfInBounds_toArray, List.set_cons_zero, List.set_cons_succ]
          refine wpAnyZ_take0 (i := 6) (oi := ⟨_, _, _, _, _, _⟩) (v := ?_) rfl (by decide +kernel) (fun _ _ _ h => h) (Or.inl ⟨by rfl, ?_⟩) (fun _ => hS) ?_
          rotate_left
          focus (intro w _; go_simp; (try with_reducible rfl); done)
          simp only [Act.put, List.setIfInBounds_toArray, List.set_cons_zero, List.set_cons_succ]
          refine wpAnyZ_take0 (i := 7) (oi := ⟨_, _, _, _, _, _⟩) (v := ?_) rfl (by decide +kernel) (fun _ _ _ h => h) (Or.inl ⟨by rfl, ?_⟩) (fun _ => hS) ?_
          rotate_left
          focus (intro w _; go_simp; (try with_reducible rfl); done)
          simp only [Act.put, List.setIfInBounds_toArray, List.set_cons_zero, List.set_cons_succ]
          first
            | (refine wpAnyZ_take0 (i := 8) (oi := ⟨_, _, _, _, _, _⟩) (v := undef) rfl (by decide +kernel) (fun _ _ _ h => h) (Or.inr ⟨by rfl, rfl⟩) (fun _ => hS) ?_)
            | (refine wpAnyZ_take0 (i := 8) (oi := ⟨_, _, _, _, _, _⟩) (v := ?_) rfl (by decide +kernel) (fun _ _ _ h => h) (Or.inl ⟨by rfl, ?_⟩) (fun _ => hS) ?_; rotate_left; focus (intro w hSw; go_simp; (try with_reducible rfl); done))
          simp only [Act.put, List.setIfInBounds_toArray, List.set_cons_zero, List.set_cons_succ]
          first
            | (refine wpAnyZ_take0 (i := 9) (oi := ⟨_, _, _, _, _, _⟩) (v := undef) rfl (by decide +kernel) (fun _ _ _ h => h) (Or.inr ⟨by rfl, rfl⟩) (fun _ => hS) ?_)
            | (refine wpAnyZ_take0 (i := 9) (oi := ⟨_, _, _, _, _, _⟩) (v := ?_) rfl (by decide +kernel) (fun _ _ _ h => h) (Or.inl ⟨by rfl, ?_⟩) (fun _ => hS) ?_; rotate_left; focus (intro w hSw; go_simp; (try with_reducible rfl); done))
          simp only [Act.put, List.setIfInBounds_toArray, List.set_cons_zero, List.set_cons_succ]
          first
            | (refine wpAnyZ_take0 (i := 10) (oi := ⟨_, _, _, _, _, _⟩) (v := undef) rfl (by decide +kernel) (fun _ _ _ h => h) (Or.inr ⟨by rfl, rfl⟩) (fun _ => hS) ?_)
            | (refine wpAnyZ_take0 (i := 10) (oi := ⟨_, _, _, _, _, _⟩) (v := ?_) rfl (by decide +kernel) (fun _ _ _ h => h) (Or.inl ⟨by rfl, ?_⟩) (fun _ => hS) ?_; rotate_left; focus (intro w hSw; go_simp; (try with_reducible rfl); done))
          simp only [Act.put, List.setIfInBounds_toArray, List.set_cons_zero, List.set_cons_succ]
          first
            | (refine wpAnyZ_take0 (i := 11) (oi := ⟨_, _, _, _, _, _⟩) (v := undef) rfl (by decide +kernel) (fun _ _ _ h => h) (Or.inr ⟨by rfl, rfl⟩) (fun _ => hS) ?_)
            | (refine wpAnyZ_take0 (i := 11) (oi := ⟨_, _, _, _, _, _⟩) (v := ?_) rfl (by decide +kernel) (fun _ _ _ h => h) (Or.inl ⟨by rfl, ?_⟩) (fun _ => hS) ?_; rotate_left; focus (intro w hSw; go_simp; (try with_reducible rfl); done))
          simp only [Act.put, List.setIfInBounds_toArray, List.set_cons_zero, List.set_cons_succ]
          first
            | (refine wpAnyZ_take0 (i := 12) (oi := ⟨_, _, _, _, _, _⟩) (v := undef) rfl (by decide +kernel) (fun _ _ _ h => h) (Or.inr ⟨by rfl, rfl⟩) (fun _ => hS) ?_)
            | (refine wpAnyZ_take0 (i := 12) (oi := ⟨_, _, _, _, _, _⟩) (v := ?_) rfl (by decide +kernel) (fun _ _ _ h => h) (Or.inl ⟨by rfl, ?_⟩) (fun _ => hS) ?_; rotate_left; focus (intro w hSw; go_simp; (try with_reducible rfl); done))
          simp only [Act.put, List.setIfInBounds_toArray, List.set_cons_zero, List.set_cons_succ]
          first
            | (refine wpAnyZ_take0 (i := 13) (oi := ⟨_, _, _, _, _, _⟩) (v := undef) rfl (by decide +kernel) (fun _ _ _ h => h) (Or.inr ⟨by rfl, rfl⟩) (fun _ => hS) ?_)
            | (refine wpAnyZ_take0 (i := 13) (oi := ⟨_, _, _, _, _, _⟩) (v := ?_) rfl (by decide +kernel) (fun _ _ _ h => h) (Or.inl ⟨by rfl, ?_⟩) (fun _ => hS) ?_; rotate_left; focus (intro w hSw; go_simp; (try with_reducible rfl); done))
          simp only [Act.put, List.setIfInBounds_toArray, List.set_cons_zero, List.set_cons_succ]
          first
            | (refine wpAnyZ_take0 (i := 14) (oi := ⟨_, _, _, _, _, _⟩) (v := undef) rfl (by decide +kernel) (fun _ _ _ h => h) (Or.inr ⟨by rfl, rfl⟩) (fun _ => hS) ?_)
            | (refine wpAnyZ_take0 (i := 14) (oi := ⟨_, _, _, _, _, _⟩) (v := ?_) rfl (by decide +kernel) (fun _ _ _ h => h) (Or.inl ⟨by rfl, ?_⟩) (fun _ => hS) ?_; rotate_left; focus (intro w hSw; go_simp; (try with_reducible rfl); done))
          simp only [Act.put, List.setIfInBounds_toArray, List.set_cons_zero, List.set_cons_succ]
          first
            | (refine wpAnyZ_take (i := 15) (oi := ⟨_, _, _, _, _, _⟩) (v := undef) rfl (by decide +kernel) (fun _ _ _ h => h) (Or.inr ⟨by rfl, rfl⟩) hS ?_)
            | (refine wpAnyZ_take (i := 15) (oi := ⟨_, _, _, _, _, _⟩) (v := ?_) rfl (by decide +kernel) (fun _ _ _ h => h) (Or.inl ⟨by rfl, ?_⟩) hS ?_; rotate_left; focus (intro w hSw; (try dsimp only at hSw); (have y0 := hSw; clear hSw); go_simp; (try with_reducible rfl); done))
          simp only [Act.put, List.setIfInBounds_toArray, List.set_cons_zero, List.set_cons_succ]
          first
            | (refine wpAnyZ_take0 (i := 16) (oi := ⟨_, _, _, _, _, _⟩) (v := undef) rfl (by decide +kernel) (fun _ _ _ h => h) (Or.inr ⟨by rfl, rfl⟩) (fun _ => hS) ?_)
            | (refine wpAnyZ_take0 (i := 16) (oi := ⟨_, _, _, _, _, _⟩) (v := ?_) rfl (by decide +kernel) (fun _ _ _ h => h) (Or.inl ⟨by rfl, ?_⟩) (fun _ => hS) ?_; rotate_left; focus (intro w hSw; go_simp; (try with_reducible rfl); done))
          simp only [Act.put, List.setIfInBounds_toArray, List.set_cons_zero, List.set_cons_succ]
          first
            | (refine wpAnyZ_take0 (i := 17) (oi := ⟨_, _, _, _, _, _⟩) (v := undef) rfl (by decide +kernel) (fun _ _ _ h => h) (Or.inr ⟨by rfl, rfl⟩) (fun _ => hS) ?_)
            | (refine wpAnyZ_take0 (i := 17) (oi := ⟨_, _, _, _, _, _⟩) (v := ?_) rfl (by decide +kernel) (fun _ _ _ h => h) (Or.inl ⟨by rfl, ?_⟩) (fun _ => hS) ?_; rotate_left; focus (intro w hSw; go_simp; (try with_reducible rfl); done))
          simp only [Act.put, List.setIfInBounds_toArray, List.set_cons_zero, List.set_cons_succ]
          first
            | (refine wpAnyZ_take0 (i := 18) (oi := ⟨_, _, _, _, _, _⟩) (v := undef) rfl (by decide +kernel) (fun _ _ _ h => h) (Or.inr ⟨by rfl, rfl⟩) (fun _ => hS) ?_)
            | (refine wpAnyZ_take0 (i := 18) (oi := ⟨_, _, _, _, _, _⟩) (v := ?_) rfl (by decide +kernel) (fun _ _ _ h => h) (Or.inl ⟨by rfl, ?_⟩) (fun _ => hS) ?_; rotate_left; focus (intro w hSw; go_simp; (try with_reducible rfl); done))
          simp only [Act.put, List.setIfInBounds_toArray, List.set_cons_zero, List.set_cons_succ]
          first
            | (refine wpAnyZ_take0 (i := 19) (oi := ⟨_, _, _, _, _, _⟩) (v := undef) rfl (by decide +kernel) (fun _ _ _ h => h) (Or.inr ⟨by rfl, rfl⟩) (fun _ => hS) ?_)
            | (refine wpAnyZ_take0 (i := 19) (oi := ⟨_, _, _, _, _, _⟩) (v := ?_) rfl (by decide +kernel) (fun _ _ _ h => h) (Or.inl ⟨by rfl, ?_⟩) (fun _ => hS) ?_; rotate_left; focus (intro w hSw; go_simp; (try with_reducible rfl); done))
          simp only [Act.put, List.setIfInBounds_toArray, List.set_cons_zero, List.set_cons_succ]
          first
            | (refine wpAnyZ_take0 (i := 20) (oi := ⟨_, _, _, _, _, _⟩) (v := undef) rfl (by decide +kernel) (fun _ _ _ h => h) (Or.inr ⟨by rfl, rfl⟩) (fun _ => hS) ?_)
            | (refine wpAnyZ_take0 (i := 20) (oi := ⟨_, _, _, _, _, _⟩) (v := ?_) rfl (by decide +kernel) (fun _ _ _ h => h) (Or.inl ⟨by rfl, ?_⟩) (fun _ => hS) ?_; rotate_left; focus (intro w hSw; go_simp; (try with_reducible rfl); done))
          simp only [Act.put, List.setIfInBounds_toArray, List.set_cons_zero, List.set_cons_succ]
          first
            | (refine wpAnyZ_take (i := 21) (oi := ⟨_, _, _, _, _, _⟩) (v := undef) rfl (by decide +kernel) (fun _ _ _ h => h) (Or.inr ⟨by rfl, rfl⟩) hS ?_)
            | (refine wpAnyZ_take (i := 21) (oi := ⟨_, _, _, _, _, _⟩) (v := ?_) rfl (by decide +kernel) (fun _ _ _ h => h) (Or.inl ⟨by rfl, ?_⟩) hS ?_; rotate_left; focus (intro w hSw; (try dsimp only at hSw); (have y0 := hSw; clear hSw); go_simp; (try with_reducible rfl); done))
          simp only [Act.put, List.setIfInBounds_toArray, List.set_cons_zero, List.set_cons_succ]
          first
            | (refine wpAnyZ_take0 (i := 22) (oi := ⟨_, _, _, _, _, _⟩) (v := undef) rfl (by decide +kernel) (fun _ _ _ h => h) (Or.inr ⟨by rfl, rfl⟩) (fun _ => hS) ?_)
            | (refine wpAnyZ_take0 (i := 22) (oi := ⟨_, _, _, _, _, _⟩) (v := ?_) rfl (by decide +kernel) (fun _ _ _ h => h) (Or.inl ⟨by rfl, ?_⟩) (fun _ => hS) ?_; rotate_left; focus (intro w hSw; go_simp; (try with_reducible rfl); done))
          simp only [Act.put, List.setIfInBounds_toArray, List.set_cons_zero, List.set_cons_succ]
          first
            | (refine wpAnyZ_take0 (i := 23) (oi := ⟨_, _, _, _, _, _⟩) (v := undef) rfl (by decide +kernel) (fun _ _ _ h => h) (Or.inr ⟨by rfl, rfl⟩) (fun _ => hS) ?_)
            | (refine wpAnyZ_take0 (i := 23) (oi := ⟨_, _, _, _, _, _⟩) (v := ?_) rfl (by decide +kernel) (fun _ _ _ h => h) (Or.inl ⟨by rfl, ?_⟩) (fun _ => hS) ?_; rotate_left; focus (intro w hSw; go_simp; (try with_reducible rfl); done))
          simp only [Act.put, List.setIfInBounds_toArray, List.set_cons_zero, List.set_cons_succ]
          refine wpAnyZ_take0 (i := 24) (oi := ⟨_, _, _, _, _, _⟩) (v := ?_) rfl (by decide +kernel) (fun _ _ _ h => h) (Or.inl ⟨by rfl, ?_⟩) (fun _ => hS) ?_
          rotate_left
          focus (intro w _; go_simp; (try with_reducible rfl); done)
          simp only [Act.put, List.setIfInBounds_toArray, List.set_cons_zero, List.set_cons_succ]
          refine wpAnyZ_done (by decide +kernel) ?_
          go_wp2_with fail
          go_meet
          case rel => exact ⟨rfl, BW⟩
        · have e2 : decide ((p.1.size : Int) > 64) = false := by simp; omega
          have hways : Hd ((i = 0 ∧ bd = false) ∨ ∃ q, l[i - 1]? = some q ∧ leK p.1 q.1 = bd ∧ 0 < i) := ⟨by
            by_cases h0 : i = 0
            · left; refine ⟨h0, ?_⟩; rw [← hbd.out]; simp [prevK, h0, notAhead]; omega
            · right
              refine ⟨l[i - 1]'(by have := HL.out; omega), List.getElem?_eq_getElem _, ?_, by omega⟩
              rw [← hbd.out]
              have : prevK l i = some (l[i - 1]'(by have := HL.out; omega)).1 := by simp [prevK, h0, List.getElem?_eq_getElem (show i - 1 < l.length by have := HL.out; omega)]
              rw [this]
              simp only [notAhead, hk1, false_or]
              cases leK p.1 _ <;> simp⟩
          clear hst hbk hres hbd
          rcases hways.out with ⟨h0, h1⟩ | ⟨q, hq, hle, h0⟩
          · subst h0
            subst h1
            clear hways
            have Q0' : Hd (wr.cell? ad = some (.string p.1)) := ⟨by simpa [Addr.add] using Q0.out⟩
            have c1 : decide ((((0 : Nat) : Int)) > 0) = false := by simp
            refine region_zone 25 [false, false, false, false, false, false, false, false, false, false, false, false, false, false, false, false, false, false, false, false, false, false, false, false, false] (by kernel_rfl) (by kernel_rfl) hmix (fun w' => w'.cell? ad = some (.string p.1)) [] ?_ (fun hS => ?_)
            · exact below_cellK BW.out Q0'.out
            refine wpAnyZ_take0 (i := 0) (oi := ⟨_, _, _, _, _, _⟩) (v := ?_) rfl (by decide +kernel) (fun _ _ _ h => h) (Or.inl ⟨by rfl, ?_⟩) (fun _ => hS) ?_
            rotate_left
            focus (intro w _; go_simp; (try with_reducible rfl); done)
            simp only [Act.put, List.setIfInBounds_toArray, List.set_cons_zero, List.set_cons_succ]
            refine wpAnyZ_take0 (i := 1) (oi := ⟨_, _, _, _, _, _⟩) (v := ?_) rfl (by decide +kernel) (fun _ _ _ h => h) (Or.inl ⟨by rfl, ?_⟩) (fun _ => hS) ?_
            rotate_left
            focus (intro w _; go_simp; (try with_reducible rfl); done)
            simp only [Act.put, List.setIfInBounds_toArray, List.set_cons_zero, List.set_cons_succ]
            refine wpAnyZ_take0 (i := 2) (oi := ⟨_, _, _, _, _, _⟩) (v := ?_) rfl (by decide +kernel) (fun _ _ _ h => h) (Or.inl ⟨by rfl, ?_⟩) (fun _ => hS) ?_
            rotate_left
            focus (intro w _; go_simp; (try with_reducible rfl); done)
            simp only [Act.put, List.setIfInBounds_toArray, List.set_cons_zero, List.set_cons_succ]
            refine wpAnyZ_take0 (i := 3) (oi := ⟨_, _, _, _, _, _⟩) (v := ?_) rfl (by decide +kernel) (fun _ _ _ h => h) (Or.inl ⟨by rfl, ?_⟩) (fun _ => hS) ?_
            rotate_left
            focus (intro w _; go_simp; (try with_reducible rfl); done)
            simp only [Act.put, List.setIfInBounds_toArray, List.set_cons_zero, List.set_cons_succ]
            refine wpAnyZ_take (i := 4) (oi := ⟨_, _, _, _, _, _⟩) (v := ?_) rfl (by decide +kernel) (fun _ _ _ h => h) (Or.inl ⟨by rfl, ?_⟩) hS ?_
            rotate_left
            focus (intro w hSw; (try dsimp only at hSw); (have y0 := hSw; clear hSw); go_simp; (try with_reducible rfl); done)
            simp only [Act.put, List.setIfInBounds_toArray, List.set_cons_zero, List.set_cons_succ]
            refine wpAnyZ_take0 (i := 5) (oi := ⟨_, _, _, _, _, _⟩) (v := ?_) rfl (by decide +kernel) (fun _ _ _ h => h) (Or.inl ⟨by rfl, ?_⟩) (fun _ => hS) ?_
            rotate_left
            focus (intro w _; go_simp; (try with_reducible rfl); done)
            simp only [Act.put, List.setIfInBounds_toArray, List.set_cons_zero, List.set_cons_succ]
            refine wpAnyZ_take0 (i := 6) (oi := ⟨_, _, _, _, _, _⟩) (v := ?_) rfl (by decide +kernel) (fun _ _ _ h => h) (Or.inl ⟨by rfl, ?_⟩) (fun _ => hS) ?_
            rotate_left
            focus (intro w _; go_simp; (try with_reducible rfl); done)
            simp only [Act.put, List.setIfInBounds_toArray, List.set_cons_zero, List.set_cons_succ]
            refine wpAnyZ_take0 (i := 7) (oi := ⟨_, _, _, _, _, _⟩) (v := ?_) rfl (by decide +kernel) (fun _ _ _ h => h) (Or.inl ⟨by rfl, ?_⟩) (fun _ => hS) ?_
            rotate_left
            focus (intro w _; go_simp; (try with_reducible rfl); done)
            simp only [Act.put, List.setIfInBounds_toArray, List.set_cons_zero, List.set_cons_succ]
            first
              | (refine wpAnyZ_take0 (i := 8) (oi := ⟨_, _, _, _, _, _⟩) (v := undef) rfl (by decide +kernel) (fun _ _ _ h => h) (Or.inr ⟨by rfl, rfl⟩) (fun _ => hS) ?_)
              | (refine wpAnyZ_take0 (i := 8) (oi := ⟨_, _, _, _, _, _⟩) (v := ?_) rfl (by decide +kernel) (fun _ _ _ h => h) (Or.inl ⟨by rfl, ?_⟩) (fun _ => hS) ?_; rotate_left; focus (intro w hSw; go_simp; (try with_reducible rfl); done))
            simp only [Act.put, List.setIfInBounds_toArray, List.set_cons_zero, List.set_cons_succ]
            first
              | (refine wpAnyZ_take0 (i := 9) (oi := ⟨_, _, _, _, _, _⟩) (v := undef) rfl (by decide +kernel) (fun _ _ _ h => h) (Or.inr ⟨by rfl, rfl⟩) (fun _ => hS) ?_)
              | (refine wpAnyZ_take0 (i := 9) (oi := ⟨_, _, _, _, _, _⟩) (v := ?_) rfl (by decide +kernel) (fun _ _ _ h => h) (Or.inl ⟨by rfl, ?_⟩) (fun _ => hS) ?_; rotate_left; focus (intro w hSw; go_simp; (try with_reducible rfl); done))
            simp only [Act.put, List.setIfInBounds_toArray, List.set_cons_zero, List.set_cons_succ]
            first
              | (refine wpAnyZ_take0 (i := 10) (oi := ⟨_, _, _, _, _, _⟩) (v := undef) rfl (by decide +kernel) (fun _ _ _ h => h) (Or.inr ⟨by rfl, rfl⟩) (fun _ => hS) ?_)
              | (refine wpAnyZ_take0 (i := 10) (oi := ⟨_, _, _, _, _, _⟩) (v := ?_) rfl (by decide +kernel) (fun _ _ _ h => h) (Or.inl ⟨by rfl, ?_⟩) (fun _ => hS) ?_; rotate_left; focus (intro w hSw; go_simp; (try with_reducible rfl); done))
            simp only [Act.put, List.setIfInBounds_toArray, List.set_cons_zero, List.set_cons_succ]
            first
              | (refine wpAnyZ_take0 (i := 11) (oi := ⟨_, _, _, _, _, _⟩) (v := undef) rfl (by decide +kernel) (fun _ _ _ h => h) (Or.inr ⟨by rfl, rfl⟩) (fun _ => hS) ?_)
              | (refine wpAnyZ_take0 (i := 11) (oi := ⟨_, _, _, _, _, _⟩) (v := ?_) rfl (by decide +kernel) (fun _ _ _ h => h) (Or.inl ⟨by rfl, ?_⟩) (fun _ => hS) ?_; rotate_left; focus (intro w hSw; go_simp; (try with_reducible rfl); done))
            simp only [Act.put, List.setIfInBounds_toArray, List.set_cons_zero, List.set_cons_succ]
            first
              | (refine wpAnyZ_take0 (i := 12) (oi := ⟨_, _, _, _, _, _⟩) (v := undef) rfl (by decide +kernel) (fun _ _ _ h => h) (Or.inr ⟨by rfl, rfl⟩) (fun _ => hS) ?_)
              | (refine wpAnyZ_take0 (i := 12) (oi := ⟨_, _, _, _, _, _⟩) (v := ?_) rfl (by decide +kernel) (fun _ _ _ h => h) (Or.inl ⟨by rfl, ?_⟩) (fun _ => hS) ?_; rotate_left; focus (intro w hSw; go_simp; (try with_reducible rfl); done))
            simp only [Act.put, List.setIfInBounds_toArray, List.set_cons_zero, List.set_cons_succ]
            first
              | (refine wpAnyZ_take0 (i := 13) (oi := ⟨_, _, _, _, _, _⟩) (v := undef) rfl (by decide +kernel) (fun _ _ _ h => h) (Or.inr ⟨by rfl, rfl⟩) (fun _ => hS) ?_)
              | (refine wpAnyZ_take0 (i := 13) (oi := ⟨_, _, _, _, _, _⟩) (v := ?_) rfl (by decide +kernel) (fun _ _ _ h => h) (Or.inl ⟨by rfl, ?_⟩) (fun _ => hS) ?_; rotate_left; focus (intro w hSw; go_simp; (try with_reducible rfl); done))
            simp only [Act.put, List.setIfInBounds_toArray, List.set_cons_zero, List.set_cons_succ]
            first
              | (refine wpAnyZ_take0 (i := 14) (oi := ⟨_, _, _, _, _, _⟩) (v := undef) rfl (by decide +kernel) (fun _ _ _ h => h) (Or.inr ⟨by rfl, rfl⟩) (fun _ => hS) ?_)
              | (refine wpAnyZ_take0 (i := 14) (oi := ⟨_, _, _, _, _, _⟩) (v := ?_) rfl (by decide +kernel) (fun _ _ _ h => h) (Or.inl ⟨by rfl, ?_⟩) (fun _ => hS) ?_; rotate_left; focus (intro w hSw; go_simp; (try with_reducible rfl); done))
            simp only [Act.put, List.setIfInBounds_toArray, List.set_cons_zero, List.set_cons_succ]
            first
              | (refine wpAnyZ_take (i := 15) (oi := ⟨_, _, _, _, _, _⟩) (v := undef) rfl (by decide +kernel) (fun _ _ _ h => h) (Or.inr ⟨by rfl, rfl⟩) hS ?_)
              | (refine wpAnyZ_take (i := 15) (oi := ⟨_, _, _, _, _, _⟩) (v := ?_) rfl (by decide +kernel) (fun _ _ _ h => h) (Or.inl ⟨by rfl, ?_⟩) hS ?_; rotate_left; focus (intro w hSw; (try dsimp only at hSw); (have y0 := hSw; clear hSw); go_simp; (try with_reducible rfl); done))
            simp only [Act.put, List.setIfInBounds_toArray, List.set_cons_zero, List.set_cons_succ]
            first
              | (refine wpAnyZ_take0 (i := 16) (oi := ⟨_, _, _, _, _, _⟩) (v := undef) rfl (by decide +kernel) (fun _ _ _ h => h) (Or.inr ⟨by rfl, rfl⟩) (fun _ => hS) ?_)
              | (refine wpAnyZ_take0 (i := 16) (oi := ⟨_, _, _, _, _, _⟩) (v := ?_) rfl (by decide +kernel) (fun _ _ _ h => h) (Or.inl ⟨by rfl, ?_⟩) (fun _ => hS) ?_; rotate_left; focus (intro w hSw; go_simp; (try with_reducible rfl); done))
            simp only [Act.put, List.setIfInBounds_toArray, List.set_cons_zero, List.set_cons_succ]
            first
              | (refine wpAnyZ_take0 (i := 17) (oi := ⟨_, _, _, _, _, _⟩) (v := undef) rfl (by decide +kernel) (fun _ _ _ h => h) (Or.inr ⟨by rfl, rfl⟩) (fun _ => hS) ?_)
              | (refine wpAnyZ_take0 (i := 17) (oi := ⟨_, _, _, _, _, _⟩) (v := ?_) rfl (by decide +kernel) (fun _ _ _ h => h) (Or.inl ⟨by rfl, ?_⟩) (fun _ => hS) ?_; rotate_left; focus (intro w hSw; go_simp; (try with_reducible rfl); done))
            simp only [Act.put, List.setIfInBounds_toArray, List.set_cons_zero, List.set_cons_succ]
            first
              | (refine wpAnyZ_take0 (i := 18) (oi := ⟨_, _, _, _, _, _⟩) (v := undef) rfl (by decide +kernel) (fun _ _ _ h => h) (Or.inr ⟨by rfl, rfl⟩) (fun _ => hS) ?_)
              | (refine wpAnyZ_take0 (i := 18) (oi := ⟨_, _, _, _, _, _⟩) (v := ?_) rfl (by decide +kernel) (fun _ _ _ h => h) (Or.inl ⟨by rfl, ?_⟩) (fun _ => hS) ?_; rotate_left; focus (intro w hSw; go_simp; (try with_reducible rfl); done))
            simp only [Act.put, List.setIfInBounds_toArray, List.set_cons_zero, List.set_cons_succ]
            first
              | (refine wpAnyZ_take0 (i := 19) (oi := ⟨_, _, _, _, _, _⟩) (v := undef) rfl (by decide +kernel) (fun _ _ _ h => h) (Or.inr ⟨by rfl, rfl⟩) (fun _ => hS) ?_)
              | (refine wpAnyZ_take0 (i := 19) (oi := ⟨_, _, _, _, _, _⟩) (v := ?_) rfl (by decide +kernel) (fun _ _ _ h => h) (Or.inl ⟨by rfl, ?_⟩) (fun _ => hS) ?_; rotate_left; focus (intro w hSw; go_simp; (try with_reducible rfl); done))
            simp only [Act.put, List.setIfInBounds_toArray, List.set_cons_zero, List.set_cons_succ]
            first
              | (refine wpAnyZ_take0 (i := 20) (oi := ⟨_, _, _, _, _, _⟩) (v := undef) rfl (by decide +kernel) (fun _ _ _ h => h) (Or.inr ⟨by rfl, rfl⟩) (fun _ => hS) ?_)
              | (refine wpAnyZ_take0 (i := 20) (oi := ⟨_, _, _, _, _, _⟩) (v := ?_) rfl (by decide +kernel) (fun _ _ _ h => h) (Or.inl ⟨by rfl, ?_⟩) (fun _ => hS) ?_; rotate_left; focus (intro w hSw; go_simp; (try with_reducible rfl); done))
            simp only [Act.put, List.setIfInBounds_toArray, List.set_cons_zero, List.set_cons_succ]
            first
              | (refine wpAnyZ_take (i := 21) (oi := ⟨_, _, _, _, _, _⟩) (v := undef) rfl (by decide +kernel) (fun _ _ _ h => h) (Or.inr ⟨by rfl, rfl⟩) hS ?_)
              | (refine wpAnyZ_take (i := 21) (oi := ⟨_, _, _, _, _, _⟩) (v := ?_) rfl (by decide +kernel) (fun _ _ _ h => h) (Or.inl ⟨by rfl, ?_⟩) hS ?_; rotate_left; focus (intro w hSw; (try dsimp only at hSw); (have y0 := hSw; clear hSw); go_simp; (try with_reducible rfl); done))
            simp only [Act.put, List.setIfInBounds_toArray, List.set_cons_zero, List.set_cons_succ]
            first
              | (refine wpAnyZ_take0 (i := 22) (oi := ⟨_, _, _, _, _, _⟩) (v := undef) rfl (by decide +kernel) (fun _ _ _ h => h) (Or.inr ⟨by rfl, rfl⟩) (fun _ => hS) ?_)
              | (refine wpAnyZ_take0 (i := 22) (oi := ⟨_, _, _, _, _, _⟩) (v := ?_) rfl (by decide +kernel) (fun _ _ _ h => h) (Or.inl ⟨by rfl, ?_⟩) (fun _ => hS) ?_; rotate_left; focus (intro w hSw; go_simp; (try with_reducible rfl); done))
            simp only [Act.put, List.setIfInBounds_toArray, List.set_cons_zero, List.set_cons_succ]
            first
              | (refine wpAnyZ_take0 (i := 23) (oi := ⟨_, _, _, _, _, _⟩) (v := undef) rfl (by decide +kernel) (fun _ _ _ h => h) (Or.inr ⟨by rfl, rfl⟩) (fun _ => hS) ?_)
              | (refine wpAnyZ_take0 (i := 23) (oi := ⟨_, _, _, _, _, _⟩) (v := ?_) rfl (by decide +kernel) (fun _ _ _ h => h) (Or.inl ⟨by rfl, ?_⟩) (fun _ => hS) ?_; rotate_left; focus (intro w hSw; go_simp; (try with_reducible rfl); done))
            simp only [Act.put, List.setIfInBounds_toArray, List.set_cons_zero, List.set_cons_succ]
            refine wpAnyZ_take0 (i := 24) (oi := ⟨_, _, _, _, _, _⟩) (v := ?_) rfl (by decide +kernel) (fun _ _ _ h => h) (Or.inl ⟨by rfl, ?_⟩) (fun _ => hS) ?_
            rotate_left
            focus (intro w _; go_simp; (try with_reducible rfl); done)
            simp only [Act.put, List.setIfInBounds_toArray, List.set_cons_zero, List.set_cons_succ]
            refine wpAnyZ_done (by decide +kernel) ?_
            go_wp2_with fail
            go_meet
            case rel => exact ⟨rfl, BW⟩
          · clear hways
            obtain ⟨k, rfl⟩ : ∃ k, i = k + 1 := ⟨i - 1, by omega⟩
            rw [Nat.add_sub_cancel] at hq
            obtain ⟨ad', hade, y0, -⟩ := RdK.get HRr.out hq
            obtain rfl : ad = ad' := by injection hade
            have Y0 := Hd.mk y0
            have c1 : decide (((k + 1 : Nat) : Int) > 0) = true := by simp <;> omega
            have c2 : decide ((k : Int) + 1 > 0) = true := by simp <;> omega
            have c3 : decide (0 < (k : Int) + 1) = true := by simp <;> omega
            have i2 : IntKind.i64.wrap (((k + 1 : Nat) : Int) - 1) = (k : Int) := by rw [IntKind.wrap_i64]; omega
            have i3 : (k : Int) < (n : Int) := by omega
            have i5 : IntKind.i64.wrap (k : Int) = (k : Int) := by rw [IntKind.wrap_i64]; omega
            have i4 : (0 : Int) ≤ (k : Int) := by omega
            have i7 : (k : Int) + 1 < (n : Int) := by omega
            have i8 : (0 : Int) ≤ (k : Int) + 1 := by omega
            have i6 : IntKind.i64.wrap ((k : Int) + 1 - 1) = (k : Int) := by rw [IntKind.wrap_i64]; omega
            have hle' : (Op.bytesLess p.1.toList q.1.toList || p.1.toList == q.1.toList) = bd := hle
            refine region_zone 25 [false, false, false, false, false, false, false, false, false, false, false, false, false, false, false, false, false, false, false, false, false, false, false, false, false] (by kernel_rfl) (by kernel_rfl) hmix (fun w' => w'.cell? (ad.add ((k + 1) * 2)) = some (.string p.1) ∧ w'.cell? (ad.add (k * 2)) = some (.string q.1)) [] ?_ (fun hS => ?_)
            · exact ⟨below_cellK BW.out Q0.out, below_cellK BW.out Y0.out⟩
            refine wpAnyZ_take0 (i := 0) (oi := ⟨_, _, _, _, _, _⟩) (v := ?_) rfl (by decide +kernel) (fun _ _ _ h => h) (Or.inl ⟨by rfl, ?_⟩) (fun _ => hS) ?_
            rotate_left
            focus (intro w _; go_simp; (try with_reducible rfl); done)
            simp only [Act.put, List.setIfInBounds_toArray, List.set_cons_zero, List.set_cons_succ]
            refine wpAnyZ_take0 (i := 1) (oi := ⟨_, _, _, _, _, _⟩) (v := ?_) rfl (by decide +kernel) (fun _ _ _ h => h) (Or.inl ⟨by rfl, ?_⟩) (fun _ => hS) ?_
            rotate_left
            focus (intro w _; go_simp; (try with_reducible rfl); done)
            simp only [Act.put, List.setIfInBounds_toArray, List.set_cons_zero, List.set_cons_succ]
            refine wpAnyZ_take0 (i := 2) (oi := ⟨_, _, _, _, _, _⟩) (v := ?_) rfl (by decide +kernel) (fun _ _ _ h => h) (Or.inl ⟨by rfl, ?_⟩) (fun _ => hS) ?_
            rotate_left
            focus (intro w _; go_simp; (try with_reducible rfl); done)
            simp only [Act.put, List.setIfInBounds_toArray, List.set_cons_zero, List.set_cons_succ]
            refine wpAnyZ_take0 (i := 3) (oi := ⟨_, _, _, _, _, _⟩) (v := ?_) rfl (by decide +kernel) (fun _ _ _ h => h) (Or.inl ⟨by rfl, ?_⟩) (fun _ => hS) ?_
            rotate_left
            focus (intro w _; go_simp; (try with_reducible rfl); done)
            simp only [Act.put, List.setIfInBounds_toArray, List.set_cons_zero, List.set_cons_succ]
            refine wpAnyZ_take (i := 4) (oi := ⟨_, _, _, _, _, _⟩) (v := ?_) rfl (by decide +kernel) (fun _ _ _ h => h) (Or.inl ⟨by rfl, ?_⟩) hS ?_
            rotate_left
            focus (intro w hSw; (try dsimp only at hSw); (obtain ⟨y0, y1⟩ := hSw); go_simp; (try with_reducible rfl); done)
            simp only [Act.put, List.setIfInBounds_toArray, List.set_cons_zero, List.set_cons_succ]
            refine wpAnyZ_take0 (i := 5) (oi := ⟨_, _, _, _, _, _⟩) (v := ?_) rfl (by decide +kernel) (fun _ _ _ h => h) (Or.inl ⟨by rfl, ?_⟩) (fun _ => hS) ?_
            rotate_left
            focus (intro w _; go_simp; (try with_reducible rfl); done)
            simp only [Act.put, List.setIfInBounds_toArray, List.set_cons_zero, List.set_cons_succ]
            refine wpAnyZ_take0 (i := 6) (oi := ⟨_, _, _, _, _, _⟩) (v := ?_) rfl (by decide +kernel) (fun _ _ _ h => h) (Or.inl ⟨by rfl, ?_⟩) (fun _ => hS) ?_
            rotate_left
            focus (intro w _; go_simp; (try with_reducible rfl); done)
            simp only [Act.put, List.setIfInBounds_toArray, List.set_cons_zero, List.set_cons_succ]
            refine wpAnyZ_take0 (i := 7) (oi := ⟨_, _, _, _, _, _⟩) (v := ?_) rfl (by decide +kernel) (fun _ _ _ h => h) (Or.inl ⟨by rfl, ?_⟩) (fun _ => hS) ?_
            rotate_left
            focus (intro w _; go_simp; (try with_reducible rfl); done)
            simp only [Act.put, List.setIfInBounds_toArray, List.set_cons_zero, List.set_cons_succ]
            first
              | (refine wpAnyZ_take0 (i := 8) (oi := ⟨_, _, _, _, _, _⟩) (v := undef) rfl (by decide +kernel) (fun _ _ _ h => h) (Or.inr ⟨by rfl, rfl⟩) (fun _ => hS) ?_)
              | (refine wpAnyZ_take0 (i := 8) (oi := ⟨_, _, _, _, _, _⟩) (v := ?_) rfl (by decide +kernel) (fun _ _ _ h => h) (Or.inl ⟨by rfl, ?_⟩) (fun _ => hS) ?_; rotate_left; focus (intro w hSw; go_simp; (try with_reducible rfl); done))
            simp only [Act.put, List.setIfInBounds_toArray, List.set_cons_zero, List.set_cons_succ]
            first
              | (refine wpAnyZ_take0 (i := 9) (oi := ⟨_, _, _, _, _, _⟩) (v := undef) rfl (by decide +kernel) (fun _ _ _ h => h) (Or.inr ⟨by rfl, rfl⟩) (fun _ => hS) ?_)
              | (refine wpAnyZ_take0 (i := 9) (oi := ⟨_, _, _, _, _, _⟩) (v := ?_) rfl (by decide +kernel) (fun _ _ _ h => h) (Or.inl ⟨by rfl, ?_⟩) (fun _ => hS) ?_; rotate_left; focus (intro w hSw; go_simp; (try with_reducible rfl); done))
            simp only [Act.put, List.setIfInBounds_toArray, List.set_cons_zero, List.set_cons_succ]
            first
              | (refine wpAnyZ_take0 (i := 10) (oi := ⟨_, _, _, _, _, _⟩) (v := undef) rfl (by decide +kernel) (fun _ _ _ h => h) (Or.inr ⟨by rfl, rfl⟩) (fun _ => hS) ?_)
              | (refine wpAnyZ_take0 (i := 10) (oi := ⟨_, _, _, _, _, _⟩) (v := ?_) rfl (by decide +kernel) (fun _ _ _ h => h) (Or.inl ⟨by rfl, ?_⟩) (fun _ => hS) ?_; rotate_left; focus (intro w hSw; go_simp; (try with_reducible rfl); done))
            simp only [Act.put, List.setIfInBounds_toArray, List.set_cons_zero, List.set_cons_succ]
            first
              | (refine wpAnyZ_take0 (i := 11) (oi := ⟨_, _, _, _, _, _⟩) (v := undef) rfl (by decide +kernel) (fun _ _ _ h => h) (Or.inr ⟨by rfl, rfl⟩) (fun _ => hS) ?_)
              | (refine wpAnyZ_take0 (i := 11) (oi := ⟨_, _, _, _, _, _⟩) (v := ?_) rfl (by decide +kernel) (fun _ _ _ h => h) (Or.inl ⟨by rfl, ?_⟩) (fun _ => hS) ?_; rotate_left; focus (intro w hSw; go_simp; (try with_reducible rfl); done))
            simp only [Act.put, List.setIfInBounds_toArray, List.set_cons_zero, List.set_cons_succ]
            first
              | (refine wpAnyZ_take0 (i := 12) (oi := ⟨_, _, _, _, _, _⟩) (v := undef) rfl (by decide +kernel) (fun _ _ _ h => h) (Or.inr ⟨by rfl, rfl⟩) (fun _ => hS) ?_)
              | (refine wpAnyZ_take0 (i := 12) (oi := ⟨_, _, _, _, _, _⟩) (v := ?_) rfl (by decide +kernel) (fun _ _ _ h => h) (Or.inl ⟨by rfl, ?_⟩) (fun _ => hS) ?_; rotate_left; focus (intro w hSw; go_simp; (try with_reducible rfl); done))
            simp only [Act.put, List.setIfInBounds_toArray, List.set_cons_zero, List.set_cons_succ]
            first
              | (refine wpAnyZ_take0 (i := 13) (oi := ⟨_, _, _, _, _, _⟩) (v := undef) rfl (by decide +kernel) (fun _ _ _ h => h) (Or.inr ⟨by rfl, rfl⟩) (fun _ => hS) ?_)
              | (refine wpAnyZ_take0 (i := 13) (oi := ⟨_, _, _, _, _, _⟩) (v := ?_) rfl (by decide +kernel) (fun _ _ _ h => h) (Or.inl ⟨by rfl, ?_⟩) (fun _ => hS) ?_; rotate_left; focus (intro w hSw; go_simp; (try with_reducible rfl); done))
            simp only [Act.put, List.setIfInBounds_toArray, List.set_cons_zero, List.set_cons_succ]
            first
              | (refine wpAnyZ_take0 (i := 14) (oi := ⟨_, _, _, _, _, _⟩) (v := undef) rfl (by decide +kernel) (fun _ _ _ h => h) (Or.inr ⟨by rfl, rfl⟩) (fun _ => hS) ?_)
              | (refine wpAnyZ_take0 (i := 14) (oi := ⟨_, _, _, _, _, _⟩) (v := ?_) rfl (by decide +kernel) (fun _ _ _ h => h) (Or.inl ⟨by rfl, ?_⟩) (fun _ => hS) ?_; rotate_left; focus (intro w hSw; go_simp; (try with_reducible rfl); done))
            simp only [Act.put, List.setIfInBounds_toArray, List.set_cons_zero, List.set_cons_succ]
            first
              | (refine wpAnyZ_take (i := 15) (oi := ⟨_, _, _, _, _, _⟩) (v := undef) rfl (by decide +kernel) (fun _ _ _ h => h) (Or.inr ⟨by rfl, rfl⟩) hS ?_)
              | (refine wpAnyZ_take (i := 15) (oi := ⟨_, _, _, _, _, _⟩) (v := ?_) rfl (by decide +kernel) (fun _ _ _ h => h) (Or.inl ⟨by rfl, ?_⟩) hS ?_; rotate_left; focus (intro w hSw; (try dsimp only at hSw); (obtain ⟨y0, y1⟩ := hSw); go_simp; (try with_reducible rfl); done))
            simp only [Act.put, List.setIfInBounds_toArray, List.set_cons_zero, List.set_cons_succ]
            first
              | (refine wpAnyZ_take0 (i := 16) (oi := ⟨_, _, _, _, _, _⟩) (v := undef) rfl (by decide +kernel) (fun _ _ _ h => h) (Or.inr ⟨by rfl, rfl⟩) (fun _ => hS) ?_)
              | (refine wpAnyZ_take0 (i := 16) (oi := ⟨_, _, _, _, _, _⟩) (v := ?_) rfl (by decide +kernel) (fun _ _ _ h => h) (Or.inl ⟨by rfl, ?_⟩) (fun _ => hS) ?_; rotate_left; focus (intro w hSw; go_simp; (try with_reducible rfl); done))
            simp only [Act.put, List.setIfInBounds_toArray, List.set_cons_zero, List.set_cons_succ]
            first
              | (refine wpAnyZ_take0 (i := 17) (oi := ⟨_, _, _, _, _, _⟩) (v := undef) rfl (by decide +kernel) (fun _ _ _ h => h) (Or.inr ⟨by rfl, rfl⟩) (fun _ => hS) ?_)
              | (refine wpAnyZ_take0 (i := 17) (oi := ⟨_, _, _, _, _, _⟩) (v := ?_) rfl (by decide +kernel) (fun _ _ _ h => h) (Or.inl ⟨by rfl, ?_⟩) (fun _ => hS) ?_; rotate_left; focus (intro w hSw; go_simp; (try with_reducible rfl); done))
            simp only [Act.put, List.setIfInBounds_toArray, List.set_cons_zero, List.set_cons_succ]
            first
              | (refine wpAnyZ_take0 (i := 18) (oi := ⟨_, _, _, _, _, _⟩) (v := undef) rfl (by decide +kernel) (fun _ _ _ h => h) (Or.inr ⟨by rfl, rfl⟩) (fun _ => hS) ?_)
              | (refine wpAnyZ_take0 (i := 18) (oi := ⟨_, _, _, _, _, _⟩) (v := ?_) rfl (by decide +kernel) (fun _ _ _ h => h) (Or.inl ⟨by rfl, ?_⟩) (fun _ => hS) ?_; rotate_left; focus (intro w hSw; go_simp; (try with_reducible rfl); done))
            simp only [Act.put, List.setIfInBounds_toArray, List.set_cons_zero, List.set_cons_succ]
            first
              | (refine wpAnyZ_take0 (i := 19) (oi := ⟨_, _, _, _, _, _⟩) (v := undef) rfl (by decide +kernel) (fun _ _ _ h => h) (Or.inr ⟨by rfl, rfl⟩) (fun _ => hS) ?_)
              | (refine wpAnyZ_take0 (i := 19) (oi := ⟨_, _, _, _, _, _⟩) (v := ?_) rfl (by decide +kernel) (fun _ _ _ h => h) (Or.inl ⟨by rfl, ?_⟩) (fun _ => hS) ?_; rotate_left; focus (intro w hSw; go_simp; (try with_reducible rfl); done))
            simp only [Act.put, List.setIfInBounds_toArray, List.set_cons_zero, List.set_cons_succ]
            first
              | (refine wpAnyZ_take0 (i := 20) (oi := ⟨_, _, _, _, _, _⟩) (v := undef) rfl (by decide +kernel) (fun _ _ _ h => h) (Or.inr ⟨by rfl, rfl⟩) (fun _ => hS) ?_)
              | (refine wpAnyZ_take0 (i := 20) (oi := ⟨_, _, _, _, _, _⟩) (v := ?_) rfl (by decide +kernel) (fun _ _ _ h => h) (Or.inl ⟨by rfl, ?_⟩) (fun _ => hS) ?_; rotate_left; focus (intro w hSw; go_simp; (try with_reducible rfl); done))
            simp only [Act.put, List.setIfInBounds_toArray, List.set_cons_zero, List.set_cons_succ]
            first
              | (refine wpAnyZ_take (i := 21) (oi := ⟨_, _, _, _, _, _⟩) (v := undef) rfl (by decide +kernel) (fun _ _ _ h => h) (Or.inr ⟨by rfl, rfl⟩) hS ?_)
              | (refine wpAnyZ_take (i := 21) (oi := ⟨_, _, _, _, _, _⟩) (v := ?_) rfl (by decide +kernel) (fun _ _ _ h => h) (Or.inl ⟨by rfl, ?_⟩) hS ?_; rotate_left; focus (intro w hSw; (try dsimp only at hSw); (obtain ⟨y0, y1⟩ := hSw); go_simp; (try with_reducible rfl); done))
            simp only [Act.put, List.setIfInBounds_toArray, List.set_cons_zero, List.set_cons_succ]
            first
              | (refine wpAnyZ_take0 (i := 22) (oi := ⟨_, _, _, _, _, _⟩) (v := undef) rfl (by decide +kernel) (fun _ _ _ h => h) (Or.inr ⟨by rfl, rfl⟩) (fun _ => hS) ?_)
              | (refine wpAnyZ_take0 (i := 22) (oi := ⟨_, _, _, _, _, _⟩) (v := ?_) rfl (by decide +kernel) (fun _ _ _ h => h) (Or.inl ⟨by rfl, ?_⟩) (fun _ => hS) ?_; rotate_left; focus (intro w hSw; go_simp; (try with_reducible rfl); done))
            simp only [Act.put, List.setIfInBounds_toArray, List.set_cons_zero, List.set_cons_succ]
            first
              | (refine wpAnyZ_take0 (i := 23) (oi := ⟨_, _, _, _, _, _⟩) (v := undef) rfl (by decide +kernel) (fun _ _ _ h => h) (Or.inr ⟨by rfl, rfl⟩) (fun _ => hS) ?_)
              | (refine wpAnyZ_take0 (i := 23) (oi := ⟨_, _, _, _, _, _⟩) (v := ?_) rfl (by decide +kernel) (fun _ _ _ h => h) (Or.inl ⟨by rfl, ?_⟩) (fun _ => hS) ?_; rotate_left; focus (intro w hSw; go_simp; (try with_reducible rfl); done))
            simp only [Act.put, List.setIfInBounds_toArray, List.set_cons_zero, List.set_cons_succ]
            refine wpAnyZ_take0 (i := 24) (oi := ⟨_, _, _, _, _, _⟩) (v := ?_) rfl (by decide +kernel) (fun _ _ _ h => h) (Or.inl ⟨by rfl, ?_⟩) (fun _ => hS) ?_
            rotate_left
            focus (intro w _; go_simp; (try with_reducible rfl); done)
            simp only [Act.put, List.setIfInBounds_toArray, List.set_cons_zero, List.set_cons_succ]
            refine wpAnyZ_done (by decide +kernel) ?_
            go_wp2_with fail
            go_meet
            case rel => exact ⟨rfl, BW⟩
      case rest =>
        obtain ⟨rfl, B1⟩ := hcut
        have B2 := Hd.mk (HBr.out.trans (B1.out.mono HBr.out.size))
        cases bd with
        | true =>
          have hr1 : Hd (buildK kind first l = ([], 0, 0, 200)) := ⟨by rw [hres.out, hst.out, if_pos (of_decide_eq_true hbd.out)]; simp⟩
          clear hst hres hbk hbd
          go_wp2_with fail
          ((try simp only [Exit.inBlock, Exit.then]); refine bodyPost_ret (results_tmp4 rfl _ _ _) rfl ?_)
          rw [hr1.out]
          exact RetB.err _ _ _ B2.out
        | false =>
          have hst4 : Hd (badK none l = if p.2 < 0 ∨ 2147483647 < p.2 then 201 else badK (prevK l (i + 1)) (l.drop (i + 1))) := ⟨by rw [hst.out, if_neg (of_decide_eq_false hbd.out)]⟩
          have q1' := below_cellK B1.out q1
          clear hst hbk hbd
          by_cases hN : p.2 < 0 ∨ 2147483647 < p.2
          · have hr1 : Hd (buildK kind first l = ([], 0, 0, 201)) := ⟨by rw [hres.out, hst4.out, if_pos hN]; simp⟩
            have hN2 : p.2 < 0 ∨ ¬ p.2 < 0 ∧ p.2 > 2147483647 := by omega
            clear hN hst4 hres
            rcases hN2 with n1 | ⟨n1, n2⟩
            · have n1' : decide (p.2 < 0) = true := by simpa using n1
              go_wp2_with fail
              ((try simp only [Exit.inBlock, Exit.then]); refine bodyPost_ret (results_tmp4 rfl _ _ _) rfl ?_)
              rw [hr1.out]
              exact RetB.err _ _ _ B2.out
            · have n1' : decide (p.2 < 0) = false := by simpa using n1
              have n2' : decide (p.2 > 2147483647) = true := by simpa using n2
              go_wp2_with fail
              ((try simp only [Exit.inBlock, Exit.then]); refine bodyPost_ret (results_tmp4 rfl _ _ _) rfl ?_)
              rw [hr1.out]
              exact RetB.err _ _ _ B2.out
          · have hst5 : Hd (badK none l = badK (prevK l (i + 1)) (l.drop (i + 1))) := ⟨by rw [hst4.out, if_neg hN]⟩
            have n1' : decide (p.2 < 0) = false := by simp; omega
            have n2' : decide (p.2 > 2147483647) = false := by simp; omega
            clear hN hst4
            go_wp2_with fail
            go_roundw
            case rel => exact ⟨i + 1, by go_num, by omega, B2, ⟨hst5.out.symm⟩⟩
            case measure => simp [intOf]; omega
    · obtain rfl : i = n := by omega
      have hbz : badK none l = 0 := by rw [← hbk.out, List.drop_of_length_le (by rw [HL.out]; exact Nat.le_refl _)]; simp [badK]
      have hokl := Hd.mk (badK_ok none l hbz).2.1
      have hres2 : Hd (buildK kind first l = if (upK kind (l.length + 1) first 0 l []).2.2 ≠ 0 then ([], 0, 0, (upK kind (l.length + 1) first 0 l []).2.2)
          else ((upK kind (l.length + 1) first 0 l []).1, (upK kind (l.length + 1) first 0 l []).2.1 - 1, (upK kind (l.length + 1) first 0 l []).2.1 - first, 0)) := ⟨by rw [hres.out, if_neg (by simpa using hbz)]⟩
      have hlti : ¬ ((i : Int) < (i : Int)) := by omega
      clear hbk hres hbz
      go_wp2_with fail
      go_loopw [2, 11, 12, 13, 14, 15, 16, 17, 18, 19] (fun lv ov xv nv _ _ _ _ _ _ wr => ∃ (level : Nat) (next : Int) (P : Option Addr) (pn pc : Nat) (pgs : List UInt8) (A' : Option Addr) (n' c' : Nat) (l' : List Kp) (f : Nat),
          nv = .int .i64 (level : Int) ∧ lv = .slice A' n' c' ∧ ov = .slice P pn pc ∧ xv = .int .i64 next ∧ Hd (Own8 wr w.heap.size P pn pc pgs) ∧ Hd (RdK wr A' n' l') ∧ Hd (∀ p ∈ l', OkP p) ∧
          Hd (upK kind (f + 1) next level l' pgs = upK kind (l.length + 1) first 0 l []) ∧ n' ≤ f ∧ n' ≤ 20000 ∧ level + f ≤ 20000 ∧ Hd (Below w.heap.size w wr) ∧ -9223372036854775808 ≤ next ∧ next ≤ 9223372036854775807 ∧ Hd (pgs = [] ∨ 0 ≤ next ∧ next ≤ 16384 ∧ (pgs.length : Int) ≤ 256 * next) ∧ Hd (first ≤ next ∧ (next = first ∨ 0 ≤ first ∧ next ≤ 16384)))
        (fun lv _ _ _ _ _ _ _ _ _ _ => lenOfV lv)
      case atStart => exact ⟨0, first, none, 0, 0, [], A, i, c, l, l.length, rfl, rfl, rfl, rfl, ⟨Own8.nil_ _ _ _⟩, HRr, hokl, ⟨rfl⟩, by have := HL.out; omega, hn2, by have := HL.out; omega, HBr, hlo, hhi, ⟨.inl rfl⟩, ⟨by omega⟩⟩
      case round =>
        obtain ⟨level, next, P, pn, pc, pgs, A', n', c', l', f, rfl, rfl, rfl, rfl, HO, HRL, hokl', hup, hnf, hn20, hlf, HBW, hnlo, hnhi, hpg, hfn⟩ := hrel
        have hll' := Hd.mk HRL.out.len
        have HLA := Hd.mk (layer110 A' n' c' l' level wr HRL.out hn20 hokl'.out)
        clear HBr HRr hb HR
        go_wp2_with fail
        refine HLA.out.mono ?_
        rintro e w2 ⟨D, dn, dc, K, kn, kc, hs, rfl, hLD, hKO, hb2⟩
        obtain ⟨cs, hcs⟩ : ∃ cs, Hd (chunks l' = cs) := ⟨_, ⟨rfl⟩⟩
        rw [hcs.out] at hLD hKO
        obtain ⟨lev, hlev⟩ : ∃ lev, Hd (UInt8.ofNat level = lev) := ⟨_, ⟨rfl⟩⟩
        rw [hlev.out] at hLD
        have hlenD := hLD.dlen
        simp only [List.length_map] at hlenD
        have hroomc : Hd (∀ c ∈ cs, 1 + (pairsB c).length ≤ 246) := ⟨by rw [← hcs.out]; exact chunks_room hokl'.out⟩
        have hcp : 0 < cs.length := by rw [← hcs.out]; exact chunks_pos l'
        have hfew : Hd (l' = [] ∨ 3 * cs.length ≤ l'.length + 2) := ⟨by
          by_cases h0 : l' = []
          · exact .inl h0
          · right; rw [← hcs.out]; exact chunks_few hokl'.out h0⟩
        have hcl : cs.length ≤ 20000 := by
          rcases hfew.out with h0 | h0
          · rw [← hcs.out, h0]; simp [chunks, chunkK]
          · have := hll'.out; omega
        have HLD := Hd.mk hLD
        have HKO := Hd.mk hKO
        have HO2 := Hd.mk (Own.below HO.out hb2)
        have HB2 := Hd.mk (HBW.out.trans (hb2.mono HBW.out.size))
        have hPb : Hd (∀ k, ownBlk P pc = some k → k < wr.heap.size ∨ w2.heap.size ≤ k) := ⟨fun k e => .inl (Own.lt HO.out e).2⟩
        have hs2 := hb2.size
        have hsW := HBW.out.size
        clear hLD hKO hb2 HLA HO HRL
        obtain ⟨bL, hbL⟩ : ∃ bL, wr.heap.size = bL := ⟨_, rfl⟩
        rw [hbL] at HLD HKO hPb hs2 hsW
        clear hbL
        go_wp2_with fail
        go_loopw [11, 12, 16, 17, 18, 19] (fun ov xv uv iv _ _ wi => ∃ (j : Nat) (P' : Option Addr) (pn' pc' : Nat) (pgs' : List UInt8) (N : Option Addr) (nn nc : Nat) (U : List Kp),
            ov = .slice P' pn' pc' ∧ xv = .int .i64 (next + (j : Int)) ∧ uv = .slice N nn nc ∧ iv = .int .i64 (j : Int) ∧ j ≤ dn ∧ Hd (Own8 wi w.heap.size P' pn' pc' pgs') ∧ Hd (OwnK wi w2.heap.size N nn nc U) ∧ U.length = j ∧ Hd (∀ k, ownBlk P' pc' = some k → k < bL ∨ w2.heap.size ≤ k) ∧
            Hd (∀ k, bL ≤ k → k < w2.heap.size → wi.heap[k]? = w2.heap[k]?) ∧ Hd (Below w.heap.size w wi) ∧ w2.heap.size ≤ wi.heap.size ∧ (j = 0 ∨ 0 ≤ next ∧ next + (j : Int) ≤ 16384) ∧ Hd (pgs'.length = pgs.length + 256 * j) ∧
            Hd ((layK kind lev next cs).2.2 = (layK kind lev (next + (j : Int)) (cs.drop j)).2.2 ∧ ((layK kind lev next cs).2.2 = 0 → pgs ++ (layK kind lev next cs).1 = pgs' ++ (layK kind lev (next + (j : Int)) (cs.drop j)).1 ∧ (layK kind lev next cs).2.1 = U ++ (layK kind lev (next + (j : Int)) (cs.drop j)).2.1)))
          (fun _ _ _ iv _ _ _ => dn - (intOf iv).toNat)
        case atStart => exact ⟨0, P, pn, pc, pgs, none, 0, 0, [], rfl, by simp, rfl, rfl, by omega, HO2, ⟨OwnK.nil_ _ _ _⟩, rfl, hPb, ⟨fun _ _ _ => rfl⟩, HB2, Nat.le_refl _, .inl rfl, ⟨by simp⟩, ⟨by simp⟩⟩
        case round =>
          obtain ⟨j, P', pn', pc', pgs', N, nn, nc, U, rfl, rfl, rfl, rfl, hj, HO', HN, hUl, hPb', hkeep, HBi, hsi, hnx, hpl, hlay⟩ := hrel
          have hLD := HLD.out.keep (fun k h1 h2 => hkeep.out k h1 h2)
          have hKO := Own.keep HKO.out (fun g _ h1 h2 => hkeep.out g h1 h2)
          have hnn : nn = j := by rw [← hUl]; exact (OwnK.len HN.out).symm
          subst hnn
          have hpgl := Own8.len HO'.out
          by_cases hlt : nn < dn
          · obtain ⟨cj, hcj⟩ : ∃ cj, Hd (cs[nn]? = some cj) := ⟨cs[nn]'(by omega), ⟨List.getElem?_eq_getElem _⟩⟩
            have hdr : Hd (cs.drop nn = cj :: cs.drop (nn + 1)) := ⟨by
              obtain ⟨hk, e⟩ := List.getElem?_eq_some_iff.1 hcj.out
              rw [← e]; exact List.drop_eq_getElem_cons hk⟩
            have hrc := hroomc.out cj (List.mem_of_getElem? hcj.out)
            have hhl : hs.length = dn := by have := hLD.len; simp at this; omega
            obtain ⟨⟨hA, hn1, hc1⟩, hhj⟩ : ∃ q : Hdr, hs[nn]? = some q := ⟨hs[nn]'(by omega), List.getElem?_eq_getElem _⟩
            have hel := hLD.el nn _ (nodeB lev cj) hhj (by rw [List.getElem?_map, hcj.out]; rfl)
            obtain ⟨adD, u, rfl, hu, hc, -, -⟩ := Own.at_ hLD.arr (j := nn) (by omega)
            have hu' : u = sV (hA, hn1, hc1) := by rw [List.getElem?_map, hhj] at hu; injection hu with hu; exact hu.symm
            subst hu'
            have hc' : wr.cell? (adD.add nn) = some (.slice hA hn1 hc1) := hc
            have hkn : kn = dn := by have := hKO.1; simp [sK] at this; omega
            subst hkn
            obtain ⟨adK, u, rfl, hu2, hck, -, hkb⟩ := Own.at_ hKO (j := nn) (by omega)
            have hkb := Own.lt HKO.out hkb
            have hu' : u = .string (headK cj) := by rw [sK, List.getElem?_map, List.getElem?_map, hcj.out] at hu2; injection hu2 with hu2; exact hu2.symm
            subst hu'
            have HM := Hd.mk (rmake27 kind (next + (nn : Int)) hA hn1 hc1 (nodeB lev cj) wr (Own8.rd hel))
            have HCK := Hd.mk hck
            have i1 : (nn : Int) < (kn : Int) := by omega
            have i0 : (0 : Int) ≤ (nn : Int) := by omega
            clear hu hu2 hc hel hhj hck
            by_cases hbad : next + (nn : Int) < 0 ∨ 16384 ≤ next + (nn : Int)
            · have hmk : make kind (next + (nn : Int)) (nodeB lev cj) = ([], 1) := if_pos hbad
              rw [hmk] at HM
              have hle : (layK kind lev next cs).2.2 = 1 := by rw [hlay.out.1, hdr.out, layK_bad hbad]
              have hr1 : Hd (buildK kind first l = ([], 0, 0, 1)) := ⟨by
                have h2 : upK kind (f + 1) next level l' pgs = ([], 0, 1) := by
                  rw [upK_err (by rw [hcs.out, hlev.out, hle]; simp), hcs.out, hlev.out, hle]
                rw [hres2.out, ← hup.out, h2, if_pos (by simp)]⟩
              clear hres2 hup hlay
              go_wp2_with fail
              refine HM.out.mono ?_
              rintro e w3 ⟨B, bn, bc', rfl, ob, b3⟩
              have B3 := Hd.mk (HBi.out.trans (b3.mono HBi.out.size))
              clear ob b3
              go_wp2_with fail
              ((try simp only [Exit.inBlock, Exit.then]); refine bodyPost_ret (results_tmp4 rfl _ _ _) rfl ?_)
              rw [hr1.out]
              exact RetB.err _ _ _ B3.out
            · have hmk : make kind (next + (nn : Int)) (nodeB lev cj) = (mkPage kind (next + (nn : Int)).toNat (nodeB lev cj), 0) := by
                unfold make
                rw [if_neg hbad, if_neg (by simp only [nodeB, List.length_cons]; omega)]
              rw [hmk] at HM
              have hpl256 := mkPage_length kind (next + (nn : Int)).toNat (nodeB lev cj) (by simp only [nodeB, List.length_cons]; omega)
              have w1 : IntKind.i64.wrap (next + (nn : Int) + 1) = next + (nn : Int) + 1 := by rw [IntKind.wrap_i64]; omega
              have w2' : IntKind.i64.wrap ((nn : Int) + 1) = (nn : Int) + 1 := by rw [IntKind.wrap_i64]; omega
              have hlay2 : Hd ((layK kind lev next cs).2.2 = (layK kind lev (next + ((nn + 1 : Nat) : Int)) (cs.drop (nn + 1))).2.2 ∧ ((layK kind lev next cs).2.2 = 0 → pgs ++ (layK kind lev next cs).1 = (pgs' ++ mkPage kind (next + (nn : Int)).toNat (nodeB lev cj)) ++ (layK kind lev (next + ((nn + 1 : Nat) : Int)) (cs.drop (nn + 1))).1 ∧ (layK kind lev next cs).2.1 = (U ++ [(headK cj, next + (nn : Int))]) ++ (layK kind lev (next + ((nn + 1 : Nat) : Int)) (cs.drop (nn + 1))).2.1)) := ⟨by
                have e5 : next + ((nn + 1 : Nat) : Int) = next + (nn : Int) + 1 := by omega
                have h5 := hlay.out
                rw [hdr.out, layK_ok hbad] at h5
                rw [e5]
                refine ⟨h5.1, fun h0 => ?_⟩
                obtain ⟨h6, h7⟩ := h5.2 h0
                exact ⟨by rw [h6, List.append_assoc]; rfl, by rw [h7, List.append_assoc]; rfl⟩⟩
              clear hlay hmk
              go_wp2_with fail
              refine HM.out.mono ?_
              rintro e w3 ⟨B, bn, bc', rfl, ob, b3⟩
              have hbn : bn = 256 := by rw [← Own8.len ob]; exact hpl256
              subst hbn
              have z3 := below_cellK b3 HCK.out
              have O3 := Hd.mk (Own.below HO'.out b3)
              have N3 := Hd.mk (Own.below HN.out b3)
              have B3 := Hd.mk (HBi.out.trans (b3.mono HBi.out.size))
              have hs3 := b3.size
              have hs3' := B3.out.size
              have K3 : Hd (∀ k, bL ≤ k → k < w2.heap.size → w3.heap[k]? = w2.heap[k]?) := ⟨fun k h1 h2 => (b3.block k (by omega)).trans (hkeep.out k h1 h2)⟩
              have OB := Hd.mk (Own8.rd ob)
              have hpll := hpl.out
              have hpgb := hpg.out
              have hpb0 : pn' ≤ 4194304 + 256 * 16384 := by
                rcases hpgb with h0 | ⟨h1, h2, h3⟩
                · rw [h0] at hpll; simp at hpll; omega
                · omega
              clear ob b3 HM hLD hKO
              go_wp2_with (first
                | (at_builtin; refine wl_app8 rfl _ _ rfl rfl rfl O3.out OB.out (by omega) hs3' ?_; rintro v w4 ⟨P4, pc4, rfl, o4, g4, hc4⟩; have hg4 := g4.size; have z4 : w4.cell? (adK.add nn) = some (.string (headK cj)) := ((World.cell?_of_block (g4.block (adK.add nn).block (by rw [block_add]; omega) (fun e => by rw [block_add] at e; have := hPb'.out _ e.symm; omega))).trans z3); have n4 := own_apart N3.out O3.out (by decide) g4)
                | (at_builtin; refine wl_appK rfl _ _ rfl rfl rfl (Own.alloc n4 _) (RdK.newAt _ [(headK cj, next + (nn : Int))] rfl rfl rfl) (by omega) (by simp; omega) ?_; rintro v w5 ⟨N5, nc5, rfl, n5, g5, hc5⟩)
                | fail)
              have z5 : Below w4.heap.size w4 (w4.alloc (.cells #[.string (headK cj), .int .i64 (next + (nn : Int))] 113)) := (Below.refl _ _).alloc (Nat.le_refl _) _
              have n4' := Own.below n4 z5
              have O5 := Hd.mk (own_apart (Own.below o4 z5) n4' (by decide) g5)
              have N5' := Hd.mk n5
              have b4 := B3.out.grown g4 hs3' (fun k e => (Own.lt O3.out e).1)
              have B5 := Hd.mk ((b4.trans (z5.mono b4.size)).grown g5 (Nat.le_trans b4.size z5.size) (fun k e => by have := (Own.lt n4' e).1; have := HB2.out.size; omega))
              have hg5 := g5.size
              have hz5 := z5.size
              have K5 : Hd (∀ k, bL ≤ k → k < w2.heap.size → w5.heap[k]? = w2.heap[k]?) := ⟨fun k h1 h2 =>
                (g5.block k (by omega) (fun e => by have := (Own.lt n4' e.symm).1; omega)).trans ((z5.block k (by omega)).trans ((g4.block k (by omega) (fun e => by have := hPb'.out k e.symm; omega)).trans (K3.out k h1 h2)))⟩
              have hPb5 : Hd (∀ k, ownBlk P4 pc4 = some k → k < bL ∨ w2.heap.size ≤ k) := ⟨fun k e => by
                rcases hc4 with ⟨e1, e2, _⟩ | e1
                · exact hPb'.out k (by rw [← e1, ← e2]; exact e)
                · right
                  unfold ownBlk at e
                  split at e
                  · cases e
                  · rw [e1] at e; simp at e; omega⟩
              have hpl5 : Hd ((pgs' ++ mkPage kind (next + (nn : Int)).toNat (nodeB lev cj)).length = pgs.length + 256 * (nn + 1)) := ⟨by rw [List.length_append, hpl256, hpl.out]; omega⟩
              have hsz5 : w2.heap.size ≤ w5.heap.size := by omega
              clear z5 n4' o4 g4 hc4 n4 n5 g5 hc5 b4
              go_roundw
              case rel => exact ⟨nn + 1, P4, _, pc4, _, N5, _, nc5, U ++ [(headK cj, next + (nn : Int))], rfl, by go_num, rfl, by go_num, by omega, O5, N5', by simp [hUl], hPb5, K5, B5, hsz5, .inr ⟨by omega, by omega⟩, hpl5, hlay2⟩
              case measure => simp [intOf]; omega
          · obtain rfl : nn = dn := by omega
            have hdr : cs.drop nn = [] := List.drop_of_length_le (by omega)
            have hlay2 : Hd ((layK kind lev next cs).2.2 = 0 ∧ pgs ++ (layK kind lev next cs).1 = pgs' ∧ (layK kind lev next cs).2.1 = U) := ⟨by
              have h5 := hlay.out
              rw [hdr] at h5
              have h6 : (layK kind lev next cs).2.2 = 0 := by rw [h5.1]; rfl
              obtain ⟨h7, h8⟩ := h5.2 h6
              exact ⟨h6, by rw [h7]; simp [layK], by rw [h8]; simp [layK]⟩⟩
            have hlti : ¬ ((nn : Int) < (nn : Int)) := by omega
            have hs4 := hnx.resolve_left (by omega)
            clear hlay hkeep hLD hKO
            by_cases h2 : nn = 1
            · subst h2
              have hr1 : Hd (buildK kind first l = (pgs', next, next + 1 - first, 0)) := ⟨by
                rw [hres2.out, ← hup.out, upK_end (by rw [hcs.out, hlev.out]; exact hlay2.out.1) (by rw [hcs.out]; omega), hcs.out, hlev.out, if_neg (by simp), hlay2.out.2.1, hlenD]
                simp⟩
              have iw3 : IntKind.i64.wrap (next + ((1 : Nat) : Int) - 1) = next := by rw [IntKind.wrap_i64]; omega
              have iw3' : IntKind.i64.wrap (next + 1 - 1) = next := by rw [IntKind.wrap_i64]; omega
              have iw2 : IntKind.i64.wrap (next + ((1 : Nat) : Int) - first) = next + 1 - first := by rw [IntKind.wrap_i64]; have := hfn.out; omega
              have iw2' : IntKind.i64.wrap (next + 1 - first) = next + 1 - first := by rw [IntKind.wrap_i64]; have := hfn.out; omega
              clear hres2 hup
              go_wp2_with fail
              ((try simp only [Exit.inBlock, Exit.then]); refine bodyPost_ret (results_tmp4 rfl _ _ _) rfl ?_)
              rw [hr1.out]
              exact ⟨_, _, _, rfl, HO'.out, HBi.out⟩
            · have h0l : l' ≠ [] := fun e => by have h5 := hcs.out; rw [e] at h5; simp [chunks, chunkK] at h5; rw [← h5] at hlenD; simp at hlenD; omega
              have hfew2 : 3 * nn ≤ n' + 2 := by have h5 := hfew.out.resolve_left h0l; have := hll'.out; omega
              have hox : Hd (∀ p ∈ U, OkP p) := ⟨by
                have h5 := layK_pairs (kind := kind) (n := lev) (next := next) (chunks_ok hokl'.out h0l)
                rw [hcs.out, hlay2.out.2.2] at h5; exact h5⟩
              obtain ⟨f, rfl⟩ : ∃ f', f = f' + 1 := ⟨f - 1, by omega⟩
              have hup2 : Hd (upK kind (f + 1) (next + (nn : Int)) (level + 1) U pgs' = upK kind (l.length + 1) first 0 l []) := ⟨by
                have h5 := upK_step (kind := kind) (f := f + 1) (level := level) (next := next) (l := l') (acc := pgs) (by rw [hcs.out, hlev.out]; exact hlay2.out.1) (by rw [hcs.out]; omega)
                rw [hcs.out, hlev.out, hlay2.out.2.1, hlay2.out.2.2, hlenD] at h5
                rw [← hup.out, h5]⟩
              have hpg2 : Hd (pgs' = [] ∨ 0 ≤ next + (nn : Int) ∧ next + (nn : Int) ≤ 16384 ∧ (pgs'.length : Int) ≤ 256 * (next + (nn : Int))) := ⟨.inr ⟨by omega, by omega, by
                rw [hpl.out]
                rcases hpg.out with h5 | ⟨h5, h6, h7⟩
                · rw [h5]; simp; omega
                · omega⟩⟩
              have e1' : (((nn : Nat) : Int) == 1) = false := by rw [beq_eq_false_iff_ne]; omega
              have iw4 : IntKind.i64.wrap ((level : Int) + 1) = (level : Int) + 1 := by rw [IntKind.wrap_i64]; omega
              have HRN := Hd.mk (show RdK wr N nn U from Own.rd HN.out)
              have hfn2 : Hd (first ≤ next + (nn : Int) ∧ (next + (nn : Int) = first ∨ 0 ≤ first ∧ next + (nn : Int) ≤ 16384)) := ⟨by have := hfn.out; omega⟩
              clear hup hfn hpg
              go_wp2_with fail
              go_roundw
              case rel => exact ⟨level + 1, next + (nn : Int), P', _, pc', pgs', N, nn, nc, U, f, by go_num, rfl, rfl, rfl, HO', HRN, hox, hup2, by omega, by omega, by omega, HBi, by omega, by omega, hpg2, hfn2⟩
              case measure => simp only [lenOfV]; omega
end Go.Proofs.Ytkgdcglnkodgnaa
namespace Go.Proofs.Ytkgdcglnkodgnaa
open Go.RowKit
set_option maxRecDepth 100000 in
set_option maxHeartbeats 2000000 in
theorem treeBuilds13 (kind : UInt8) (first : Int) (A : Option Addr) (n c : Nat) (l : List Kp) (w : World) (h : RdK w A n l) (hn : n ≤ 5864062014805) (hlo : -9223372036854775808 ≤ first) (hhi : first ≤ 9223372036854775807)
    (hsz : ∀ p ∈ l, p.1.size ≤ 9223372036854775807) :
    Calls Try.prog 13 #[.int .u8 (kind.toNat : Int), .int .i64 first, .slice A n c] w fun e w' => e = .returned (.bool true) ∧ Below w.heap.size w w' := by
  have HR := Hd.mk h
  have HS := Hd.mk hsz
  have HL := Hd.mk h.len
  obtain ⟨b, root, m, er, hX⟩ : ∃ b root m er, Hd (buildK kind first l = (b, root, m, er)) := ⟨_, _, _, _, ⟨rfl⟩⟩
  have x1 : (root == root) = true := by simp
  have x2 : (m == m) = true := by simp
  have x3 : ((er : Int) == (er : Int)) = true := by simp
  clear h hsz
  go_enter Try.func13, Try.ntmps13
  go_wp2_with fail
  refine (twin62 A n c l w HR.out hn).mono ?_
  rintro e w1 ⟨A1, n1, c1, rfl, o1, b1⟩
  have hn1 : Hd (n1 = n) := ⟨by rw [← OwnK.len o1, HL.out]⟩
  have HB1 := Hd.mk b1
  have HF := build61 kind first A1 n1 c1 l w1 (Own.rd o1) (fun h0 ad e => (Own.lt o1 (g := ad.block) (by have := (Own.le o1).1; simp [ownBlk, e]; omega)).2) (by rw [hn1.out]; exact hn) hlo hhi HS.out
  rw [hX.out] at HF
  have HF1 := Hd.mk HF
  clear HF o1 b1
  go_wp2_with fail
  refine HF1.out.mono ?_
  rintro e w2 ⟨B2, n2, c2, rfl, o2, b2⟩
  have HB2 := Hd.mk (HB1.out.trans (b2.mono HB1.out.size))
  have HO2 := Hd.mk (show Own8 w2 w1.heap.size B2 n2 c2 b from o2)
  have HG := rbuild63 kind first A n c l w2 (Rd.below HR.out HB2.out) hn hlo hhi HS.out
  rw [hX.out] at HG
  have HG2 := Hd.mk HG
  clear HG b2 o2 HF1
  go_wp2_with fail
  refine HG2.out.mono ?_
  rintro e w3 ⟨B3, n3, c3, rfl, o3, b3⟩
  have HB3 := Hd.mk (HB2.out.trans (b3.mono HB2.out.size))
  have hr2 := run_str8 (c := c2) (Own8.rd (Own.below HO2.out b3))
  have hr3 := run_str8 (c := c3) (show Rd8 w3 B3 n3 b from Own8.rd o3)
  have x4 : ((⟨b.toArray⟩ : ByteArray).toList == (⟨b.toArray⟩ : ByteArray).toList) = true := by simp
  clear b3 o3 HG2
  go_wp2_with fail
  refine (awake64 w3).mono ?_
  rintro e w4 ⟨rfl, b4⟩
  have HB4 := Hd.mk (HB3.out.trans (b4.mono HB3.out.size))
  clear b4
  go_wp2_with fail
  go_ret
  exact ⟨by simp, HB4.out⟩
end Go.Proofs.Ytkgdcglnkodgnaa
namespace Go.Proofs.Ytkgdcglnkodgnaa.treeBuilds
open Go.ChangeShapes Go.WideShapes Go.ChangeAt Go.RowKit
open Go.ChangeMaps (open_string shut_string)
set_option maxRecDepth 100000 in
theorem lifted (os : Os) (started : os.Started) (H : Type) (enc : TypeId × Value → H) :
    ReturnsInHanded {} Try.checked os 13 .any (Rows.treeBuildsSpec.pre6 enc Try.prog Try.f13 Rows.treeBuildsRow.domain false) (Rows.treeBuildsSpec.post enc Try.prog Try.f13 false true false false) := by
  refine returnsInHanded_of_change_sized (C := Try.checked) try_own started (by kernel_rfl) Try.func13
    (ChangeSpec.witness6 (enc := enc) (C := Try.checked) false ⟨#[], #[.int .u8 0, .int .i64 0, .slice none 0 0], []⟩ 8 (by kernel_rfl) (by kernel_rfl) (by kernel_rfl) (by kernel_rfl)) ?_
  intro W base args ds gs before hval0 hW _ hsz0 _
  have hval : ∀ (j : Nat) t v, Try.f13.params[j]? = some t → args[j]? = some v → Value.okWide Try.prog W .any base t v := hval0
  have hsz : (DataW.weightsEach Try.prog (Try.f13.params.toList ++ Rows.treeBuildsSpec.plain.varTypes Try.prog) (ds ++ gs)).all (· ≤ reachBytes) = true := hsz0
  have hW' := hW
  obtain ⟨p, q, hA0, hV, rfl, hfz, hnd⟩ := hW
  have hA : DataW.TrodAll enc Try.prog W 0 (fun _ => true) true Try.f13.params.toList args.toList ds p := hA0
  rw [Try.params13] at hA hval hsz
  obtain ⟨v0, vs0, d0, ds0, p0, q0, hargs, rfl, rfl, h0, r0⟩ := trodAll_cons hA
  obtain ⟨v1, vs1, d1, ds1, p1, q1, rfl, rfl, rfl, h1, r1⟩ := trodAll_cons r0
  obtain ⟨v2, vs2, d2, ds2, p2, q2, rfl, rfl, rfl, h2, r2⟩ := trodAll_cons r1
  obtain ⟨rfl, rfl, rfl⟩ := trodAll_nil r2
  obtain rfl : args = #[v0, v1, v2] := by cases args; simp_all
  obtain ⟨rfl, rfl⟩ := trodVars_none hV
  obtain ⟨a0, rfl, rfl, rfl, w0⟩ := open_int Try.underlying5 (hval 0 5 v0 rfl rfl) h0
  have bd0 := bounds_u8 w0
  obtain ⟨k0, rfl⟩ : ∃ k : UInt8, a0 = (k.toNat : Int) := ⟨UInt8.ofNat a0.toNat, by simp; omega⟩
  obtain ⟨a1, rfl, rfl, rfl, w1⟩ := open_int Try.underlying3 (hval 1 3 v1 rfl rfl) h1
  have bd1 := bounds_i64 w1
  have k2 := h2
  have lt2 : ∀ x ∈ p2, x.block < W.heap.size := by obtain ⟨m, hm⟩ := k2; exact DataW.trod_lt m _ _ _ hm
  obtain ⟨A2, n2, c2, l2, hv2, r82, nc2, bnd2, hd2⟩ := openK h2 (hval 2 84 v2 rfl rfl)
  subst hv2
  have b2 : n2 ≤ 5864062014805 := by
    rcases hd2 with h0 | ⟨es, sp, hd, hl⟩
    · omega
    · have := sized_slice hsz (j := 2) (t := 84) (e := 113) rfl (by rw [← hd]; rfl) Try.underlying84
      rw [try_bytes113, hl] at this
      simp only [reachBytes] at this
      omega
  clear hA0 hval0 hsz0
  refine (treeBuilds13 k0 a1 A2 n2 c2 l2 W r82 b2 bd1.1 bd1.2 (fun p hp => (bnd2 p hp).1)).mono fun e W' ⟨he, bel⟩ => ?_
  subst he
  exact ⟨_, rfl, _, _, _, [], _, [], hW', trodAll_mk1 (shut_bool Try.underlying4 _), (trodAll_cons_mk (shut_int Try.underlying5 w0) (trodAll_cons_mk (shut_int Try.underlying3 w1) (trodAll_cons_mk (Below.trod try_laidOut (by kernel_rfl) (of_decide_eq_true (by kernel_rfl)) k2 bel lt2) trodAll_mk0))), rfl, bel.frame _, fun h => by cases h⟩

theorem over : Rows.treeBuildsRow.holds Try.pinned (OpenSpec.ofChange Rows.treeBuildsSpec) :=
  OpenClaim.holds_of_wide 13 Try.f13 rfl rfl rfl rfl rfl rfl rfl ⟨rfl, rfl, rfl, rfl, rfl⟩ rfl rfl rfl rfl rfl (by kernel_rfl) Try.func13 (by kernel_rfl)
    (of_decide_eq_true (by kernel_rfl)) (by unfold Func.isWrapper; first | (rw [if_pos (by decide +kernel)]; kernel_rfl) | (rw [if_neg (by decide +kernel)]; exact ⟨rfl, rfl⟩))
    (fun os started H enc _ => lifted os started H enc)
end Go.Proofs.Ytkgdcglnkodgnaa.treeBuilds
namespace Go.Proofs.Ytkgdcglnkodgnaa
theorem treeBuilds_holds : Rows.TreeBuildsSaid := treeBuilds.over
#print axioms treeBuilds_holds
end Go.Proofs.Ytkgdcglnkodgnaa
