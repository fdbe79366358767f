/-
  A block of memory that is known whole: its cells, one store into it, and worlds that differ from another one in that block and in new blocks alone.
-/
import Derived.Test.YtmobcljinfoacaaDoorPk00
namespace Go.Proofs.YtmobcljinfoacaaDoor
open Go.RowKit

section
variable {w : World} {g : Nat} {c : Array Value}
set_option maxRecDepth 3000 in
theorem Blk.inHeap (h : blk w g = c) (hc : 0 < c.size) : InHeap g w := by
  obtain ⟨t, ht⟩ := blk_some w g (by rw [h]; exact hc)
  exact (Array.getElem?_eq_some_iff.1 ht).1
set_option maxRecDepth 3000 in
theorem Blk.cell (h : blk w g = c) (hc : 0 < c.size) (i : Nat) : w.cell? ⟨g, i, none⟩ = c[i]? := by
  obtain ⟨t, ht⟩ := blk_some w g (by rw [h]; exact hc)
  rw [cell_of_row w g i _ t _ ht, h]
set_option maxRecDepth 3000 in
theorem Blk.free (h : blk w g = c) (hc : 0 < c.size) (i : Nat) : w.frozen? ⟨g, i, none⟩ = false := by
  obtain ⟨t, ht⟩ := blk_some w g (by rw [h]; exact hc)
  exact frozen_of_row w g i _ t ht
set_option maxRecDepth 3000 in
theorem Blk.set (h : blk w g = c) (hc : 0 < c.size) (i : Nat) (v : Value) : w.setCell ⟨g, i, none⟩ v = setBlk w g (c.setIfInBounds i v) := by
  obtain ⟨t, ht⟩ := blk_some w g (by rw [h]; exact hc)
  rw [setCell_eq_setRow w g i _ t _ v ht, h]
  rfl
set_option maxRecDepth 3000 in
theorem Blk.get (c' : Array Value) (h : blk w g = c) (hc : 0 < c.size) : blk (setBlk w g c') g = c' := by
  obtain ⟨t, ht⟩ := blk_some w g (by rw [h]; exact hc)
  unfold blk setBlk
  rw [setRow_heap w g _ c' t _ ht]
  rfl
set_option maxRecDepth 3000 in
theorem Blk.set_set (a b : Array Value) : setBlk (setBlk w g a) g b = setBlk w g b := setRow_setRow w g a b
set_option maxRecDepth 3000 in
theorem Blk.same (h : blk w g = c) (hc : 0 < c.size) : setBlk w g c = w := by
  obtain ⟨t, ht⟩ := blk_some w g (by rw [h]; exact hc)
  rw [h] at ht
  have hlt : g < w.heap.size := (Array.getElem?_eq_some_iff.1 ht).1
  unfold setBlk World.setRow
  cases w with
  | mk hp tp dr os ou =>
    congr 1
    apply Array.ext_getElem?
    intro i
    rw [Array.getElem?_modify]
    split
    · rename_i e
      subst e
      simp only at ht
      rw [ht]
      rfl
    · rfl
set_option maxRecDepth 3000 in
theorem inHeap_setBlk (k : Nat) : InHeap k (setBlk w g c) ↔ InHeap k w := by unfold InHeap setBlk; simp
set_option maxRecDepth 3000 in
@[go_sem] theorem inHeap_setBlk' (w : World) (g k : Nat) (c : Array Value) : InHeap k (setBlk w g c) ↔ InHeap k w := inHeap_setBlk k
set_option maxRecDepth 3000 in
theorem blk_setBlk_other (w : World) (g k : Nat) (c : Array Value) (h : k ≠ g) : blk (setBlk w g c) k = blk w k := by
  unfold blk setBlk; rw [setRow_other w g k c h]
set_option maxRecDepth 3000 in
theorem cell_setBlk_other (w : World) (g : Nat) (c : Array Value) (a : Addr) (h : a.block ≠ g) : (setBlk w g c).cell? a = w.cell? a := cell_setRow_other w g c a h
end
set_option maxRecDepth 3000 in
@[simp, go_sem] theorem size_setBlk (w : World) (g : Nat) (c : Array Value) : (setBlk w g c).heap.size = w.heap.size := by simp [setBlk]

/-- w' is w but for block g, whose cells are c now, and for new blocks. -/
def Turned (w : World) (g : Nat) (c : Array Value) (w' : World) : Prop := ∃ m, w' = more (setBlk w g c) m
set_option maxRecDepth 3000 in
theorem Turned.mk (w : World) (g : Nat) (c : Array Value) (m : More) : Turned w g c (more (setBlk w g c) m) := ⟨m, rfl⟩
section
variable {w w' w'' : World} {g : Nat} {c c' : Array Value}
set_option maxRecDepth 3000 in
theorem Turned.refl (h : blk w g = c) (hc : 0 < c.size) : Turned w g c w := ⟨_, by rw [Blk.same h hc]; exact more_self w⟩
set_option maxRecDepth 3000 in
theorem Turned.drew (h : Turned w g c w') : Turned w g c w'.drew := by
  obtain ⟨m, rfl⟩ := h; exact ⟨_, drew_more _ _⟩
set_option maxRecDepth 3000 in
theorem Turned.drewN (h : Turned w g c w') (n : Nat) : Turned w g c (w'.drewN n) := by
  obtain ⟨m, rfl⟩ := h; exact ⟨_, drewN_more _ _ _⟩
set_option maxRecDepth 3000 in
theorem Turned.alloc (h : Turned w g c w') (o : Obj) : Turned w g c (w'.alloc o) := by
  obtain ⟨m, rfl⟩ := h
  exact ⟨⟨m.1.push o, m.2⟩, by simp [Go.Proofs.YtmobcljinfoacaaDoor.more, World.alloc]⟩
set_option maxRecDepth 3000 in
theorem Turned.more (h : Turned w g c w') (m : More) : Turned w g c (more w' m) := by
  obtain ⟨k, rfl⟩ := h; exact ⟨_, more_more _ _ _⟩
set_option maxRecDepth 3000 in
theorem Turned.grows (h : Turned w g c w') (k : Grows w' w'') : Turned w g c w'' := by
  obtain ⟨m, rfl⟩ := k; exact h.more m
set_option maxRecDepth 3000 in
theorem Turned.inHeap (h : Turned w g c w') (k : Nat) (hk : InHeap k w) : InHeap k w' := by
  obtain ⟨m, rfl⟩ := h
  rw [inHeap_more]
  exact .inl ((inHeap_setBlk k).2 hk)
set_option maxRecDepth 3000 in
theorem Turned.blk (h : Turned w g c w') {o : Array Value} (hb : blk w g = o) (ho : 0 < o.size) : blk w' g = c := by
  obtain ⟨m, rfl⟩ := h
  rw [blk_more _ _ _ ((inHeap_setBlk g).2 (Blk.inHeap hb ho)), Blk.get c hb ho]
set_option maxRecDepth 3000 in
theorem Turned.trans (h : Turned w g c w') (k : Turned w' g c' w'') {o : Array Value} (hb : Go.Proofs.YtmobcljinfoacaaDoor.blk w g = o) (ho : 0 < o.size) : Turned w g c' w'' := by
  obtain ⟨m, rfl⟩ := h
  obtain ⟨n, rfl⟩ := k
  rw [setBlk_more _ _ _ _ ((inHeap_setBlk g).2 (Blk.inHeap hb ho)), Blk.set_set]
  exact ⟨_, more_more _ _ _⟩
set_option maxRecDepth 3000 in
theorem Turned.setCell (h : Turned w g c w') {o : Array Value} (hb : Go.Proofs.YtmobcljinfoacaaDoor.blk w g = o) (ho : 0 < o.size) (hc : 0 < c.size) (i : Nat) (v : Value) : Turned w g (c.setIfInBounds i v) (w'.setCell ⟨g, i, none⟩ v) := by
  have hb' := h.blk hb ho
  rw [Blk.set hb' hc]
  obtain ⟨m, rfl⟩ := h
  rw [setBlk_more _ _ _ _ ((inHeap_setBlk g).2 (Blk.inHeap hb ho)), Blk.set_set]
  exact ⟨_, rfl⟩
set_option maxRecDepth 3000 in
theorem Turned.to (h : Turned w g c w') (e : c = c') : Turned w g c' w' := e ▸ h
end
set_option maxRecDepth 3000 in
theorem setBlk_comm (w : World) (g h : Nat) (c d : Array Value) (hne : g ≠ h) : setBlk (setBlk w g c) h d = setBlk (setBlk w h d) g c := by
  unfold setBlk World.setRow
  congr 1
  apply Array.ext_getElem?
  intro j
  simp only [Array.getElem?_modify]
  by_cases h1 : g = j
  · subst h1; simp [Ne.symm hne]
  · by_cases h2 : h = j
    · subst h2; simp [h1]
    · simp [h1, h2]
/-- w' is w but for the blocks g and h, and for new blocks. -/
def Turned2 (w : World) (g : Nat) (c : Array Value) (h : Nat) (d : Array Value) (w' : World) : Prop := ∃ m, w' = more (setBlk (setBlk w g c) h d) m
section
variable {w w' w'' : World} {g h : Nat} {c d c' d' o p : Array Value}
set_option maxRecDepth 3000 in
theorem Turned2.refl (hb : blk w g = c) (hc : 0 < c.size) (hd : blk w h = d) (hz : 0 < d.size) : Turned2 w g c h d w := ⟨_, by rw [Blk.same hb hc, Blk.same hd hz]; exact more_self w⟩
set_option maxRecDepth 3000 in
theorem Turned2.blk2 (T : Turned2 w g c h d w') (hne : g ≠ h) (hd : blk w h = p) (hz : 0 < p.size) : blk w' h = d := by
  obtain ⟨m, rfl⟩ := T
  have hd' : blk (setBlk w g c) h = p := by rw [blk_setBlk_other _ _ _ _ hne.symm, hd]
  rw [blk_more _ _ _ ((inHeap_setBlk h).2 (Blk.inHeap hd' hz)), Blk.get d hd' hz]
set_option maxRecDepth 3000 in
theorem Turned2.swap (T : Turned2 w g c h d w') (hne : g ≠ h) : Turned2 w h d g c w' := by
  obtain ⟨m, rfl⟩ := T
  exact ⟨m, by rw [setBlk_comm _ _ _ _ _ hne]⟩
set_option maxRecDepth 3000 in
theorem Turned2.blk1 (T : Turned2 w g c h d w') (hne : g ≠ h) (hb : blk w g = o) (hc : 0 < o.size) : blk w' g = c := (T.swap hne).blk2 hne.symm hb hc
set_option maxRecDepth 3000 in
theorem Turned2.turn2 (T : Turned2 w g c h d w') (K : Turned w' h d' w'') (hne : g ≠ h) (hd : blk w h = p) (hz : 0 < p.size) : Turned2 w g c h d' w'' := by
  obtain ⟨m, rfl⟩ := T
  obtain ⟨n, rfl⟩ := K
  have hd' : blk (setBlk w g c) h = p := by rw [blk_setBlk_other _ _ _ _ hne.symm, hd]
  rw [setBlk_more _ _ _ _ ((inHeap_setBlk h).2 (Blk.inHeap hd' hz)), Blk.set_set]
  exact ⟨_, more_more _ _ _⟩
set_option maxRecDepth 3000 in
theorem Turned2.turn1 (T : Turned2 w g c h d w') (K : Turned w' g c' w'') (hne : g ≠ h) (hb : blk w g = o) (hc : 0 < o.size) : Turned2 w g c' h d w'' :=
  ((T.swap hne).turn2 K hne.symm hb hc).swap hne.symm
set_option maxRecDepth 3000 in
theorem Turned2.set2 (T : Turned2 w g c h d w') (hne : g ≠ h) (hd : blk w h = p) (hz : 0 < p.size) (hdz : 0 < d.size) (i : Nat) (v : Value) : Turned2 w g c h (d.setIfInBounds i v) (w'.setCell ⟨h, i, none⟩ v) :=
  T.turn2 ((Turned.refl (T.blk2 hne hd hz) hdz).setCell (T.blk2 hne hd hz) hdz hdz i v) hne hd hz
set_option maxRecDepth 3000 in
theorem Turned2.both (T : Turned2 w g c h d w') (K : Turned2 w' g c' h d' w'') (hne : g ≠ h) (hb : blk w g = o) (hc : 0 < o.size) (hd : blk w h = p) (hz : 0 < p.size) : Turned2 w g c' h d' w'' := by
  obtain ⟨m, rfl⟩ := T
  obtain ⟨n, rfl⟩ := K
  have i1 : InHeap g (setBlk (setBlk w g c) h d) := (inHeap_setBlk g).2 ((inHeap_setBlk g).2 (Blk.inHeap hb hc))
  have i2 : InHeap h (setBlk (setBlk (setBlk w g c) h d) g c') := (inHeap_setBlk h).2 ((inHeap_setBlk h).2 ((inHeap_setBlk h).2 (Blk.inHeap hd hz)))
  rw [setBlk_more _ _ _ _ i1, setBlk_more _ _ _ _ i2, setBlk_comm (setBlk w g c) h g d c' hne.symm, Blk.set_set, Blk.set_set]
  exact ⟨_, more_more _ _ _⟩
set_option maxRecDepth 3000 in
theorem Turned2.drewN (T : Turned2 w g c h d w') (n : Nat) : Turned2 w g c h d (w'.drewN n) := by
  obtain ⟨m, rfl⟩ := T; exact ⟨_, drewN_more _ _ _⟩
set_option maxRecDepth 3000 in
theorem Turned2.to (T : Turned2 w g c h d w') (e : c = c') (e' : d = d') : Turned2 w g c' h d' w' := e ▸ e' ▸ T
end
end Go.Proofs.YtmobcljinfoacaaDoor
