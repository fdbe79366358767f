/-
  Several texts of the proof: Blk, Cls.
-/
import Derived.Test.YtnjagecmhdagkaaDoorPk00
import Derived.Test.YtnjagecmhdagkaaDoorPk01
set_option linter.unusedSimpArgs false
set_option linter.unusedVariables false
/-
  A block of memory that is known whole: its cells, one store into it, and worlds that differ from another one in that block and in new blocks alone.
-/
namespace Go.Proofs.YtnjagecmhdagkaaDoor
open Go.RowKit

section
variable {w : World} {g : Nat} {c : Array Value}
set_option maxRecDepth 3000 in
theorem Blk.inHeap (h : blk w g = c) (hc : 0 < c.size) : InHeap g w := by
  obtain ⟨t, ht⟩ := blk_some w g (by rw [h]; exact hc)
  exact (Array.getElem?_eq_some_iff.1 ht).1
set_option maxRecDepth 3000 in
theorem Blk.cell (h : blk w g = c) (hc : 0 < c.size) (i : Nat) : w.cell? ⟨g, i, none⟩ = c[i]? := by
  obtain ⟨t, ht⟩ := blk_some w g (by rw [h]; exact hc)
  rw [cell_of_row w g i _ t _ ht, h]
set_option maxRecDepth 3000 in
theorem Blk.free (h : blk w g = c) (hc : 0 < c.size) (i : Nat) : w.frozen? ⟨g, i, none⟩ = false := by
  obtain ⟨t, ht⟩ := blk_some w g (by rw [h]; exact hc)
  exact frozen_of_row w g i _ t ht
set_option maxRecDepth 3000 in
theorem Blk.set (h : blk w g = c) (hc : 0 < c.size) (i : Nat) (v : Value) : w.setCell ⟨g, i, none⟩ v = setBlk w g (c.setIfInBounds i v) := by
  obtain ⟨t, ht⟩ := blk_some w g (by rw [h]; exact hc)
  rw [setCell_eq_setRow w g i _ t _ v ht, h]
  rfl
set_option maxRecDepth 3000 in
theorem Blk.get (c' : Array Value) (h : blk w g = c) (hc : 0 < c.size) : blk (setBlk w g c') g = c' := by
  obtain ⟨t, ht⟩ := blk_some w g (by rw [h]; exact hc)
  unfold blk setBlk
  rw [setRow_heap w g _ c' t _ ht]
  rfl
set_option maxRecDepth 3000 in
theorem Blk.set_set (a b : Array Value) : setBlk (setBlk w g a) g b = setBlk w g b := setRow_setRow w g a b
set_option maxRecDepth 3000 in
theorem Blk.same (h : blk w g = c) (hc : 0 < c.size) : setBlk w g c = w := by
  obtain ⟨t, ht⟩ := blk_some w g (by rw [h]; exact hc)
  rw [h] at ht
  have hlt : g < w.heap.size := (Array.getElem?_eq_some_iff.1 ht).1
  unfold setBlk World.setRow
  cases w with
  | mk hp tp dr os ou =>
    congr 1
    apply Array.ext_getElem?
    intro i
    rw [Array.getElem?_modify]
    split
    · rename_i e
      subst e
      simp only at ht
      rw [ht]
      rfl
    · rfl
set_option maxRecDepth 3000 in
theorem inHeap_setBlk (k : Nat) : InHeap k (setBlk w g c) ↔ InHeap k w := by unfold InHeap setBlk; simp
set_option maxRecDepth 3000 in
@[go_sem] theorem inHeap_setBlk' (w : World) (g k : Nat) (c : Array Value) : InHeap k (setBlk w g c) ↔ InHeap k w := inHeap_setBlk k
set_option maxRecDepth 3000 in
theorem blk_setBlk_other (w : World) (g k : Nat) (c : Array Value) (h : k ≠ g) : blk (setBlk w g c) k = blk w k := by
  unfold blk setBlk; rw [setRow_other w g k c h]
set_option maxRecDepth 3000 in
theorem cell_setBlk_other (w : World) (g : Nat) (c : Array Value) (a : Addr) (h : a.block ≠ g) : (setBlk w g c).cell? a = w.cell? a := cell_setRow_other w g c a h
end
set_option maxRecDepth 3000 in
@[simp, go_sem] theorem size_setBlk (w : World) (g : Nat) (c : Array Value) : (setBlk w g c).heap.size = w.heap.size := by simp [setBlk]

/-- w' is w but for block g, whose cells are c now, and for new blocks. -/
def Turned (w : World) (g : Nat) (c : Array Value) (w' : World) : Prop := ∃ m, w' = more (setBlk w g c) m
set_option maxRecDepth 3000 in
theorem Turned.mk (w : World) (g : Nat) (c : Array Value) (m : More) : Turned w g c (more (setBlk w g c) m) := ⟨m, rfl⟩
section
variable {w w' w'' : World} {g : Nat} {c c' : Array Value}
set_option maxRecDepth 3000 in
theorem Turned.refl (h : blk w g = c) (hc : 0 < c.size) : Turned w g c w := ⟨_, by rw [Blk.same h hc]; exact more_self w⟩
set_option maxRecDepth 3000 in
theorem Turned.drew (h : Turned w g c w') : Turned w g c w'.drew := by
  obtain ⟨m, rfl⟩ := h; exact ⟨_, drew_more _ _⟩
set_option maxRecDepth 3000 in
theorem Turned.drewN (h : Turned w g c w') (n : Nat) : Turned w g c (w'.drewN n) := by
  obtain ⟨m, rfl⟩ := h; exact ⟨_, drewN_more _ _ _⟩
set_option maxRecDepth 3000 in
theorem Turned.alloc (h : Turned w g c w') (o : Obj) : Turned w g c (w'.alloc o) := by
  obtain ⟨m, rfl⟩ := h
  exact ⟨⟨m.1.push o, m.2⟩, by simp [Go.Proofs.YtnjagecmhdagkaaDoor.more, World.alloc]⟩
set_option maxRecDepth 3000 in
theorem Turned.more (h : Turned w g c w') (m : More) : Turned w g c (more w' m) := by
  obtain ⟨k, rfl⟩ := h; exact ⟨_, more_more _ _ _⟩
set_option maxRecDepth 3000 in
theorem Turned.grows (h : Turned w g c w') (k : Grows w' w'') : Turned w g c w'' := by
  obtain ⟨m, rfl⟩ := k; exact h.more m
set_option maxRecDepth 3000 in
theorem Turned.inHeap (h : Turned w g c w') (k : Nat) (hk : InHeap k w) : InHeap k w' := by
  obtain ⟨m, rfl⟩ := h
  rw [inHeap_more]
  exact .inl ((inHeap_setBlk k).2 hk)
set_option maxRecDepth 3000 in
theorem Turned.blk (h : Turned w g c w') {o : Array Value} (hb : blk w g = o) (ho : 0 < o.size) : blk w' g = c := by
  obtain ⟨m, rfl⟩ := h
  rw [blk_more _ _ _ ((inHeap_setBlk g).2 (Blk.inHeap hb ho)), Blk.get c hb ho]
set_option maxRecDepth 3000 in
theorem Turned.trans (h : Turned w g c w') (k : Turned w' g c' w'') {o : Array Value} (hb : Go.Proofs.YtnjagecmhdagkaaDoor.blk w g = o) (ho : 0 < o.size) : Turned w g c' w'' := by
  obtain ⟨m, rfl⟩ := h
  obtain ⟨n, rfl⟩ := k
  rw [setBlk_more _ _ _ _ ((inHeap_setBlk g).2 (Blk.inHeap hb ho)), Blk.set_set]
  exact ⟨_, more_more _ _ _⟩
set_option maxRecDepth 3000 in
theorem Turned.setCell (h : Turned w g c w') {o : Array Value} (hb : Go.Proofs.YtnjagecmhdagkaaDoor.blk w g = o) (ho : 0 < o.size) (hc : 0 < c.size) (i : Nat) (v : Value) : Turned w g (c.setIfInBounds i v) (w'.setCell ⟨g, i, none⟩ v) := by
  have hb' := h.blk hb ho
  rw [Blk.set hb' hc]
  obtain ⟨m, rfl⟩ := h
  rw [setBlk_more _ _ _ _ ((inHeap_setBlk g).2 (Blk.inHeap hb ho)), Blk.set_set]
  exact ⟨_, rfl⟩
set_option maxRecDepth 3000 in
theorem Turned.to (h : Turned w g c w') (e : c = c') : Turned w g c' w' := e ▸ h
end
set_option maxRecDepth 3000 in
theorem setBlk_comm (w : World) (g h : Nat) (c d : Array Value) (hne : g ≠ h) : setBlk (setBlk w g c) h d = setBlk (setBlk w h d) g c := by
  unfold setBlk World.setRow
  congr 1
  apply Array.ext_getElem?
  intro j
  simp only [Array.getElem?_modify]
  by_cases h1 : g = j
  · subst h1; simp [Ne.symm hne]
  · by_cases h2 : h = j
    · subst h2; simp [h1]
    · simp [h1, h2]
/-- w' is w but for the blocks g and h, and for new blocks. -/
def Turned2 (w : World) (g : Nat) (c : Array Value) (h : Nat) (d : Array Value) (w' : World) : Prop := ∃ m, w' = more (setBlk (setBlk w g c) h d) m
section
variable {w w' w'' : World} {g h : Nat} {c d c' d' o p : Array Value}
set_option maxRecDepth 3000 in
theorem Turned2.refl (hb : blk w g = c) (hc : 0 < c.size) (hd : blk w h = d) (hz : 0 < d.size) : Turned2 w g c h d w := ⟨_, by rw [Blk.same hb hc, Blk.same hd hz]; exact more_self w⟩
set_option maxRecDepth 3000 in
theorem Turned2.blk2 (T : Turned2 w g c h d w') (hne : g ≠ h) (hd : blk w h = p) (hz : 0 < p.size) : blk w' h = d := by
  obtain ⟨m, rfl⟩ := T
  have hd' : blk (setBlk w g c) h = p := by rw [blk_setBlk_other _ _ _ _ hne.symm, hd]
  rw [blk_more _ _ _ ((inHeap_setBlk h).2 (Blk.inHeap hd' hz)), Blk.get d hd' hz]
set_option maxRecDepth 3000 in
theorem Turned2.swap (T : Turned2 w g c h d w') (hne : g ≠ h) : Turned2 w h d g c w' := by
  obtain ⟨m, rfl⟩ := T
  exact ⟨m, by rw [setBlk_comm _ _ _ _ _ hne]⟩
set_option maxRecDepth 3000 in
theorem Turned2.blk1 (T : Turned2 w g c h d w') (hne : g ≠ h) (hb : blk w g = o) (hc : 0 < o.size) : blk w' g = c := (T.swap hne).blk2 hne.symm hb hc
set_option maxRecDepth 3000 in
theorem Turned2.turn2 (T : Turned2 w g c h d w') (K : Turned w' h d' w'') (hne : g ≠ h) (hd : blk w h = p) (hz : 0 < p.size) : Turned2 w g c h d' w'' := by
  obtain ⟨m, rfl⟩ := T
  obtain ⟨n, rfl⟩ := K
  have hd' : blk (setBlk w g c) h = p := by rw [blk_setBlk_other _ _ _ _ hne.symm, hd]
  rw [setBlk_more _ _ _ _ ((inHeap_setBlk h).2 (Blk.inHeap hd' hz)), Blk.set_set]
  exact ⟨_, more_more _ _ _⟩
set_option maxRecDepth 3000 in
theorem Turned2.turn1 (T : Turned2 w g c h d w') (K : Turned w' g c' w'') (hne : g ≠ h) (hb : blk w g = o) (hc : 0 < o.size) : Turned2 w g c' h d w'' :=
  ((T.swap hne).turn2 K hne.symm hb hc).swap hne.symm
set_option maxRecDepth 3000 in
theorem Turned2.set2 (T : Turned2 w g c h d w') (hne : g ≠ h) (hd : blk w h = p) (hz : 0 < p.size) (hdz : 0 < d.size) (i : Nat) (v : Value) : Turned2 w g c h (d.setIfInBounds i v) (w'.setCell ⟨h, i, none⟩ v) :=
  T.turn2 ((Turned.refl (T.blk2 hne hd hz) hdz).setCell (T.blk2 hne hd hz) hdz hdz i v) hne hd hz
set_option maxRecDepth 3000 in
theorem Turned2.both (T : Turned2 w g c h d w') (K : Turned2 w' g c' h d' w'') (hne : g ≠ h) (hb : blk w g = o) (hc : 0 < o.size) (hd : blk w h = p) (hz : 0 < p.size) : Turned2 w g c' h d' w'' := by
  obtain ⟨m, rfl⟩ := T
  obtain ⟨n, rfl⟩ := K
  have i1 : InHeap g (setBlk (setBlk w g c) h d) := (inHeap_setBlk g).2 ((inHeap_setBlk g).2 (Blk.inHeap hb hc))
  have i2 : InHeap h (setBlk (setBlk (setBlk w g c) h d) g c') := (inHeap_setBlk h).2 ((inHeap_setBlk h).2 ((inHeap_setBlk h).2 (Blk.inHeap hd hz)))
  rw [setBlk_more _ _ _ _ i1, setBlk_more _ _ _ _ i2, setBlk_comm (setBlk w g c) h g d c' hne.symm, Blk.set_set, Blk.set_set]
  exact ⟨_, more_more _ _ _⟩
set_option maxRecDepth 3000 in
theorem Turned2.drewN (T : Turned2 w g c h d w') (n : Nat) : Turned2 w g c h d (w'.drewN n) := by
  obtain ⟨m, rfl⟩ := T; exact ⟨_, drewN_more _ _ _⟩
set_option maxRecDepth 3000 in
theorem Turned2.to (T : Turned2 w g c h d w') (e : c = c') (e' : d = d') : Turned2 w g c' h d' w' := e ▸ e' ▸ T
end
end Go.Proofs.YtnjagecmhdagkaaDoor

/-
  Classes: functions of a byte as values; span, some.
-/
namespace Go.Proofs.YtnjagecmhdagkaaDoor
open Go.RowKit

/-- A function of the program, entered. -/
def Enters (f : FuncId) : Prop := ∀ (args : Array Value) (w : World), (callFunc f args).run Tryd.prog w = .ok (.enter f args) w
set_option maxRecDepth 3000 in
theorem enters_of {f : FuncId} {fn : Func} (hf : Tryd.prog.funcs[f]? = some fn) (hn : (fn.name == "runtime.NumGoroutine") = false) (hb : fn.body.isNone = false) : Enters f := by
  intro args w
  have h1 : fn.name ≠ "runtime.NumGoroutine" := by simpa using hn
  have h2 : fn.body ≠ none := by intro h; rw [h] at hb; cases hb
  simp [callFunc, hf, h1, h2]
/-- What cells lie in w from block lo on lie in w' too. -/
def Ext (lo : Nat) (w w' : World) : Prop := ∀ b c t f, lo ≤ b → w.heap[b]? = some (.cells c t f) → w'.heap[b]? = some (.cells c t f)
set_option maxRecDepth 3000 in
theorem Ext.refl (lo : Nat) (w : World) : Ext lo w w := fun _ _ _ _ _ h => h
set_option maxRecDepth 3000 in
theorem Ext.trans {lo : Nat} {a b c : World} (h : Ext lo a b) (k : Ext lo b c) : Ext lo a c := fun x y z u hl hx => k x y z u hl (h x y z u hl hx)
set_option maxRecDepth 3000 in
theorem Grows.ext {w w' : World} (h : Grows w w') (lo : Nat) : Ext lo w w' := fun b c t f _ hb => by
  obtain ⟨m, rfl⟩ := h
  rw [heap_more _ _ _ (Array.getElem?_eq_some_iff.1 hb).1]; exact hb
set_option maxRecDepth 3000 in
theorem Ext.mono {lo lo' : Nat} {w w' : World} (h : Ext lo w w') (hl : lo ≤ lo') : Ext lo' w w' := fun b c t f hb => h b c t f (by omega)
set_option maxRecDepth 3000 in
theorem Ext.cell {lo : Nat} {w w' : World} (h : Ext lo w w') {b i : Nat} {v : Value} (hb : lo ≤ b) (hc : w.cell? ⟨b, i, none⟩ = some v) : w'.cell? ⟨b, i, none⟩ = some v := by
  cases hh : w.heap[b]? with
  | none => simp [World.cell?, hh] at hc
  | some o =>
    cases o with
    | cells c t f =>
      have h2 := h b c t f hb hh
      rw [World.cell?_of_block (a := ⟨b, i, none⟩) (h2.trans hh.symm)]
      exact hc
    | _ => simp [World.cell?, hh] at hc
/-- v is a function of a byte that tells p, in whatever world that has what lies in w from block lo on; it only looks. -/
def Tells (lo : Nat) (w : World) (v : Value) (p : Int → Bool) : Prop :=
  ∃ (f : FuncId) (caps : Array Value), v = .func (.func f) #[] caps ∧ Enters f ∧ ∀ w' c, Ext lo w w' → 0 ≤ c → c ≤ 255 → Calls Tryd.prog f (#[.int .u8 c] ++ caps) w' fun e w'' => e = .returned (.bool (p c)) ∧ w' = w''
set_option maxRecDepth 3000 in
theorem Tells.ext {lo : Nat} {w w' : World} {v : Value} {p : Int → Bool} (h : Tells lo w v p) (hg : Ext lo w w') : Tells lo w' v p := by
  obtain ⟨f, caps, hv, he, hc⟩ := h
  exact ⟨f, caps, hv, he, fun w'' c hg' => hc w'' c (hg.trans hg')⟩
set_option maxRecDepth 3000 in
theorem Tells.grows {lo : Nat} {w w' : World} {v : Value} {p : Int → Bool} (h : Tells lo w v p) (hg : Grows w w') : Tells lo w' v p := h.ext (hg.ext lo)
set_option maxRecDepth 3000 in
theorem Tells.mono {lo lo' : Nat} {w : World} {v : Value} {p : Int → Bool} (h : Tells lo w v p) (hl : lo' ≤ lo) : Tells lo' w v p := by
  obtain ⟨f, caps, hv, he, hc⟩ := h
  exact ⟨f, caps, hv, he, fun w' c hg => hc w' c (hg.mono hl)⟩
set_option maxRecDepth 3000 in
theorem Tells.form {lo : Nat} {w : World} {v : Value} {p : Int → Bool} (h : Tells lo w v p) : ∃ f k, v = .func (.func f) #[] k := by
  obtain ⟨f, k, h, _⟩ := h
  exact ⟨f, k, h⟩
/-- From one byte up to another one. -/
def spanP (a b : Int) (c : Int) : Bool := decide (a ≤ c) && decide (c ≤ b)

set_option maxRecDepth 3000 in
theorem span1_any (a b c : Int) (g h : Nat) (w : World) (ha : w.cell? ⟨g, 0, none⟩ = some (.int .u8 a)) (hb : w.cell? ⟨h, 0, none⟩ = some (.int .u8 b)) :
    Calls Tryd.prog 89 #[.int .u8 c, .pointer (some ⟨g, 0, none⟩), .pointer (some ⟨h, 0, none⟩)] w fun e w' => e = .returned (.bool (spanP a b c)) ∧ w = w' := by
  by_cases h1 : a ≤ c
  · have d1 : decide (a ≤ c) = true := by simpa using h1
    go_enter Tryd.func89, Tryd.ntmps89
    go_wp2_with fail
    go_ret
    exact ⟨by simp [spanP, h1], rfl⟩
  · have d1 : decide (a ≤ c) = false := by simpa using h1
    go_enter Tryd.func89, Tryd.ntmps89
    go_wp2_with fail
    go_ret
    exact ⟨by simp [spanP, d1], rfl⟩
/-- A new function value. -/
def NewTell (p : Int → Bool) (w : World) (e : Ending) (w' : World) : Prop := ∃ v, e = .returned v ∧ Tells w.heap.size w' v p ∧ Grows w w'
set_option maxRecDepth 3000 in
theorem span_any (a b : Int) (w : World) : Calls Tryd.prog 80 #[.int .u8 a, .int .u8 b] w (NewTell (spanP a b) w) := by
  go_enter Tryd.func80, Tryd.ntmps80
  go_wp2_with fail
  go_ret
  have hg : Grows w ((w.alloc (.cells #[.int .u8 a] 5)).alloc (.cells #[.int .u8 b] 5)) := ((Grows.refl _).alloc _).alloc _
  refine ⟨_, rfl, ⟨_, _, rfl, enters_of Tryd.func89 (by kernel_rfl) (by kernel_rfl), fun w' c hw _ _ => ?_⟩, hg⟩
  exact span1_any a b c _ _ w' (hw.cell (Nat.le_refl _) (by simp [go_sem])) (hw.cell (Nat.le_succ _) (by simp [go_sem]))

/-- Each of several values tells its own. -/
def TellAll (lo : Nat) (w : World) (vs : List Value) (ps : List (Int → Bool)) : Prop := vs.length = ps.length ∧ ∀ (i : Nat) v p, vs[i]? = some v → ps[i]? = some p → Tells lo w v p
set_option maxRecDepth 3000 in
theorem TellAll.ext {lo : Nat} {w w' : World} {vs : List Value} {ps : List (Int → Bool)} (h : TellAll lo w vs ps) (hg : Ext lo w w') : TellAll lo w' vs ps := ⟨h.1, fun i v p hv hp => (h.2 i v p hv hp).ext hg⟩
set_option maxRecDepth 3000 in
theorem TellAll.grows {lo : Nat} {w w' : World} {vs : List Value} {ps : List (Int → Bool)} (h : TellAll lo w vs ps) (hg : Grows w w') : TellAll lo w' vs ps := h.ext (hg.ext lo)
set_option maxRecDepth 3000 in
theorem Rd.ext {lo n b o : Nat} {w w' : World} {xs : List Value} (h : Rd w 1 (some ⟨b, o, none⟩) n xs) (hb : lo ≤ b) (hw : Ext lo w w') : Rd w' 1 (some ⟨b, o, none⟩) n xs := by
  refine ⟨h.1, fun hn => ?_⟩
  obtain ⟨b', o', e, hlt, hc⟩ := h.2 hn
  injection e with e
  injection e with e1 e2
  subst e1 e2
  have h0 : ∃ u, xs[0]? = some u := by
    have := h.1
    exact ⟨xs[0]'(by omega), List.getElem?_eq_getElem (by omega)⟩
  obtain ⟨u, hu⟩ := h0
  have h1 := hw.cell hb (hc 0 u hu)
  exact ⟨b, o, rfl, World.block_lt_of_cell? w' _ h1, fun j u hu => hw.cell hb (hc j u hu)⟩
def someP (ps : List (Int → Bool)) (c : Int) : Bool := ps.any fun p => p c
set_option maxRecDepth 3000 in
set_option maxHeartbeats 1000000 in
theorem some1_any (vs : List Value) (ps : List (Int → Bool)) (c : Int) (g b o cap : Nat) (w : World) (hc0 : 0 ≤ c) (hc1 : c ≤ 255) (hn : vs.length ≤ 1000000) (hg : w.cell? ⟨g, 0, none⟩ = some (.slice (some ⟨b, o, none⟩) vs.length cap)) (hR : Rd w 1 (some ⟨b, o, none⟩) vs.length vs) (lo : Nat) (hT : TellAll lo w vs ps) :
    Calls Tryd.prog 95 #[.int .u8 c, .pointer (some ⟨g, 0, none⟩)] w fun e w' => e = .returned (.bool (someP ps c)) ∧ w = w' := by
  have HT := Lib.hid hT
  have hl := hT.1
  clear hT
  go_enter Tryd.func95, Tryd.ntmps95
  go_wp2_with fail
  go_loopg [5, 8] vs.length (fun q _ i wr => ∃ k : Nat, q + k = vs.length ∧ i = .int .i64 k ∧ wr = w ∧ (ps.take k).any (fun p => p c) = false)
  case atStart => exact ⟨0, by omega, rfl, rfl, by simp⟩
  case round =>
    obtain ⟨k, hq, rfl, rfl, hno⟩ := hrel
    have HQ := Lib.hid hq
    have HN := Lib.hid hno
    have hkl : k ≤ vs.length := by omega
    clear hq hno
    by_cases h1 : k < vs.length
    · obtain ⟨b', o', he, hb, ec⟩ := hR.at_ (j := k) (by simpa using h1)
      injection he with he
      injection he with he1 he2
      subst he1 he2
      have hp : ps[k]? = some (ps[k]'(by omega)) := List.getElem?_eq_getElem (by omega)
      obtain ⟨f, caps, hv, hen, hcall⟩ := HT.out.2 k vs[k] _ (List.getElem?_eq_getElem h1) hp
      rw [hv] at ec
      have HC := Lib.hid hcall
      have hent := hen (#[.int .u8 c] ++ caps) wr
      have HA : Hid ((ps.take (k + 1)).any (fun p => p c) = (ps[k]'(by omega)) c) := Lib.hid (by rw [List.take_add_one, hp, List.any_append, HN.out]; simp)
      clear hcall hv hp
      go_wp2_with fail
      (with_reducible refine (HC.out wr c (Ext.refl _ _) hc0 hc1).mono ?_)
      cases hpc : (ps[k]'(by omega)) c with
      | true =>
        have HV : Hid (someP ps c = true) := Lib.hid (List.any_eq_true.2 ⟨_, List.getElem_mem (by omega), hpc⟩)
        rintro e w' ⟨rfl, rfl⟩
        clear hpc
        go_wp2_with fail
        go_ret
        exact ⟨by rw [HV.out]; rfl, rfl⟩
      | false =>
        rw [hpc] at HA
        rintro e w' ⟨rfl, rfl⟩
        clear hpc
        go_wp2_with fail
        go_roundg (gk - 1)
        case measure => have := HQ.out; omega
        case rel => exact ⟨k + 1, by have := HQ.out; omega, by go_num, rfl, HA.out⟩
    · have hk : ps.take k = ps := List.take_of_length_le (by omega)
      have HV : Hid (someP ps c = false) := Lib.hid (by have := HN.out; rwa [hk] at this)
      go_wp2_with fail
      go_ret
      exact ⟨by rw [HV.out]; rfl, rfl⟩
/-- A new function value, made of others from block lo on. -/
def NewTellIn (lo : Nat) (p : Int → Bool) (w : World) (e : Ending) (w' : World) : Prop := ∃ v, e = .returned v ∧ Tells lo w' v p ∧ Grows w w'
set_option maxRecDepth 3000 in
set_option maxHeartbeats 1000000 in
theorem some_any (vs : List Value) (ps : List (Int → Bool)) (lo b o n cap : Nat) (w : World) (hn : vs.length ≤ 1000000) (hnn : n = vs.length) (hb : lo ≤ b) (hlo : lo ≤ w.heap.size) (hR : Rd w 1 (some ⟨b, o, none⟩) vs.length vs) (hT : TellAll lo w vs ps) :
    Calls Tryd.prog 87 #[.slice (some ⟨b, o, none⟩) n cap] w (NewTellIn lo (someP ps) w) := by
  subst hnn
  go_enter Tryd.func87, Tryd.ntmps87
  go_wp2_with fail
  go_ret
  have hg : Grows w (w.alloc (.cells #[.slice (some ⟨b, o, none⟩) vs.length cap] 158)) := (Grows.refl _).alloc _
  refine ⟨_, rfl, ⟨_, _, rfl, enters_of Tryd.func95 (by kernel_rfl) (by kernel_rfl), fun w' c hw h0 h1 => ?_⟩, hg⟩
  exact some1_any vs ps c _ b o cap w' h0 h1 hn (hw.cell hlo (by simp [go_sem])) ((hR.grows hg).ext hb hw) lo ((hT.grows hg).ext hw)
set_option maxRecDepth 3000 in
/-- The function of named: of graph, and not of alnum. -/
theorem punct_any (f1 f2 : FuncId) (k1 k2 : Array Value) (p q : Int → Bool) (c : Int) (g h : Nat) (w : World) (hc0 : 0 ≤ c) (hc1 : c ≤ 255) (ha : w.cell? ⟨g, 0, none⟩ = some (.func (.func f1) #[] k1)) (hb : w.cell? ⟨h, 0, none⟩ = some (.func (.func f2) #[] k2)) (lo : Nat) (hp : Tells lo w (.func (.func f1) #[] k1) p) (hq : Tells lo w (.func (.func f2) #[] k2) q) :
    Calls Tryd.prog 88 #[.int .u8 c, .pointer (some ⟨g, 0, none⟩), .pointer (some ⟨h, 0, none⟩)] w fun e w' => e = .returned (.bool (p c && !(q c))) ∧ w = w' := by
  obtain ⟨f, caps, hv, hen, hcall⟩ := hp
  injection hv with e1 e2 e3
  injection e1 with e1
  subst e1 e3
  obtain ⟨f', caps', hv, hen', hcall'⟩ := hq
  injection hv with e1 e2 e3
  injection e1 with e1
  subst e1 e3
  have HC := Lib.hid hcall
  have HC' := Lib.hid hcall'
  have hent := hen (#[.int .u8 c] ++ k1) w
  have hent' := hen' (#[.int .u8 c] ++ k2) w
  clear hcall hcall' hen hen'
  go_enter Tryd.func88, Tryd.ntmps88
  go_wp2_with fail
  (with_reducible refine (HC.out w c (Ext.refl _ _) hc0 hc1).mono ?_)
  cases hpc : p c with
  | true =>
    rintro e w' ⟨rfl, rfl⟩
    have HPC := Lib.hid hpc
    clear hpc
    go_wp2_with fail
    (with_reducible refine (HC'.out w c (Ext.refl _ _) hc0 hc1).mono ?_)
    rintro e w' ⟨rfl, rfl⟩
    go_wp2_with fail
    go_ret
    exact ⟨by rw [HPC.out]; simp, rfl⟩
  | false =>
    rintro e w' ⟨rfl, rfl⟩
    have HPC := Lib.hid hpc
    clear hpc
    go_wp2_with fail
    go_ret
    exact ⟨by rw [HPC.out]; simp, rfl⟩
end Go.Proofs.YtnjagecmhdagkaaDoor
