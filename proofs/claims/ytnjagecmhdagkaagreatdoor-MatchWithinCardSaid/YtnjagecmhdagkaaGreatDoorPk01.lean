/-
  Several texts of the proof: Blk, Cls, Region, MapS, NamedJ.
-/
import Derived.Test.YtnjagecmhdagkaaGreatDoorPk00
import Derived.MapKept
import Derived.Laws.EntriesVeiled
/-
  A block of memory that is known whole: its cells, one store into it, and worlds that differ from another one in that block and in new blocks alone.
-/
namespace Go.Proofs.YtnjagecmhdagkaaGreatDoor
open Go.RowKit

section
variable {w : World} {g : Nat} {c : Array Value}
set_option maxRecDepth 3000 in
theorem Blk.inHeap (h : blk w g = c) (hc : 0 < c.size) : InHeap g w := by
  obtain ⟨t, ht⟩ := blk_some w g (by rw [h]; exact hc)
  exact (Array.getElem?_eq_some_iff.1 ht).1
set_option maxRecDepth 3000 in
theorem Blk.cell (h : blk w g = c) (hc : 0 < c.size) (i : Nat) : w.cell? ⟨g, i, none⟩ = c[i]? := by
  obtain ⟨t, ht⟩ := blk_some w g (by rw [h]; exact hc)
  rw [cell_of_row w g i _ t _ ht, h]
set_option maxRecDepth 3000 in
theorem Blk.free (h : blk w g = c) (hc : 0 < c.size) (i : Nat) : w.frozen? ⟨g, i, none⟩ = false := by
  obtain ⟨t, ht⟩ := blk_some w g (by rw [h]; exact hc)
  exact frozen_of_row w g i _ t ht
set_option maxRecDepth 3000 in
theorem Blk.set (h : blk w g = c) (hc : 0 < c.size) (i : Nat) (v : Value) : w.setCell ⟨g, i, none⟩ v = setBlk w g (c.setIfInBounds i v) := by
  obtain ⟨t, ht⟩ := blk_some w g (by rw [h]; exact hc)
  rw [setCell_eq_setRow w g i _ t _ v ht, h]
  rfl
set_option maxRecDepth 3000 in
theorem Blk.get (c' : Array Value) (h : blk w g = c) (hc : 0 < c.size) : blk (setBlk w g c') g = c' := by
  obtain ⟨t, ht⟩ := blk_some w g (by rw [h]; exact hc)
  unfold blk setBlk
  rw [setRow_heap w g _ c' t _ ht]
  rfl
set_option maxRecDepth 3000 in
theorem Blk.set_set (a b : Array Value) : setBlk (setBlk w g a) g b = setBlk w g b := setRow_setRow w g a b
set_option maxRecDepth 3000 in
theorem Blk.same (h : blk w g = c) (hc : 0 < c.size) : setBlk w g c = w := by
  obtain ⟨t, ht⟩ := blk_some w g (by rw [h]; exact hc)
  rw [h] at ht
  have hlt : g < w.heap.size := (Array.getElem?_eq_some_iff.1 ht).1
  unfold setBlk World.setRow
  cases w with
  | mk hp tp dr os ou =>
    congr 1
    apply Array.ext_getElem?
    intro i
    rw [Array.getElem?_modify]
    split
    · rename_i e
      subst e
      simp only at ht
      rw [ht]
      rfl
    · rfl
set_option maxRecDepth 3000 in
theorem inHeap_setBlk (k : Nat) : InHeap k (setBlk w g c) ↔ InHeap k w := by unfold InHeap setBlk; simp
set_option maxRecDepth 3000 in
@[go_sem] theorem inHeap_setBlk' (w : World) (g k : Nat) (c : Array Value) : InHeap k (setBlk w g c) ↔ InHeap k w := inHeap_setBlk k
set_option maxRecDepth 3000 in
theorem blk_setBlk_other (w : World) (g k : Nat) (c : Array Value) (h : k ≠ g) : blk (setBlk w g c) k = blk w k := by
  unfold blk setBlk; rw [setRow_other w g k c h]
set_option maxRecDepth 3000 in
theorem cell_setBlk_other (w : World) (g : Nat) (c : Array Value) (a : Addr) (h : a.block ≠ g) : (setBlk w g c).cell? a = w.cell? a := cell_setRow_other w g c a h
end
set_option maxRecDepth 3000 in
@[simp, go_sem] theorem size_setBlk (w : World) (g : Nat) (c : Array Value) : (setBlk w g c).heap.size = w.heap.size := by simp [setBlk]

/-- w' is w but for block g, whose cells are c now, and for new blocks. -/
def Turned (w : World) (g : Nat) (c : Array Value) (w' : World) : Prop := ∃ m, w' = more (setBlk w g c) m
set_option maxRecDepth 3000 in
theorem Turned.mk (w : World) (g : Nat) (c : Array Value) (m : More) : Turned w g c (more (setBlk w g c) m) := ⟨m, rfl⟩
section
variable {w w' w'' : World} {g : Nat} {c c' : Array Value}
set_option maxRecDepth 3000 in
theorem Turned.refl (h : blk w g = c) (hc : 0 < c.size) : Turned w g c w := ⟨_, by rw [Blk.same h hc]; exact more_self w⟩
set_option maxRecDepth 3000 in
theorem Turned.drew (h : Turned w g c w') : Turned w g c w'.drew := by
  obtain ⟨m, rfl⟩ := h; exact ⟨_, drew_more _ _⟩
set_option maxRecDepth 3000 in
theorem Turned.drewN (h : Turned w g c w') (n : Nat) : Turned w g c (w'.drewN n) := by
  obtain ⟨m, rfl⟩ := h; exact ⟨_, drewN_more _ _ _⟩
set_option maxRecDepth 3000 in
theorem Turned.alloc (h : Turned w g c w') (o : Obj) : Turned w g c (w'.alloc o) := by
  obtain ⟨m, rfl⟩ := h
  exact ⟨⟨m.1.push o, m.2⟩, by simp [Go.Proofs.YtnjagecmhdagkaaGreatDoor.more, World.alloc]⟩
set_option maxRecDepth 3000 in
theorem Turned.more (h : Turned w g c w') (m : More) : Turned w g c (more w' m) := by
  obtain ⟨k, rfl⟩ := h; exact ⟨_, more_more _ _ _⟩
set_option maxRecDepth 3000 in
theorem Turned.grows (h : Turned w g c w') (k : Grows w' w'') : Turned w g c w'' := by
  obtain ⟨m, rfl⟩ := k; exact h.more m
set_option maxRecDepth 3000 in
theorem Turned.inHeap (h : Turned w g c w') (k : Nat) (hk : InHeap k w) : InHeap k w' := by
  obtain ⟨m, rfl⟩ := h
  rw [inHeap_more]
  exact .inl ((inHeap_setBlk k).2 hk)
set_option maxRecDepth 3000 in
theorem Turned.blk (h : Turned w g c w') {o : Array Value} (hb : blk w g = o) (ho : 0 < o.size) : blk w' g = c := by
  obtain ⟨m, rfl⟩ := h
  rw [blk_more _ _ _ ((inHeap_setBlk g).2 (Blk.inHeap hb ho)), Blk.get c hb ho]
set_option maxRecDepth 3000 in
theorem Turned.trans (h : Turned w g c w') (k : Turned w' g c' w'') {o : Array Value} (hb : Go.Proofs.YtnjagecmhdagkaaGreatDoor.blk w g = o) (ho : 0 < o.size) : Turned w g c' w'' := by
  obtain ⟨m, rfl⟩ := h
  obtain ⟨n, rfl⟩ := k
  rw [setBlk_more _ _ _ _ ((inHeap_setBlk g).2 (Blk.inHeap hb ho)), Blk.set_set]
  exact ⟨_, more_more _ _ _⟩
set_option maxRecDepth 3000 in
theorem Turned.setCell (h : Turned w g c w') {o : Array Value} (hb : Go.Proofs.YtnjagecmhdagkaaGreatDoor.blk w g = o) (ho : 0 < o.size) (hc : 0 < c.size) (i : Nat) (v : Value) : Turned w g (c.setIfInBounds i v) (w'.setCell ⟨g, i, none⟩ v) := by
  have hb' := h.blk hb ho
  rw [Blk.set hb' hc]
  obtain ⟨m, rfl⟩ := h
  rw [setBlk_more _ _ _ _ ((inHeap_setBlk g).2 (Blk.inHeap hb ho)), Blk.set_set]
  exact ⟨_, rfl⟩
set_option maxRecDepth 3000 in
theorem Turned.to (h : Turned w g c w') (e : c = c') : Turned w g c' w' := e ▸ h
end
/-- w' is w but for the blocks g and h, and for new blocks. -/
def Turned2 (w : World) (g : Nat) (c : Array Value) (h : Nat) (d : Array Value) (w' : World) : Prop := ∃ m, w' = more (setBlk (setBlk w g c) h d) m
section
variable {w w' w'' : World} {g h : Nat} {c d c' d' o p : Array Value}
set_option maxRecDepth 3000 in
theorem Turned2.refl (hb : blk w g = c) (hc : 0 < c.size) (hd : blk w h = d) (hz : 0 < d.size) : Turned2 w g c h d w := ⟨_, by rw [Blk.same hb hc, Blk.same hd hz]; exact more_self w⟩
set_option maxRecDepth 3000 in
theorem Turned2.blk2 (T : Turned2 w g c h d w') (hne : g ≠ h) (hd : blk w h = p) (hz : 0 < p.size) : blk w' h = d := by
  obtain ⟨m, rfl⟩ := T
  have hd' : blk (setBlk w g c) h = p := by rw [blk_setBlk_other _ _ _ _ hne.symm, hd]
  rw [blk_more _ _ _ ((inHeap_setBlk h).2 (Blk.inHeap hd' hz)), Blk.get d hd' hz]
set_option maxRecDepth 3000 in
theorem Turned2.turn2 (T : Turned2 w g c h d w') (K : Turned w' h d' w'') (hne : g ≠ h) (hd : blk w h = p) (hz : 0 < p.size) : Turned2 w g c h d' w'' := by
  obtain ⟨m, rfl⟩ := T
  obtain ⟨n, rfl⟩ := K
  have hd' : blk (setBlk w g c) h = p := by rw [blk_setBlk_other _ _ _ _ hne.symm, hd]
  rw [setBlk_more _ _ _ _ ((inHeap_setBlk h).2 (Blk.inHeap hd' hz)), Blk.set_set]
  exact ⟨_, more_more _ _ _⟩
set_option maxRecDepth 3000 in
theorem Turned2.set2 (T : Turned2 w g c h d w') (hne : g ≠ h) (hd : blk w h = p) (hz : 0 < p.size) (hdz : 0 < d.size) (i : Nat) (v : Value) : Turned2 w g c h (d.setIfInBounds i v) (w'.setCell ⟨h, i, none⟩ v) :=
  T.turn2 ((Turned.refl (T.blk2 hne hd hz) hdz).setCell (T.blk2 hne hd hz) hdz hdz i v) hne hd hz
set_option maxRecDepth 3000 in
theorem Turned2.drewN (T : Turned2 w g c h d w') (n : Nat) : Turned2 w g c h d (w'.drewN n) := by
  obtain ⟨m, rfl⟩ := T; exact ⟨_, drewN_more _ _ _⟩
set_option maxRecDepth 3000 in
theorem Turned2.to (T : Turned2 w g c h d w') (e : c = c') (e' : d = d') : Turned2 w g c' h d' w' := e ▸ e' ▸ T
end
end Go.Proofs.YtnjagecmhdagkaaGreatDoor

/-
  Classes: functions of a byte as values; span, some.
-/
namespace Go.Proofs.YtnjagecmhdagkaaGreatDoor
open Go.RowKit

/-- A function of the program, entered. -/
def Enters (f : FuncId) : Prop := ∀ (args : Array Value) (w : World), (callFunc f args).run Tryz.prog w = .ok (.enter f args) w
set_option maxRecDepth 3000 in
theorem enters_of {f : FuncId} {fn : Func} (hf : Tryz.prog.funcs[f]? = some fn) (hn : (fn.name == "runtime.NumGoroutine") = false) (hb : fn.body.isNone = false) : Enters f := by
  intro args w
  have h1 : fn.name ≠ "runtime.NumGoroutine" := by simpa using hn
  have h2 : fn.body ≠ none := by intro h; rw [h] at hb; cases hb
  simp [callFunc, hf, h1, h2]
/-- What cells lie in w from block lo on lie in w' too. -/
def Ext (lo : Nat) (w w' : World) : Prop := ∀ b c t f, lo ≤ b → w.heap[b]? = some (.cells c t f) → w'.heap[b]? = some (.cells c t f)
set_option maxRecDepth 3000 in
theorem Ext.refl (lo : Nat) (w : World) : Ext lo w w := fun _ _ _ _ _ h => h
set_option maxRecDepth 3000 in
theorem Ext.trans {lo : Nat} {a b c : World} (h : Ext lo a b) (k : Ext lo b c) : Ext lo a c := fun x y z u hl hx => k x y z u hl (h x y z u hl hx)
set_option maxRecDepth 3000 in
theorem Grows.ext {w w' : World} (h : Grows w w') (lo : Nat) : Ext lo w w' := fun b c t f _ hb => by
  obtain ⟨m, rfl⟩ := h
  rw [heap_more _ _ _ (Array.getElem?_eq_some_iff.1 hb).1]; exact hb
set_option maxRecDepth 3000 in
theorem Ext.mono {lo lo' : Nat} {w w' : World} (h : Ext lo w w') (hl : lo ≤ lo') : Ext lo' w w' := fun b c t f hb => h b c t f (by omega)
set_option maxRecDepth 3000 in
theorem Ext.cell {lo : Nat} {w w' : World} (h : Ext lo w w') {b i : Nat} {v : Value} (hb : lo ≤ b) (hc : w.cell? ⟨b, i, none⟩ = some v) : w'.cell? ⟨b, i, none⟩ = some v := by
  cases hh : w.heap[b]? with
  | none => simp [World.cell?, hh] at hc
  | some o =>
    cases o with
    | cells c t f =>
      have h2 := h b c t f hb hh
      rw [World.cell?_of_block (a := ⟨b, i, none⟩) (h2.trans hh.symm)]
      exact hc
    | _ => simp [World.cell?, hh] at hc
/-- v is a function of a byte that tells p, in whatever world that has what lies in w from block lo on; it only looks. -/
def Tells (lo : Nat) (w : World) (v : Value) (p : Int → Bool) : Prop :=
  ∃ (f : FuncId) (caps : Array Value), v = .func (.func f) #[] caps ∧ Enters f ∧ ∀ w' c, Ext lo w w' → 0 ≤ c → c ≤ 255 → Calls Tryz.prog f (#[.int .u8 c] ++ caps) w' fun e w'' => e = .returned (.bool (p c)) ∧ w' = w''
set_option maxRecDepth 3000 in
theorem Tells.ext {lo : Nat} {w w' : World} {v : Value} {p : Int → Bool} (h : Tells lo w v p) (hg : Ext lo w w') : Tells lo w' v p := by
  obtain ⟨f, caps, hv, he, hc⟩ := h
  exact ⟨f, caps, hv, he, fun w'' c hg' => hc w'' c (hg.trans hg')⟩
set_option maxRecDepth 3000 in
theorem Tells.grows {lo : Nat} {w w' : World} {v : Value} {p : Int → Bool} (h : Tells lo w v p) (hg : Grows w w') : Tells lo w' v p := h.ext (hg.ext lo)
set_option maxRecDepth 3000 in
theorem Tells.mono {lo lo' : Nat} {w : World} {v : Value} {p : Int → Bool} (h : Tells lo w v p) (hl : lo' ≤ lo) : Tells lo' w v p := by
  obtain ⟨f, caps, hv, he, hc⟩ := h
  exact ⟨f, caps, hv, he, fun w' c hg => hc w' c (hg.mono hl)⟩
set_option maxRecDepth 3000 in
theorem Tells.form {lo : Nat} {w : World} {v : Value} {p : Int → Bool} (h : Tells lo w v p) : ∃ f k, v = .func (.func f) #[] k := by
  obtain ⟨f, k, h, _⟩ := h
  exact ⟨f, k, h⟩
/-- From one byte up to another one. -/
def spanP (a b : Int) (c : Int) : Bool := decide (a ≤ c) && decide (c ≤ b)

set_option maxRecDepth 3000 in
theorem span1_any (a b c : Int) (g h : Nat) (w : World) (ha : w.cell? ⟨g, 0, none⟩ = some (.int .u8 a)) (hb : w.cell? ⟨h, 0, none⟩ = some (.int .u8 b)) :
    Calls Tryz.prog 114 #[.int .u8 c, .pointer (some ⟨g, 0, none⟩), .pointer (some ⟨h, 0, none⟩)] w fun e w' => e = .returned (.bool (spanP a b c)) ∧ w = w' := by
  by_cases h1 : a ≤ c
  · have d1 : decide (a ≤ c) = true := by simpa using h1
    go_enter Tryz.func114, Tryz.ntmps114
    go_wp2_with fail
    go_ret
    exact ⟨by simp [spanP, h1], rfl⟩
  · have d1 : decide (a ≤ c) = false := by simpa using h1
    go_enter Tryz.func114, Tryz.ntmps114
    go_wp2_with fail
    go_ret
    exact ⟨by simp [spanP, d1], rfl⟩
/-- A new function value. -/
def NewTell (p : Int → Bool) (w : World) (e : Ending) (w' : World) : Prop := ∃ v, e = .returned v ∧ Tells w.heap.size w' v p ∧ Grows w w'
set_option maxRecDepth 3000 in
theorem span_any (a b : Int) (w : World) : Calls Tryz.prog 102 #[.int .u8 a, .int .u8 b] w (NewTell (spanP a b) w) := by
  go_enter Tryz.func102, Tryz.ntmps102
  go_wp2_with fail
  go_ret
  have hg : Grows w ((w.alloc (.cells #[.int .u8 a] 5)).alloc (.cells #[.int .u8 b] 5)) := ((Grows.refl _).alloc _).alloc _
  refine ⟨_, rfl, ⟨_, _, rfl, enters_of Tryz.func114 (by kernel_rfl) (by kernel_rfl), fun w' c hw _ _ => ?_⟩, hg⟩
  exact span1_any a b c _ _ w' (hw.cell (Nat.le_refl _) (by simp [go_sem])) (hw.cell (Nat.le_succ _) (by simp [go_sem]))

/-- Each of several values tells its own. -/
def TellAll (lo : Nat) (w : World) (vs : List Value) (ps : List (Int → Bool)) : Prop := vs.length = ps.length ∧ ∀ (i : Nat) v p, vs[i]? = some v → ps[i]? = some p → Tells lo w v p
set_option maxRecDepth 3000 in
theorem TellAll.ext {lo : Nat} {w w' : World} {vs : List Value} {ps : List (Int → Bool)} (h : TellAll lo w vs ps) (hg : Ext lo w w') : TellAll lo w' vs ps := ⟨h.1, fun i v p hv hp => (h.2 i v p hv hp).ext hg⟩
set_option maxRecDepth 3000 in
theorem TellAll.grows {lo : Nat} {w w' : World} {vs : List Value} {ps : List (Int → Bool)} (h : TellAll lo w vs ps) (hg : Grows w w') : TellAll lo w' vs ps := h.ext (hg.ext lo)
set_option maxRecDepth 3000 in
theorem Rd.ext {lo n b o : Nat} {w w' : World} {xs : List Value} (h : Rd w 1 (some ⟨b, o, none⟩) n xs) (hb : lo ≤ b) (hw : Ext lo w w') : Rd w' 1 (some ⟨b, o, none⟩) n xs := by
  refine ⟨h.1, fun hn => ?_⟩
  obtain ⟨b', o', e, hlt, hc⟩ := h.2 hn
  injection e with e
  injection e with e1 e2
  subst e1 e2
  have h0 : ∃ u, xs[0]? = some u := by
    have := h.1
    exact ⟨xs[0]'(by omega), List.getElem?_eq_getElem (by omega)⟩
  obtain ⟨u, hu⟩ := h0
  have h1 := hw.cell hb (hc 0 u hu)
  exact ⟨b, o, rfl, World.block_lt_of_cell? w' _ h1, fun j u hu => hw.cell hb (hc j u hu)⟩
def someP (ps : List (Int → Bool)) (c : Int) : Bool := ps.any fun p => p c
set_option maxRecDepth 3000 in
set_option maxHeartbeats 1000000 in
theorem some1_any (vs : List Value) (ps : List (Int → Bool)) (c : Int) (g b o cap : Nat) (w : World) (hc0 : 0 ≤ c) (hc1 : c ≤ 255) (hn : vs.length ≤ 1000000) (hg : w.cell? ⟨g, 0, none⟩ = some (.slice (some ⟨b, o, none⟩) vs.length cap)) (hR : Rd w 1 (some ⟨b, o, none⟩) vs.length vs) (lo : Nat) (hT : TellAll lo w vs ps) :
    Calls Tryz.prog 121 #[.int .u8 c, .pointer (some ⟨g, 0, none⟩)] w fun e w' => e = .returned (.bool (someP ps c)) ∧ w = w' := by
  have HT := Lib.hid hT
  have hl := hT.1
  clear hT
  go_enter Tryz.func121, Tryz.ntmps121
  go_wp2_with fail
  go_loopg [5, 8] vs.length (fun q _ i wr => ∃ k : Nat, q + k = vs.length ∧ i = .int .i64 k ∧ wr = w ∧ (ps.take k).any (fun p => p c) = false)
  case atStart => exact ⟨0, by omega, rfl, rfl, by simp⟩
  case round =>
    obtain ⟨k, hq, rfl, rfl, hno⟩ := hrel
    have HQ := Lib.hid hq
    have HN := Lib.hid hno
    have hkl : k ≤ vs.length := by omega
    clear hq hno
    by_cases h1 : k < vs.length
    · obtain ⟨b', o', he, hb, ec⟩ := hR.at_ (j := k) (by simpa using h1)
      injection he with he
      injection he with he1 he2
      subst he1 he2
      have hp : ps[k]? = some (ps[k]'(by omega)) := List.getElem?_eq_getElem (by omega)
      obtain ⟨f, caps, hv, hen, hcall⟩ := HT.out.2 k vs[k] _ (List.getElem?_eq_getElem h1) hp
      rw [hv] at ec
      have HC := Lib.hid hcall
      have hent := hen (#[.int .u8 c] ++ caps) wr
      have HA : Hid ((ps.take (k + 1)).any (fun p => p c) = (ps[k]'(by omega)) c) := Lib.hid (by rw [List.take_add_one, hp, List.any_append, HN.out]; simp)
      clear hcall hv hp
      go_wp2_with fail
      (with_reducible refine (HC.out wr c (Ext.refl _ _) hc0 hc1).mono ?_)
      cases hpc : (ps[k]'(by omega)) c with
      | true =>
        have HV : Hid (someP ps c = true) := Lib.hid (List.any_eq_true.2 ⟨_, List.getElem_mem (by omega), hpc⟩)
        rintro e w' ⟨rfl, rfl⟩
        clear hpc
        go_wp2_with fail
        go_ret
        exact ⟨by rw [HV.out]; rfl, rfl⟩
      | false =>
        rw [hpc] at HA
        rintro e w' ⟨rfl, rfl⟩
        clear hpc
        go_wp2_with fail
        go_roundg (gk - 1)
        case measure => have := HQ.out; omega
        case rel => exact ⟨k + 1, by have := HQ.out; omega, by go_num, rfl, HA.out⟩
    · have hk : ps.take k = ps := List.take_of_length_le (by omega)
      have HV : Hid (someP ps c = false) := Lib.hid (by have := HN.out; rwa [hk] at this)
      go_wp2_with fail
      go_ret
      exact ⟨by rw [HV.out]; rfl, rfl⟩
/-- A new function value, made of others from block lo on. -/
def NewTellIn (lo : Nat) (p : Int → Bool) (w : World) (e : Ending) (w' : World) : Prop := ∃ v, e = .returned v ∧ Tells lo w' v p ∧ Grows w w'
set_option maxRecDepth 3000 in
set_option maxHeartbeats 1000000 in
theorem some_any (vs : List Value) (ps : List (Int → Bool)) (lo b o n cap : Nat) (w : World) (hn : vs.length ≤ 1000000) (hnn : n = vs.length) (hb : lo ≤ b) (hlo : lo ≤ w.heap.size) (hR : Rd w 1 (some ⟨b, o, none⟩) vs.length vs) (hT : TellAll lo w vs ps) :
    Calls Tryz.prog 112 #[.slice (some ⟨b, o, none⟩) n cap] w (NewTellIn lo (someP ps) w) := by
  subst hnn
  go_enter Tryz.func112, Tryz.ntmps112
  go_wp2_with fail
  go_ret
  have hg : Grows w (w.alloc (.cells #[.slice (some ⟨b, o, none⟩) vs.length cap] 202)) := (Grows.refl _).alloc _
  refine ⟨_, rfl, ⟨_, _, rfl, enters_of Tryz.func121 (by kernel_rfl) (by kernel_rfl), fun w' c hw h0 h1 => ?_⟩, hg⟩
  exact some1_any vs ps c _ b o cap w' h0 h1 hn (hw.cell hlo (by simp [go_sem])) ((hR.grows hg).ext hb hw) lo ((hT.grows hg).ext hw)
set_option maxRecDepth 3000 in
/-- The function of named: of graph, and not of alnum. -/
theorem punct_any (f1 f2 : FuncId) (k1 k2 : Array Value) (p q : Int → Bool) (c : Int) (g h : Nat) (w : World) (hc0 : 0 ≤ c) (hc1 : c ≤ 255) (ha : w.cell? ⟨g, 0, none⟩ = some (.func (.func f1) #[] k1)) (hb : w.cell? ⟨h, 0, none⟩ = some (.func (.func f2) #[] k2)) (lo : Nat) (hp : Tells lo w (.func (.func f1) #[] k1) p) (hq : Tells lo w (.func (.func f2) #[] k2) q) :
    Calls Tryz.prog 113 #[.int .u8 c, .pointer (some ⟨g, 0, none⟩), .pointer (some ⟨h, 0, none⟩)] w fun e w' => e = .returned (.bool (p c && !(q c))) ∧ w = w' := by
  obtain ⟨f, caps, hv, hen, hcall⟩ := hp
  injection hv with e1 e2 e3
  injection e1 with e1
  subst e1 e3
  obtain ⟨f', caps', hv, hen', hcall'⟩ := hq
  injection hv with e1 e2 e3
  injection e1 with e1
  subst e1 e3
  have HC := Lib.hid hcall
  have HC' := Lib.hid hcall'
  have hent := hen (#[.int .u8 c] ++ k1) w
  have hent' := hen' (#[.int .u8 c] ++ k2) w
  clear hcall hcall' hen hen'
  go_enter Tryz.func113, Tryz.ntmps113
  go_wp2_with fail
  (with_reducible refine (HC.out w c (Ext.refl _ _) hc0 hc1).mono ?_)
  cases hpc : p c with
  | true =>
    rintro e w' ⟨rfl, rfl⟩
    have HPC := Lib.hid hpc
    clear hpc
    go_wp2_with fail
    (with_reducible refine (HC'.out w c (Ext.refl _ _) hc0 hc1).mono ?_)
    rintro e w' ⟨rfl, rfl⟩
    go_wp2_with fail
    go_ret
    exact ⟨by rw [HPC.out]; simp, rfl⟩
  | false =>
    rintro e w' ⟨rfl, rfl⟩
    have HPC := Lib.hid hpc
    clear hpc
    go_wp2_with fail
    go_ret
    exact ⟨by rw [HPC.out]; simp, rfl⟩
end Go.Proofs.YtnjagecmhdagkaaGreatDoor

/-
  A region that draws its order, by an invariant: whatever operation comes next, it keeps what is said of the operations that are done.
-/
namespace Go.Proofs.YtnjagecmhdagkaaGreatDoor
open Go.RowKit

section
variable {P : Program} {ops : Array Oper} {md : Region.Mode} {Q : Exit → Act → World → Prop}
set_option maxRecDepth 3000 in
theorem count_set (l : List Bool) : ∀ (i : Nat), l[i]? = some false → (l.set i true).countP (!·) + 1 = l.countP (!·) := by
  induction l with
  | nil => intro i h; simp at h
  | cons b l ih =>
    intro i h
    cases i with
    | zero =>
      simp at h
      subst h
      simp
    | succ i =>
      have := ih i (by simpa using h)
      simp only [List.set_cons_succ, List.countP_cons]
      omega
set_option maxRecDepth 3000 in
theorem wpAny_inv {J : Array Bool → Act → World → Prop}
    (hstep : ∀ done a w i, J done a w → i ∈ Region.ready md ops done → wpOp P ops Q i (J (done.setIfInBounds i true)) a w)
    (hend : ∀ done a w, J done a w → Region.ready md ops done = [] → Q .normal a w) :
    ∀ (fuel : Nat) (done : Array Bool) (a : Act) (w : World), done.size = ops.size → done.toList.countP (!·) ≤ fuel → J done a w → wpAny P md ops Q fuel done a w := by
  intro fuel
  induction fuel with
  | zero =>
    intro done a w hs hc h
    have hr : Region.ready md ops done = [] := by
      rw [List.eq_nil_iff_forall_not_mem]
      intro i hi
      have h1 := (mem_ready.1 hi).1
      have hlt : i < ops.size := by
        have : i ∈ List.range ops.size := (List.mem_filter.1 hi).1
        simpa using this
      have h2 : done.toList[i]? = some false := by
        have : i < done.size := by omega
        simp [Array.getD, this] at h1
        simp [this, h1]
      have := count_set _ i h2
      omega
    exact ⟨hr, hend _ _ _ h hr⟩
  | succ fuel ih =>
    intro done a w hs hc h
    refine ⟨hend _ _ _ h, fun i hi => ?_⟩
    have h1 := (mem_ready.1 hi).1
    have hlt : i < ops.size := by
      have : i ∈ List.range ops.size := (List.mem_filter.1 hi).1
      simpa using this
    have h2 : done.toList[i]? = some false := by
      have : i < done.size := by omega
      simp [Array.getD, this] at h1
      simp [this, h1]
    have h3 := count_set _ i h2
    refine wpOp_mono (fun a' w' h' => ih _ a' w' (by simpa using hs) ?_ h') (hstep done a w i h hi)
    rw [Array.toList_setIfInBounds]
    omega
set_option maxRecDepth 3000 in
/-- A region that draws its order, by an invariant. -/
theorem region_inv {id : Nat} {a : Act} {w : World} {l : List Oper} {J : Array Bool → Act → World → Prop} (hm : P.follows .mixedOrders = true)
    (hstart : J (Array.replicate l.length false) a { w with drawn := w.drawn + 1 })
    (hstep : ∀ done a w i, J done a w → i ∈ Region.ready .any l.toArray done → wpOp P l.toArray Q i (J (done.setIfInBounds i true)) a w)
    (hend : ∀ done a w, J done a w → Region.ready .any l.toArray done = [] → Q .normal a w) : (Code.region id l.toArray true).wp P Q a w := by
  refine wp_region_any hm (wpAny_inv hstep hend _ _ _ _ (by simp) (Nat.le_trans List.countP_le_length (by simp)) (by simpa using hstart))
/-- No operation waits for a later one. -/
def backB (l : List Oper) : Bool := (List.range l.length).all fun i => ((l.toArray[i]?).map fun o => o.after.all fun e => !Region.binds .any e || decide (e.on < i)).getD false
set_option maxRecDepth 3000 in
theorem all_done {l : List Oper} (hb : backB l = true) {done : Array Bool} (hs : done.size = l.length) (hr : Region.ready .any l.toArray done = []) : ∀ i, i < l.length → done.getD i false = true := by
  intro i
  induction i using Nat.strongRecOn with
  | ind i ih =>
    intro hi
    apply Classical.byContradiction
    intro hn
    have h1 : done.getD i true = false := by
      have : i < done.size := by omega
      simp [Array.getD, this] at hn ⊢
      exact hn
    have h2 : i ∈ Region.ready .any l.toArray done := by
      rw [mem_ready]
      have ho : l.toArray[i]? = some (l[i]'hi) := by simp [hi]
      refine ⟨h1, _, ho, fun e he hbd => ?_⟩
      have h3 := (List.all_eq_true.1 hb) i (by simpa using hi)
      rw [ho] at h3
      simp only [Option.map_some, Option.getD_some, Array.all_eq_true_iff_forall_mem, decide_eq_true_eq] at h3
      have h4 := h3 e he
      simp only [hbd, Bool.not_true, Bool.false_or, decide_eq_true_eq] at h4
      exact ih e.on h4 (by omega)
    rw [hr] at h2
    cases h2
set_option maxRecDepth 3000 in
/-- A region that draws its order, by an invariant that says at least how many operations there are; at the end all are done. -/
theorem region_all {id : Nat} {a : Act} {w : World} {l : List Oper} {J : Array Bool → Act → World → Prop} (hm : P.follows .mixedOrders = true) (hb : backB l = true) (hsz : ∀ done a w, J done a w → done.size = l.length)
    (hstart : J (Array.replicate l.length false) a { w with drawn := w.drawn + 1 })
    (hstep : ∀ done a w i, J done a w → i ∈ Region.ready .any l.toArray done → wpOp P l.toArray Q i (J (done.setIfInBounds i true)) a w)
    (hend : ∀ done a w, J done a w → (∀ i, i < l.length → done.getD i false = true) → Q .normal a w) : (Code.region id l.toArray true).wp P Q a w :=
  region_inv hm hstart hstep fun done a w hJ hr => hend done a w hJ (all_done hb (hsz _ _ _ hJ) hr)
set_option maxRecDepth 3000 in
/-- A step at an operation that is known, and has no guard. -/
theorem wpOp_at {i : Nat} {o : Oper} {K : Act → World → Prop} {a : Act} {w : World} (h : ops[i]? = some o) (hg : o.guard = none) (hw : o.wp P a w K Q) : wpOp P ops Q i K a w := by
  unfold wpOp
  rw [h]
  simp only [Region.wanted, hg]
  exact Or.inl hw
/-- An operation that i waits for. -/
def depB (ops : Array Oper) (i j : Nat) : Bool := ((ops[i]?).map fun o => o.after.any fun e => Region.binds .any e && e.on == j).getD false
set_option maxRecDepth 3000 in
theorem ready_dep {i j : Nat} {done : Array Bool} (hr : i ∈ Region.ready .any ops done) (h : depB ops i j = true) : done.getD j false = true := by
  obtain ⟨_, o, ho, hd⟩ := mem_ready.1 hr
  unfold depB at h
  rw [ho] at h
  simp only [Option.map_some, Option.getD_some] at h
  rw [← Array.any_toList, List.any_eq_true] at h
  obtain ⟨e, he, h⟩ := h
  simp only [Bool.and_eq_true, beq_iff_eq] at h
  obtain ⟨hb, rfl⟩ := h
  exact hd e (by simpa using he) hb
end
end Go.Proofs.YtnjagecmhdagkaaGreatDoor

/-
  Maps keyed by strings: a look-up, and a new key.
-/
namespace Go.Proofs.YtnjagecmhdagkaaGreatDoor
open Go.RowKit Go.MapKept

set_option maxRecDepth 3000 in
theorem ba_eq {a b : ByteArray} (h : (a == b) = true) : a = b := by
  obtain ⟨x⟩ := a
  obtain ⟨y⟩ := b
  have h2 : (x == y) = true := h
  have h3 : x = y := by simpa using h2
  rw [h3]
set_option maxRecDepth 3000 in
theorem ba_refl (a : ByteArray) : (a == a) = true := by
  obtain ⟨x⟩ := a
  show (x == x) = true
  simp
/-- Is a key this string? -/
def keyIs (v : Value) (k : ByteArray) : Bool := match v with | .string s => k == s | _ => false
def lookI : List MapEntry → ByteArray → Nat → Option (Nat × Value)
  | [], _, _ => none
  | e :: es, k, i => if keyIs e.key k then some (i, e.val) else lookI es k (i + 1)
/-- What a key has. -/
def look : List MapEntry → ByteArray → Option Value
  | [], _ => none
  | e :: es, k => if keyIs e.key k then some e.val else look es k
set_option maxRecDepth 3000 in
theorem lookI_look (es : List MapEntry) (k : ByteArray) : ∀ i, (lookI es k i).map (·.2) = look es k := by
  induction es with
  | nil => intro i; rfl
  | cons e es ih => intro i; unfold lookI look; split <;> simp [ih]
set_option maxRecDepth 3000 in
theorem look_push (es : List MapEntry) (e : MapEntry) (k : ByteArray) : look (es ++ [e]) k = (look es k).or (if keyIs e.key k then some e.val else none) := by
  induction es with
  | nil => simp [look]
  | cons x es ih => simp only [List.cons_append, look, ih]; split <;> simp
def StrKeys (es : List MapEntry) : Prop := ∀ e ∈ es, ∃ s, e.key = .string s
set_option maxRecDepth 3000 in
theorem findNow_str (k : ByteArray) (es : List MapEntry) : ∀ i, StrKeys es → Instr.findNow .string (.string k) es i = some (lookI es k i) := by
  induction es with
  | nil => intro i _; rfl
  | cons e es ih =>
    intro i h
    obtain ⟨s, hs⟩ := h e (by simp)
    have := ih (i + 1) (fun x hx => h x (by simp [hx]))
    have hn : Instr.sameNow .string (.string k) e.key = some (keyIs e.key k) := by rw [hs]; rfl
    unfold Instr.findNow lookI
    rw [hn]
    cases keyIs e.key k with
    | true => rfl
    | false => simpa using this
section
variable {P : Program} {w : World} {r clock : Nat} {es : Array MapEntry} {t kt et : TypeId}
set_option maxRecDepth 3000 in
theorem run_find_str (hk : P.underlying kt = some .string) (k : ByteArray) (hs : StrKeys es.toList) : (Instr.findKey kt (.string k) es.toList).run P w = .ok (lookI es.toList k 0) w := run_findKey hk (findNow_str k es.toList 0 hs)
set_option maxRecDepth 3000 in
theorem run_update_new (ht : P.underlying t = some (.map kt et)) (hk : P.underlying kt = some .string) (k : ByteArray) (v : Value) (hb : w.heap[r]? = some (.map es clock)) (hs : StrKeys es.toList) (hl : look es.toList k = none) :
    (Instr.mapUpdate t (.map (some r)) (.string k) v).run P w = .ok () { w with heap := w.heap.setIfInBounds r (.map (es.push { key := .string k, val := v, born := clock }) (clock + 1)) } := by
  have hf : lookI es.toList k 0 = none := by
    have := lookI_look es.toList k 0
    rw [hl] at this
    simpa using this
  unfold Instr.mapUpdate
  simp only [Sem.run_bind, run_underlying ht, Result.andThen_ok, Go.MapKept.run_getObj_map hb, run_checkKey hk (show IsKey .string (.string k) by simp [IsKey]), run_find_str hk k hs, hf, run_setObj_map _ hb]
set_option maxRecDepth 3000 in
theorem run_lookup_str (ht : P.underlying t = some (.map kt et)) (hk : P.underlying kt = some .string) (k : ByteArray) (z : Value) (hz : ∀ w, (zeroValue et).run P w = .ok z w) (hb : w.heap[r]? = some (.map es clock)) (hs : StrKeys es.toList) :
    (Instr.lookup t (.map (some r)) (.string k) true).run P w = .ok (.tuple #[(look es.toList k).getD z, .bool (look es.toList k).isSome]) w := by
  have hf := lookI_look es.toList k 0
  unfold Instr.lookup
  simp only [Sem.run_bind, run_underlying ht, Result.andThen_ok, Go.MapKept.run_getObj_map hb, Sem.run_pure, run_checkKey hk (show IsKey .string (.string k) by simp [IsKey]), run_find_str hk k hs]
  cases h : lookI es.toList k 0 with
  | none =>
    rw [h] at hf
    simp only [Option.map_none] at hf
    rw [← hf]
    simp [hz]
  | some x =>
    rw [h] at hf
    simp only [Option.map_some] at hf
    rw [← hf]
    simp
end
end Go.Proofs.YtnjagecmhdagkaaGreatDoor

/-
  Classes: named, the map of the classes, in whatever order its literal is laid.
-/
namespace Go.Proofs.YtnjagecmhdagkaaGreatDoor
open Go.RowKit Go.MapKept

set_option maxRecDepth 3000 in
theorem TellAll.two {lo : Nat} {w : World} {a b : Value} {p q : Int → Bool} (ha : Tells lo w a p) (hb : Tells lo w b q) : TellAll lo w [a, b] [p, q] := by
  refine ⟨rfl, fun i v r hv hr => ?_⟩
  match i, hv, hr with
  | 0, hv, hr => simp at hv hr; subst hv hr; exact ha
  | 1, hv, hr => simp at hv hr; subst hv hr; exact hb
  | i + 2, hv, _ => simp at hv
set_option maxRecDepth 3000 in
theorem TellAll.three {lo : Nat} {w : World} {a b c : Value} {p q r : Int → Bool} (ha : Tells lo w a p) (hb : Tells lo w b q) (hc : Tells lo w c r) : TellAll lo w [a, b, c] [p, q, r] := by
  refine ⟨rfl, fun i v r hv hr => ?_⟩
  match i, hv, hr with
  | 0, hv, hr => simp at hv hr; subst hv hr; exact ha
  | 1, hv, hr => simp at hv hr; subst hv hr; exact hb
  | 2, hv, hr => simp at hv hr; subst hv hr; exact hc
  | i + 3, hv, _ => simp at hv
set_option maxRecDepth 3000 in
theorem some_new (cs : Array Value) (ps : List (Int → Bool)) (lo g n cap : Nat) (w : World) (ty : TypeId) (hg : g = w.heap.size) (hlo : lo ≤ w.heap.size) (hn : n = cs.size) (hl : cs.size ≤ 1000000) (hT : TellAll lo w cs.toList ps) :
    Calls Tryz.prog 112 #[.slice (some ⟨g, 0, none⟩) n cap] (w.alloc (.cells cs ty)) (NewTellIn lo (someP ps) (w.alloc (.cells cs ty))) :=
  some_any cs.toList ps lo g 0 n cap _ (by simpa using hl) (by simpa using hn) (by omega) (by simp; omega) (by have := rd_new w cs ty cs.size g rfl hg; simpa using this) (hT.grows ((Grows.refl _).alloc _))

/-- What is said of an operation's value. -/
inductive Sp where
  | none
  | tell (p : Int → Bool)
  | row (ps : List (Int → Bool))
def SpOk (lo : Nat) (w : World) : Sp → Value → Prop
  | .none, _ => True
  | .tell p, v => Tells lo w v p
  | .row ps, v => ∃ (g n : Nat) (vs : List Value), v = .slice (some ⟨g, 0, none⟩) n n ∧ n = vs.length ∧ lo ≤ g ∧ n ≤ 1000000 ∧ Rd w 1 (some ⟨g, 0, none⟩) vs.length vs ∧ TellAll lo w vs ps
set_option maxRecDepth 3000 in
theorem SpOk.ext {lo : Nat} {w w' : World} {s : Sp} {v : Value} (h : SpOk lo w s v) (hg : Ext lo w w') : SpOk lo w' s v := by
  cases s with
  | none => trivial
  | tell p => exact Tells.ext h hg
  | row ps =>
    obtain ⟨g, n, vs, h1, h2, h3, h4, h5, h6⟩ := h
    exact ⟨g, n, vs, h1, h2, h3, h4, h5.ext h3 hg, h6.ext hg⟩
/-- The temporaries of the operations of the map. -/
def dsN : Nat → Option Nat
  | 0 => some 15
  | 1 => some 16
  | 3 => some 17
  | 5 => some 18
  | 7 => some 19
  | 9 => some 20
  | 11 => some 21
  | 12 => some 22
  | 13 => some 23
  | 14 => some 24
  | 16 => some 25
  | 17 => some 26
  | 18 => some 27
  | 19 => some 28
  | 20 => some 29
  | 22 => some 30
  | 23 => some 31
  | 24 => some 32
  | 25 => some 33
  | 27 => some 34
  | 28 => some 35
  | 29 => some 36
  | 30 => some 37
  | 32 => some 38
  | 33 => some 39
  | 34 => some 40
  | 35 => some 41
  | 37 => some 42
  | 39 => some 43
  | 41 => some 44
  | 42 => some 0
  | _ => none
/-- What is said of each. -/
def spN : Nat → Sp
  | 1 => .tell (spanP 97 122)
  | 3 => .tell (spanP 65 90)
  | 5 => .tell (spanP 48 57)
  | 7 => .tell (someP [(spanP 97 122), (spanP 65 90), (spanP 48 57)])
  | 9 => .tell (spanP 33 126)
  | 11 => .tell (spanP 97 122)
  | 12 => .tell (spanP 65 90)
  | 13 => .row [(spanP 97 122), (spanP 65 90)]
  | 14 => .tell (someP [(spanP 97 122), (spanP 65 90)])
  | 16 => .tell (spanP 48 57)
  | 17 => .tell (spanP 97 102)
  | 18 => .tell (spanP 65 70)
  | 19 => .row [(spanP 48 57), (spanP 97 102), (spanP 65 70)]
  | 20 => .tell (someP [(spanP 48 57), (spanP 97 102), (spanP 65 70)])
  | 22 => .tell (spanP 9 13)
  | 23 => .tell (spanP 32 32)
  | 24 => .row [(spanP 9 13), (spanP 32 32)]
  | 25 => .tell (someP [(spanP 9 13), (spanP 32 32)])
  | 27 => .tell (spanP 9 9)
  | 28 => .tell (spanP 32 32)
  | 29 => .row [(spanP 9 9), (spanP 32 32)]
  | 30 => .tell (someP [(spanP 9 9), (spanP 32 32)])
  | 32 => .tell (spanP 0 31)
  | 33 => .tell (spanP 127 127)
  | 34 => .row [(spanP 0 31), (spanP 127 127)]
  | 35 => .tell (someP [(spanP 0 31), (spanP 127 127)])
  | 37 => .tell (spanP 32 126)
  | 39 => .tell fun c => (spanP 33 126) c && !((someP [(spanP 97 122), (spanP 65 90), (spanP 48 57)]) c)
  | _ => .none
/-- The classes: a name, the operation that lays it, what it tells. -/
def clsL : List (ByteArray × Nat × (Int → Bool)) :=
  [(⟨#[108, 111, 119, 101, 114]⟩, 2, (spanP 97 122)),
   (⟨#[117, 112, 112, 101, 114]⟩, 4, (spanP 65 90)),
   (⟨#[100, 105, 103, 105, 116]⟩, 6, (spanP 48 57)),
   (⟨#[97, 108, 110, 117, 109]⟩, 8, (someP [(spanP 97 122), (spanP 65 90), (spanP 48 57)])),
   (⟨#[103, 114, 97, 112, 104]⟩, 10, (spanP 33 126)),
   (⟨#[97, 108, 112, 104, 97]⟩, 15, (someP [(spanP 97 122), (spanP 65 90)])),
   (⟨#[120, 100, 105, 103, 105, 116]⟩, 21, (someP [(spanP 48 57), (spanP 97 102), (spanP 65 70)])),
   (⟨#[115, 112, 97, 99, 101]⟩, 26, (someP [(spanP 9 13), (spanP 32 32)])),
   (⟨#[98, 108, 97, 110, 107]⟩, 31, (someP [(spanP 9 9), (spanP 32 32)])),
   (⟨#[99, 110, 116, 114, 108]⟩, 36, (someP [(spanP 0 31), (spanP 127 127)])),
   (⟨#[112, 114, 105, 110, 116]⟩, 38, (spanP 32 126)),
   (⟨#[112, 117, 110, 99, 116]⟩, 40, (fun c => (spanP 33 126) c && !((someP [(spanP 97 122), (spanP 65 90), (spanP 48 57)]) c)))]
def invN : Nat → Nat
  | 15 => 0
  | 16 => 1
  | 17 => 3
  | 18 => 5
  | 19 => 7
  | 20 => 9
  | 21 => 11
  | 22 => 12
  | 23 => 13
  | 24 => 14
  | 25 => 16
  | 26 => 17
  | 27 => 18
  | 28 => 19
  | 29 => 20
  | 30 => 22
  | 31 => 23
  | 32 => 24
  | 33 => 25
  | 34 => 27
  | 35 => 28
  | 36 => 29
  | 37 => 30
  | 38 => 32
  | 39 => 33
  | 40 => 34
  | 41 => 35
  | 42 => 37
  | 43 => 39
  | 44 => 41
  | _ => 42
set_option maxRecDepth 3000 in
theorem dsN_inv {i d : Nat} (h : dsN i = some d) : invN d = i := by
  unfold dsN at h
  split at h <;> first | (injection h with h; subst h; rfl) | cases h
set_option maxRecDepth 3000 in
theorem dsN_inj {i j d : Nat} (h : dsN i = some d) (k : dsN j = some d) : i = j := (dsN_inv h).symm.trans (dsN_inv k)
/-- The operation that lays a class, and what it tells. -/
def clsOf (k : ByteArray) : Option (Nat × (Int → Bool)) := (clsL.find? fun c => c.1 == k).map (·.2)
/-- What the map has, as far as it is laid. -/
def MapIn (lo : Nat) (done : Array Bool) (w : World) (es : List MapEntry) : Prop :=
  ∀ k, match clsOf k with
    | none => look es k = none
    | some (i, p) => if done.getD i false = true then ∃ v, look es k = some v ∧ Tells lo w v p else look es k = none
/-- The map, among the operations that are done. -/
structure NJ (lo : Nat) (w0 : World) (a0 : Act) (done : Array Bool) (a : Act) (w : World) : Prop where
  size : done.size = 43
  tmps : a.tmps.size = 45
  inp : ∀ t : Nat, 1 ≤ t → t ≤ 5 → a.eval (.tmp t) = a0.eval (.tmp t)
  defers : a.defers = a0.defers
  low : lo ≤ w0.heap.size
  grows : Grows w0 w
  ext : Ext lo w0 w
  sp : ∀ i d : Nat, dsN i = some d → done.getD i false = true → SpOk lo w (spN i) (a.eval (.tmp d))
  map : done.getD 0 false = true → ∃ r es clk, a.eval (.tmp 15) = .map (some r) ∧ w0.heap.size ≤ r ∧ w.heap[r]? = some (.map es clk) ∧ StrKeys es.toList ∧ MapIn lo done w es.toList
  none_ : done.getD 0 false = false → ∀ c ∈ clsL, done.getD c.2.1 false = false
  late : done.getD 0 false = false → done.getD 41 false = false ∧ done.getD 42 false = false
  last : done.getD 41 false = true → a.eval (.tmp 44) = a.eval (.tmp 15)
  back : done.getD 42 false = true → a.eval (.tmp 0) = a.eval (.tmp 15)
set_option maxRecDepth 3000 in
theorem eval_put (a : Act) (d t : Nat) (v : Value) (hd : d < a.tmps.size) : (a.put (some d) v).eval (.tmp t) = if d = t then v else a.eval (.tmp t) := by
  simp only [Act.put, Act.eval, Array.getD_eq_getD_getElem?, Array.getElem?_setIfInBounds]
  by_cases h : d = t
  · subst h; simp [hd]
  · simp [h]
set_option maxRecDepth 3000 in
theorem done_set {done : Array Bool} {i j : Nat} (hi : i < done.size) : (done.setIfInBounds i true).getD j false = if i = j then true else done.getD j false := by
  simp only [Array.getD_eq_getD_getElem?, Array.getElem?_setIfInBounds]
  by_cases h : i = j
  · subst h; simp [hi]
  · simp [h]
section
variable {lo : Nat} {w0 : World} {a0 : Act} {done : Array Bool} {a : Act} {w w' : World}
set_option maxRecDepth 3000 in
theorem NJ.maps (hJ : NJ lo w0 a0 done a w) (h0 : done.getD 0 false = true) (hg : Grows w w') {done' : Array Bool} (hd : ∀ c ∈ clsL, done'.getD c.2.1 false = done.getD c.2.1 false) : ∃ r es clk, a.eval (.tmp 15) = .map (some r) ∧ w0.heap.size ≤ r ∧ w'.heap[r]? = some (.map es clk) ∧ StrKeys es.toList ∧ MapIn lo done' w' es.toList := by
  obtain ⟨r, es, clk, h1, h2, h3, h4, h5⟩ := hJ.map h0
  refine ⟨r, es, clk, h1, h2, ?_, h4, fun k => ?_⟩
  · obtain ⟨m, rfl⟩ := hg
    rw [heap_more _ _ _ (Array.getElem?_eq_some_iff.1 h3).1]; exact h3
  · have h6 := h5 k
    cases hc : clsOf k with
    | none => rw [hc] at h6; exact h6
    | some x =>
      obtain ⟨i, p⟩ := x
      rw [hc] at h6
      have hm : done'.getD i false = done.getD i false := by
        unfold clsOf at hc
        rw [Option.map_eq_some_iff] at hc
        obtain ⟨c, hc1, hc2⟩ := hc
        have := hd c (List.mem_of_find?_eq_some hc1)
        rw [hc2] at this
        exact this
      simp only [hm] at h6 ⊢
      split
      · rename_i hh
        rw [if_pos hh] at h6
        obtain ⟨v, hv1, hv2⟩ := h6
        exact ⟨v, hv1, hv2.grows hg⟩
      · rename_i hh
        rw [if_neg hh] at h6
        exact h6
set_option maxRecDepth 3000 in
/-- An operation that lays a value, and new blocks at most. -/
theorem NJ.put (hJ : NJ lo w0 a0 done a w) (i d : Nat) (v : Value) (hd : dsN i = some d) (hr : 16 ≤ d ∧ d ≤ 43) (hne : ∀ c ∈ clsL, c.2.1 ≠ i) (hi : i < 43) (hw : Grows w w') (hv : SpOk lo w' (spN i) v) : NJ lo w0 a0 (done.setIfInBounds i true) (a.put (some d) v) w' := by
  have hsz := hJ.size
  have htm := hJ.tmps
  have hev : ∀ t, t ≠ d → (a.put (some d) v).eval (.tmp t) = a.eval (.tmp t) := fun t ht => by rw [eval_put _ _ _ _ (by omega), if_neg (Ne.symm ht)]
  have h0 : i ≠ 0 := by rintro rfl; cases hd; omega
  have h41 : i ≠ 41 := by rintro rfl; cases hd; omega
  have h42 : i ≠ 42 := by rintro rfl; cases hd; omega
  refine ⟨by simp [hsz], by simp [Act.put, htm], fun t h1 h2 => (hev t (by have := hr.1; omega)).trans (hJ.inp t h1 h2), hJ.defers, hJ.low, hJ.grows.trans hw, hJ.ext.trans (hw.ext lo), fun j e he hdn => ?_, fun h => ?_, fun h c hc => ?_, fun h => ?_, fun h => ?_, fun h => ?_⟩
  · by_cases hij : i = j
    · subst hij
      obtain rfl : d = e := by rw [hd] at he; injection he
      rw [eval_put _ _ _ _ (by omega), if_pos rfl]
      exact hv
    · rw [done_set (by omega), if_neg hij] at hdn
      have hde : e ≠ d := by rintro rfl; exact hij (dsN_inj hd he)
      rw [hev e hde]
      exact (hJ.sp j e he hdn).ext (hw.ext lo)
  · rw [done_set (by omega), if_neg h0] at h
    rw [hev 15 (by omega)]
    exact hJ.maps h hw fun c hc => by rw [done_set (by omega), if_neg (Ne.symm (hne c hc))]
  · rw [done_set (by omega), if_neg h0] at h
    rw [done_set (by omega), if_neg (Ne.symm (hne c hc))]
    exact hJ.none_ h c hc
  · rw [done_set (by omega), if_neg h0] at h
    rw [done_set (by omega), if_neg h41, done_set (by omega), if_neg h42]
    exact hJ.late h
  · rw [done_set (by omega), if_neg h41] at h
    rw [hev 44 (by omega), hev 15 (by omega)]
    exact hJ.last h
  · rw [done_set (by omega), if_neg h42] at h
    rw [hev 0 (by omega), hev 15 (by omega)]
    exact hJ.back h
end
end Go.Proofs.YtnjagecmhdagkaaGreatDoor
