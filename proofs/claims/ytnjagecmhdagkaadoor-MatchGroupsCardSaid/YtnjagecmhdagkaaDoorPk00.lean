/-
  Small laws for the walks of this seat: a world with more blocks behind it ('more'), a block's cells as a function ('blk'), whole arrays loaded and stored without unrolling.
-/
import Derived.Test.YtnjagecmhdagkaaDoorRows
import Derived.WalkKit
import Derived.WalkSpells
import Derived.WalkLawsBesides
import Derived.Deep.QuietTactic
import Derived.BigQuiet
import Derived.Deep.MidRow
import Derived.Lib.Hide
import Derived.Deep.RegionHeld3
import Derived.Deep.DeepCutAuto
set_option linter.unusedSimpArgs false
set_option linter.unusedVariables false
namespace Go.Proofs.YtnjagecmhdagkaaDoor
open Go.RowKit

/-- A number of kind int. -/
def I64 (n : Int) : Prop := -9223372036854775808 ≤ n ∧ n ≤ 9223372036854775807
set_option maxRecDepth 3000 in
theorem i64 {n : Int} (h : -9223372036854775808 ≤ n) (k : n ≤ 9223372036854775807) : I64 n := ⟨h, k⟩
/-- Blocks that are laid behind a world's own, and how many draws are counted. -/
structure More where
  bs : Array Obj
  n : Nat
instance : Nonempty More := ⟨⟨#[], 0⟩⟩
/-- The world w with the blocks m.1 laid behind its own, and its draws counted to m.2. -/
def more (w : World) (m : More) : World := { w with heap := w.heap ++ m.1, drawn := m.2 }
/-- w' is w with blocks laid behind its own. -/
def Grows (w w' : World) : Prop := ∃ m, w' = more w m

/-- Block g is there. -/
def InHeap (g : Nat) (w : World) : Prop := g < w.heap.size
section
variable (w : World) (m : More) (g n : Nat) (o : Obj) (a : Addr) (v : Value)
set_option maxRecDepth 3000 in
@[go_sem] theorem inHeap_alloc : InHeap g (w.alloc o) ↔ (InHeap g w ∨ g = w.heap.size) := by unfold InHeap; simp; omega
set_option maxRecDepth 3000 in
@[go_sem] theorem inHeap_more : InHeap g (more w m) ↔ (InHeap g w ∨ (w.heap.size ≤ g ∧ g < w.heap.size + m.1.size)) := by unfold InHeap more; simp; omega
set_option maxRecDepth 3000 in
@[go_sem] theorem inHeap_drew : InHeap g w.drew ↔ InHeap g w := Iff.rfl
set_option maxRecDepth 3000 in
@[go_sem] theorem inHeap_drewN : InHeap g (w.drewN n) ↔ InHeap g w := Iff.rfl
set_option maxRecDepth 3000 in
@[go_sem] theorem inHeap_setCell : InHeap g (w.setCell a v) ↔ InHeap g w := by unfold InHeap; simp
end
section
variable (w : World) (m k : More) (a : Addr)
set_option maxRecDepth 3000 in
@[simp, go_sem] theorem size_more : (more w m).heap.size = w.heap.size + m.1.size := by simp [more]
set_option maxRecDepth 3000 in
@[simp, go_sem] theorem tape_more : (more w m).tape = w.tape := rfl
set_option maxRecDepth 3000 in
theorem heap_more (i : Nat) (h : i < w.heap.size) : (more w m).heap[i]? = w.heap[i]? := by
  show (w.heap ++ m.1)[i]? = _
  rw [Array.getElem?_append_left h]
set_option maxRecDepth 3000 in
@[go_sem] theorem cell_more (h : InHeap a.block w) : (more w m).cell? a = w.cell? a := World.cell?_of_block (heap_more w m _ h)
set_option maxRecDepth 3000 in
@[go_sem] theorem frozen_more (h : InHeap a.block w) : (more w m).frozen? a = w.frozen? a := World.frozen?_of_block (heap_more w m _ h)
set_option maxRecDepth 3000 in
theorem more_more : more (more w m) k = more w ⟨m.1 ++ k.1, k.2⟩ := by
  simp [more, Array.append_assoc]
set_option maxRecDepth 3000 in
@[simp, go_sem] theorem drew_more : (more w m).drew = more w ⟨m.1, m.2 + 1⟩ := rfl
set_option maxRecDepth 3000 in
@[simp, go_sem] theorem drewN_more (n : Nat) : (more w m).drewN n = more w ⟨m.1, m.2 + n⟩ := rfl
set_option maxRecDepth 3000 in
@[simp, go_sem] theorem more_drew : more w.drew m = more w m := rfl
set_option maxRecDepth 3000 in
@[simp, go_sem] theorem more_drewN (n : Nat) : more (w.drewN n) m = more w m := rfl
set_option maxRecDepth 3000 in
theorem more_self : w = more w ⟨#[], w.drawn⟩ := by simp [more]
set_option maxRecDepth 3000 in
theorem setCell_more (i : Nat) (n : Nat) (v : Value) (h : InHeap n w) : (more w m).setCell ⟨n, i, none⟩ v = more (w.setCell ⟨n, i, none⟩ v) m := by
  unfold InHeap at h
  unfold World.setCell more
  congr 1
  apply Array.ext_getElem?
  intro j
  simp only [Array.getElem?_modify, Array.getElem?_append, Array.size_modify]
  by_cases hj : n = j
  · subst hj
    simp [h]
  · simp [hj]
end
attribute [go_sem] setCell_more
set_option maxRecDepth 3000 in
theorem Grows.refl (w : World) : Grows w w := ⟨_, more_self w⟩
set_option maxRecDepth 3000 in
theorem Grows.trans {a b c : World} (h : Grows a b) (k : Grows b c) : Grows a c := by
  obtain ⟨m, rfl⟩ := h
  obtain ⟨n, rfl⟩ := k
  exact ⟨_, more_more _ _ _⟩
set_option maxRecDepth 3000 in
theorem Grows.of (w : World) (m : More) : Grows w (more w m) := ⟨m, rfl⟩
set_option maxRecDepth 3000 in
theorem Grows.below {w w' : World} (h : Grows w w') : Below w.heap.size w w' := by
  obtain ⟨m, rfl⟩ := h
  exact ⟨rfl, rfl, rfl, by simp, fun k hk => heap_more w m k hk⟩
set_option maxRecDepth 3000 in
theorem Grows.of_below {w w' : World} (h : Below w.heap.size w w') : Grows w w' := by
  refine ⟨⟨w'.heap.extract w.heap.size w'.heap.size, w'.drawn⟩, ?_⟩
  have he : w'.heap = w.heap ++ w'.heap.extract w.heap.size w'.heap.size := by
    apply Array.ext_getElem?
    intro i
    have hs := h.size
    rcases Nat.lt_or_ge i w.heap.size with hi | hi
    · rw [h.block i hi, Array.getElem?_append_left hi]
    · rw [Array.getElem?_append_right hi]
      rcases Nat.lt_or_ge i w'.heap.size with hj | hj
      · rw [Array.getElem?_extract]
        rw [if_pos (by omega)]
        congr 1
        omega
      · rw [Array.getElem?_eq_none hj, Array.getElem?_eq_none (by simp; omega)]
  cases w' with
  | mk hp tp dr os ou =>
    have h1 : os = w.os := h.os
    have h2 : tp = w.tape := h.tape
    have h3 : ou = w.output := h.output
    subst h1 h2 h3
    simp only [more]
    congr 1
set_option maxRecDepth 3000 in
theorem Grows.alloc {a w : World} (h : Grows a w) (o : Obj) : Grows a (w.alloc o) := by
  obtain ⟨m, rfl⟩ := h
  exact ⟨⟨m.1.push o, m.2⟩, by simp [more, World.alloc]⟩
set_option maxRecDepth 3000 in
theorem Grows.drew {a w : World} (h : Grows a w) : Grows a w.drew := by
  obtain ⟨m, rfl⟩ := h
  exact ⟨_, drew_more _ _⟩
set_option maxRecDepth 3000 in
theorem Grows.drewN {a w : World} (h : Grows a w) (n : Nat) : Grows a (w.drewN n) := by
  obtain ⟨m, rfl⟩ := h
  exact ⟨_, drewN_more _ _ _⟩
set_option maxRecDepth 3000 in
theorem Grows.more {a w : World} (h : Grows a w) (m : More) : Grows a (more w m) := h.trans ⟨m, rfl⟩
set_option maxRecDepth 3000 in
theorem Grows.setCell {a w : World} (h : Grows a w) {p : Addr} (hp : a.heap.size ≤ p.block) (v : Value) : Grows a (w.setCell p v) := Grows.of_below (h.below.setCell hp v)

section
variable (w : World) (o : Obj) (n i : Nat) (v : Value)
set_option maxRecDepth 3000 in
@[go_sem] theorem cell_alloc_in (h : InHeap n w) : (w.alloc o).cell? ⟨n, i, none⟩ = w.cell? ⟨n, i, none⟩ := World.cell?_alloc_past o n i h
set_option maxRecDepth 3000 in
@[go_sem] theorem frozen_alloc_in (h : InHeap n w) : (w.alloc o).frozen? ⟨n, i, none⟩ = w.frozen? ⟨n, i, none⟩ := World.frozen?_alloc_past o n i h
set_option maxRecDepth 3000 in
@[go_sem] theorem setCell_alloc_in (h : InHeap n w) : (w.alloc o).setCell ⟨n, i, none⟩ v = (w.setCell ⟨n, i, none⟩ v).alloc o := World.setCell_alloc_past o n i v h
end

/-- The cells of block g that may be written; none: it is no such block. -/
def blk (w : World) (g : Nat) : Array Value :=
  match w.heap[g]? with
  | some (.cells c _ (0, 0)) => c
  | _ => #[]
/-- Other cells in block g. -/
def setBlk (w : World) (g : Nat) (c : Array Value) : World := w.setRow g c
section
variable (w : World) (m : More) (c c' : Array Value) (t : TypeId) (o : Obj) (g i n : Nat)
set_option maxRecDepth 3000 in
@[go_sem] theorem blk_alloc_at (h : g = w.heap.size) : blk (w.alloc (.cells c t)) g = c := by
  subst h; unfold blk; rw [heap_alloc_new]; rfl
set_option maxRecDepth 3000 in
@[go_sem] theorem blk_alloc_past (h : InHeap g w) : blk (w.alloc o) g = blk w g := by
  unfold blk; rw [Below.heap_alloc _ _ _ h]
set_option maxRecDepth 3000 in
@[go_sem] theorem blk_more (h : InHeap g w) : blk (more w m) g = blk w g := by
  unfold blk; rw [heap_more _ _ _ h]
set_option maxRecDepth 3000 in
@[go_sem] theorem blk_drew : blk w.drew g = blk w g := rfl
set_option maxRecDepth 3000 in
@[go_sem] theorem blk_drewN : blk (w.drewN n) g = blk w g := rfl
set_option maxRecDepth 3000 in
@[go_sem] theorem setBlk_alloc_at (h : g = w.heap.size) : setBlk (w.alloc (.cells c t)) g c' = w.alloc (.cells c' t) := by
  subst h
  simp only [setBlk, World.setRow, World.alloc]
  congr 1
  apply Array.ext_getElem?
  intro i
  rw [Array.getElem?_modify]
  by_cases h : w.heap.size = i
  · subst h
    simp
  · have h' : ¬ i = w.heap.size := fun e => h e.symm
    simp [h, h', Array.getElem?_push]
set_option maxRecDepth 3000 in
@[go_sem] theorem setBlk_alloc_past (h : InHeap g w) : setBlk (w.alloc o) g c' = (setBlk w g c').alloc o := by
  unfold InHeap at h
  unfold setBlk World.setRow World.alloc
  congr 1
  apply Array.ext_getElem?
  intro k
  simp only [Array.getElem?_modify, Array.getElem?_push, Array.size_modify]
  by_cases hk : k = w.heap.size
  · subst hk
    simp [Nat.ne_of_lt h]
  · simp [hk]
set_option maxRecDepth 3000 in
@[go_sem] theorem setBlk_more (h : InHeap g w) : setBlk (more w m) g c' = more (setBlk w g c') m := by
  unfold InHeap at h
  unfold setBlk World.setRow more
  congr 1
  apply Array.ext_getElem?
  intro j
  simp only [Array.getElem?_modify, Array.getElem?_append, Array.size_modify]
  by_cases hj : g = j
  · subst hj
    simp [h]
  · simp [hj]
set_option maxRecDepth 3000 in
@[go_sem] theorem setBlk_drew : setBlk w.drew g c' = (setBlk w g c').drew := rfl
set_option maxRecDepth 3000 in
@[go_sem] theorem setBlk_drewN : setBlk (w.drewN n) g c' = (setBlk w g c').drewN n := rfl
set_option maxRecDepth 3000 in
theorem blk_some (h : 0 < (blk w g).size) : ∃ t, w.heap[g]? = some (.cells (blk w g) t (0, 0)) := by
  unfold blk at *
  split at h
  · rename_i c t he
    exact ⟨t, he⟩
  · simp at h
end
section
variable {P : Program} (w : World)
set_option maxRecDepth 3000 in
/-- A whole row or struct read out of its block. -/
theorem run_loadAt_blk (ty : TypeId) (g n : Nat) (d : TypeDesc) (hu : P.underlying ty = some d) (hd : d.isRow = true) (hi : (P.info? ty).map (·.size) = some n) (hn : 0 < n) (hs : (blk w g).size = n) :
    (Instr.loadAt ty (.pointer (some ⟨g, 0, none⟩))).run P w = .ok (.agg (blk w g)) w := by
  obtain ⟨t, ht⟩ := blk_some w g (by omega)
  simp only [Instr.loadAt, Instr.sureAddr, Sem.run_bind, Sem.run_pure, Result.andThen_ok]
  exact run_loadVar_row w g t ty (blk w g) (0, 0) d ht hu (by cases d <;> simp_all [TypeDesc.isRow]) (by rw [hi, hs])
set_option maxRecDepth 3000 in
/-- A whole row or struct stored into its block. -/
theorem run_storeAt_blk (ty : TypeId) (g n : Nat) (c : Array Value) (hi : (P.info? ty).map (·.size) = some n) (hn : 0 < n) (hs : (blk w g).size = n) (hc : c.size = n) (h1 : c.all (·.oneCell') = true) :
    (Instr.storeAt ty (.pointer (some ⟨g, 0, none⟩)) (.agg c)).run P w = .ok () (setBlk w g c) := by
  obtain ⟨t, ht⟩ := blk_some w g (by omega)
  simp only [Instr.storeAt, Instr.sureAddr, Sem.run_bind, Sem.run_pure, Result.andThen_ok]
  exact run_storeVar_row w g t ty (blk w g) c ht (by rw [hi, hc]) (by omega) h1
end

set_option maxRecDepth 3000 in
/-- All cells of a block at once, as the walk comes to them. -/
theorem run_loadCells_blk {P : Program} (w : World) (g n : Nat) (hn : 0 < n) (hs : (blk w g).size = n) : (loadCellsFrom ⟨g, 0, none⟩ 0 n #[]).run P w = .ok (blk w g) w := by
  obtain ⟨t, ht⟩ := blk_some w g (by omega)
  subst hs
  have := run_loadCells_list (P := P) w ⟨g, 0, none⟩ (blk w g).toList (fun j v hv => by
    have hadd : (⟨g, 0, none⟩ : Addr).add j = ⟨g, j, none⟩ := by unfold Addr.add; split <;> simp_all
    rw [hadd, cell_of_row _ _ j _ t (0, 0) ht]
    simpa using hv)
  simpa [loadCells] using this
/-- Each of them is the value of one cell. -/
def OneCells (c : Array Value) : Prop := c.all (·.oneCell') = true
set_option maxRecDepth 3000 in
theorem run_storeCells_blk {P : Program} (w : World) (g : Nat) (c : Array Value) (hn : 0 < c.size) (hs : (blk w g).size = c.size) (h1 : OneCells c) :
    (storeCells ⟨g, 0, none⟩ c.toList 0).run P w = .ok () (setBlk w g c) := by
  obtain ⟨t, ht⟩ := blk_some w g (by omega)
  have := run_storeCells_from (P := P) g t c.toList 0 (blk w g) w ht (by simp [hs]) (fun v hv => (Array.all_eq_true_iff_forall_mem.1 h1) v (by simpa using hv))
  simpa [setBlk] using this
/-- A row of many cells, all at once: kept closed till its world is known. -/
def loadAll (P : Program) (w : World) (g n : Nat) : Result (Array Value) := (loadCellsFrom ⟨g, 0, none⟩ 0 n #[]).run P w
set_option maxRecDepth 3000 in
theorem run_loadAll {P : Program} (w : World) (g n : Nat) : (loadCellsFrom ⟨g, 0, none⟩ 0 (n + 6) #[]).run P w = loadAll P w g (n + 6) := rfl
set_option maxRecDepth 3000 in
theorem loadAll_blk {P : Program} (w : World) (g n : Nat) (hn : 0 < n) (hs : (blk w g).size = n) : loadAll P w g n = .ok (blk w g) w := run_loadCells_blk w g n hn hs
/-- .. where the block has not so many cells. -/
def loadOdd (P : Program) (w : World) (g n : Nat) : Result (Array Value) := loadAll P w g n
set_option maxRecDepth 3000 in
theorem loadAll_if {P : Program} (w : World) (g n : Nat) : loadAll P w g n = if 0 < n ∧ (blk w g).size = n then .ok (blk w g) w else loadOdd P w g n := by
  split
  · rename_i h; exact loadAll_blk w g n h.1 h.2
  · rfl
/-- .. a store that does not fit. -/
def storeOdd (P : Program) (w : World) (g : Nat) (c : Array Value) : Result Unit := (storeCells ⟨g, 0, none⟩ c.toList 0).run P w
set_option maxRecDepth 3000 in
theorem run_storeCells_if {P : Program} (w : World) (g : Nat) (c : Array Value) (h1 : OneCells c) :
    (storeCells ⟨g, 0, none⟩ c.toList 0).run P w = if 0 < c.size ∧ (blk w g).size = c.size then .ok () (setBlk w g c) else storeOdd P w g c := by
  split
  · rename_i h; exact run_storeCells_blk w g c h.1 h.2 h1
  · rfl
attribute [go_sem ↓] run_loadAll
attribute [go_sem] loadAll_if run_storeCells_if
set_option maxRecDepth 3000 in
/-- An element of an array that is a value. -/
@[go_sem] theorem run_index_agg {P : Program} (w : World) (t : TypeId) (cs : Array Value) (k : IntKind) (i : Int) (h : P.underlying t = some (.array (P.arrayLen t) (P.elem t))) :
    (Instr.index t (.agg cs) (.int k i)).run P w = if 0 ≤ i ∧ i < P.arrayLen t then ((sizeOf (P.elem t)).run P w).andThen fun s w => (part (P.elem t) cs (i.toNat * s)).run P w else (boundsPanic k i (P.arrayLen t) .index).run P w := by
  simp [Instr.index, run_underlying h, asIntOf]

/-- v points to a block with the cells o that was laid behind X's own, among others. -/
def FreshIn (X : World) (o : Obj) (v : Value) (W : World) : Prop := ∃ m1 m2, v = .pointer (some ⟨(more X m1).heap.size, 0, none⟩) ∧ W = more ((more X m1).alloc o) m2
set_option maxRecDepth 3000 in
theorem FreshIn.early (X : World) (o : Obj) (m1 m2 : More) (n : Nat) (h : n = (more X m1).heap.size) : FreshIn X o (.pointer (some ⟨n, 0, none⟩)) (more ((more X m1).alloc o) m2) := ⟨m1, m2, by rw [h], rfl⟩
set_option maxRecDepth 3000 in
theorem FreshIn.late {X Y : World} (hg : Grows X Y) (o : Obj) (n : Nat) (h : n = Y.heap.size) : FreshIn X o (.pointer (some ⟨n, 0, none⟩)) (Y.alloc o) := by
  obtain ⟨m, rfl⟩ := hg
  exact ⟨m, _, by rw [h], more_self _⟩

/-! ### arrays that are the same -/
set_option maxRecDepth 3000 in
theorem run_equalIn_array_same {P : Program} (w : World) (d : Nat) (t e : TypeId) (n : Nat) (xs : Array Value) (ht : P.underlying t = some (.array n e)) (hs : ∀ w, (sizeOf e).run P w = .ok 1 w)
    (hp : ∀ i, i < n → ∃ v, ∀ w, (part e xs i).run P w = .ok v w ∧ (Op.equalIn d e v v).run P w = .ok true w) :
    (Op.equalIn (d + 1) t (.agg xs) (.agg xs)).run P w = .ok true w := by
  simp only [Op.equalIn, Sem.run_bind, run_underlying ht, Result.andThen_ok, hs]
  rw [Std.Legacy.Range.forIn_eq_forIn_range']
  have hl : ∀ i ∈ List.range' [:n].start [:n].size [:n].step, i < n := by
    intro i hi
    simp [List.mem_range', Std.Legacy.Range.size] at hi
    omega
  generalize List.range' [:n].start [:n].size [:n].step = l at hl
  induction l generalizing w with
  | nil => simp
  | cons i l ih =>
    obtain ⟨v, hv⟩ := hp i (hl i (by simp))
    simp only [List.forIn_cons, Sem.run_bind, Nat.mul_one, (hv _).1, (hv _).2, Result.andThen_ok, Bool.not_true, Bool.false_eq_true, if_false, Sem.run_pure]
    have := ih w (fun j hj => hl j (by simp [hj]))
    simpa using this

/-! ### a slice that reads as a list -/
/-- The slice with address A and n elements of 'size' cells holds the cells xs. -/
def Rd (w : World) (size : Nat) (A : Option Addr) (n : Nat) (xs : List Value) : Prop :=
  xs.length = n * size ∧ (0 < n → ∃ b o, A = some ⟨b, o, none⟩ ∧ b < w.heap.size ∧ ∀ j u, xs[j]? = some u → w.cell? ⟨b, o + j, none⟩ = some u)
section
variable {w w' : World} {size n : Nat} {A : Option Addr} {xs : List Value}
set_option maxRecDepth 3000 in
theorem Rd.grows (h : Rd w size A n xs) (hg : Grows w w') : Rd w' size A n xs :=
  ⟨h.1, fun hn => by
    obtain ⟨b, o, e, hb, hc⟩ := h.2 hn
    obtain ⟨m, rfl⟩ := hg
    exact ⟨b, o, e, by simp; omega, fun j u hu => by rw [cell_more w m ⟨b, o + j, none⟩ hb]; exact hc j u hu⟩⟩
set_option maxRecDepth 3000 in
theorem Rd.nil_ : Rd w size A 0 [] := ⟨by simp, fun h => absurd h (by omega)⟩
set_option maxRecDepth 3000 in
theorem Rd.at_ (h : Rd w size A n xs) {j : Nat} (hj : j < xs.length) : ∃ b o, A = some ⟨b, o, none⟩ ∧ b < w.heap.size ∧ w.cell? ⟨b, o + j, none⟩ = some xs[j] := by
  have hn : 0 < n := by
    have := h.1
    rcases Nat.eq_zero_or_pos n with e | e
    · subst e; simp at this; simp [this] at hj
    · exact e
  obtain ⟨b, o, e, hb, hc⟩ := h.2 hn
  exact ⟨b, o, e, hb, hc j _ (List.getElem?_eq_getElem hj)⟩
end

/-! ### a region that draws its order, in a world that may grow -/
set_option maxRecDepth 3000 in
theorem region_grows {P : Program} {id : Nat} {Q : Exit → Act → World → Prop} {a : Act} {w : World} {l : List Oper} (hm : P.follows .mixedOrders = true) (hB : Region.lexB .any l.toArray = true)
    (h : wpQuiet P l.toArray (fun w' => ∃ m, w' = more w m) (fun a' => ∀ w', (∃ m, w' = more w m) → Q .normal a' w') l a) : (Code.region id l.toArray true).wp P Q a w :=
  wp_region_quiet (C := fun w' => ∃ m, w' = more w m) hm hB ⟨⟨#[], w.drawn + 1⟩, by simp [more]⟩ (by simpa using h)
set_option maxRecDepth 3000 in
/-- A callee's contract inside such a region. -/
theorem calls_grows {P : Program} {f : FuncId} {args : Array Value} {w : World} {m : More} {v : Value}
    (h : Calls P f args (more w m) fun e w' => e = .returned v ∧ Grows (more w m) w') : Calls P f args (more w m) fun e w'' => e = .returned v ∧ ∃ k, w'' = more w k :=
  h.mono fun _ _ ⟨he, hk⟩ => ⟨he, (Grows.of w m).trans hk⟩

end Go.Proofs.YtnjagecmhdagkaaDoor
