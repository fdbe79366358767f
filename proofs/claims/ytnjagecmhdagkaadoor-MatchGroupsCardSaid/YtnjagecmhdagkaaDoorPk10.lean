/-
  A row of cells within a block: read and written at once, without unrolling.
-/
import Derived.Test.YtnjagecmhdagkaaDoorPk02
import Derived.Laws.Rows
set_option linter.unusedSimpArgs false
set_option linter.unusedVariables false
namespace Go.Proofs.YtnjagecmhdagkaaDoor
open Go.RowKit

/-- The cells c, from the o-th on those of d. -/
def over (c : Array Value) (o : Nat) (d : Array Value) : Array Value := (c.toList.take o ++ d.toList ++ c.toList.drop (o + d.size)).toArray
/-- Some of the cells. -/
def span (c : Array Value) (o n : Nat) : Array Value := ((c.toList.drop o).take n).toArray
set_option maxRecDepth 3000 in
theorem over_size (c d : Array Value) (o : Nat) (h : o + d.size ≤ c.size) : (over c o d).size = c.size := by
  simp [over]; omega
section
variable {P : Program} (w : World)
set_option maxRecDepth 3000 in
theorem add_off (g o i : Nat) : (⟨g, o, none⟩ : Addr).add i = ⟨g, o + i, none⟩ := by unfold Addr.add; split <;> simp_all
set_option maxRecDepth 3000 in
/-- A row read by its cells. -/
theorem run_loadVar_cells (g o : Nat) (ty : TypeId) (cs : List Value) (d : TypeDesc) (hc : ∀ j v, cs[j]? = some v → w.cell? ⟨g, o + j, none⟩ = some v) (hu : P.underlying ty = some d) (hd : d.isRow = true) (hi : (P.info? ty).map (·.size) = some cs.length) :
    (loadVar ty ⟨g, o, none⟩).run P w = .ok (.agg cs.toArray) w := by
  have hl : (loadCells ⟨g, o, none⟩ cs.length).run P w = .ok cs.toArray w := run_loadCells_list (P := P) w ⟨g, o, none⟩ cs (fun j v hv => by rw [add_off]; exact hc j v hv)
  cases hq : P.info? ty with
  | none => simp [hq] at hi
  | some i =>
    have hs : i.size = cs.length := by simpa [hq] using hi
    have hagg : (isAgg ty).run P w = .ok true w := by
      unfold isAgg
      rw [Sem.run_bind, run_underlying hu w]
      cases d <;> simp_all [TypeDesc.isRow]
    simp [loadVar, Sem.run_bind, hagg, sizeOf, typeInfo, hq, hs, hl]
set_option maxRecDepth 3000 in
theorem wpList_load_cells {ops : Array Oper} {rest : List Oper} {o : Oper} {a : Act} {Q : Exit → Act → World → Prop} (hgd : o.guard = none) (ty : TypeId) (x : Operand) (ho : o.op = .load ty x)
    (g f : Nat) (hx : a.eval x = .pointer (some ⟨g, f, none⟩)) (cs : List Value) (d : TypeDesc) (hc : ∀ j v, cs[j]? = some v → w.cell? ⟨g, f + j, none⟩ = some v)
    (hu : P.underlying ty = some d) (hd : d.isRow = true) (hi : (P.info? ty).map (·.size) = some cs.length)
    (h : wpList P ops Q rest (a.put o.dst (.agg cs.toArray)) w) : wpList P ops Q (o :: rest) a w :=
  wpList_plain hgd fun _ hK => by
    unfold Oper.wp execOp
    simp only [ho, hx, Instr.loadAt, Instr.sureAddr, Sem.run_bind, Sem.run_pure, Result.andThen_ok, run_loadVar_cells w g f ty cs d hc hu hd hi]
    exact hK _ _ h
/-- Kept closed till its world is known. -/
def loadPart (P : Program) (w : World) (ty : TypeId) (g o n : Nat) : Result Value := (Instr.loadAt ty (.pointer (some ⟨g, o, none⟩))).run P w
def loadPartOdd (P : Program) (w : World) (ty : TypeId) (g o n : Nat) : Result Value := loadPart P w ty g o n
/-- What tells of a type that its values are rows of n cells. -/
def RowOf (P : Program) (ty : TypeId) (n : Nat) : Prop := ∃ d, P.underlying ty = some d ∧ d.isRow = true ∧ (P.info? ty).map (·.size) = some n
set_option maxRecDepth 3000 in
theorem loadPart_if (ty : TypeId) (g o n : Nat) (h : RowOf P ty n) : loadPart P w ty g o n = if 0 < n ∧ o + n ≤ (blk w g).size then .ok (.agg (span (blk w g) o n)) w else loadPartOdd P w ty g o n := by
  obtain ⟨d, hu, hd, hi⟩ := h
  split
  · rename_i hs
    unfold loadPart
    have hlen : ((((blk w g).toList.drop o).take n)).length = n := by simp; omega
    obtain ⟨t, ht⟩ := blk_some w g (by omega)
    simp only [Instr.loadAt, Instr.sureAddr, Sem.run_bind, Sem.run_pure, Result.andThen_ok]
    rw [run_loadVar_cells w g o ty ((((blk w g).toList.drop o).take n)) d (fun j v hv => ?_) hu hd (by rw [hi, hlen])]
    · rfl
    · rw [cell_of_row w g _ _ t _ ht]
      rw [List.getElem?_take] at hv
      split at hv
      · rw [List.getElem?_drop] at hv
        simpa using hv
      · cases hv
  · rfl
set_option maxRecDepth 3000 in
theorem run_storeCells_part (g o : Nat) (t : TypeId) : ∀ (vs : List Value) (i : Nat) (cur : Array Value) (w : World), w.heap[g]? = some (.cells cur t (0, 0)) → o + i + vs.length ≤ cur.size → (∀ v ∈ vs, v.oneCell' = true) →
    (storeCells ⟨g, o, none⟩ vs i).run P w = .ok () (w.setRow g (cur.toList.take (o + i) ++ vs ++ cur.toList.drop (o + i + vs.length)).toArray)
  | [], i, cur, w, hg, hl, _ => by
    have hlt : g < w.heap.size := (Array.getElem?_eq_some_iff.1 hg).1
    simp only [storeCells, List.append_nil, List.length_nil, Nat.add_zero, List.take_append_drop, Array.toArray_toList]
    show Result.ok () w = _
    congr 1
    unfold World.setRow
    cases w with
    | mk heap tape drawn os output =>
      congr 1
      apply Array.ext_getElem?
      intro k
      rw [Array.getElem?_modify]
      split
      · rename_i hk; subst hk; simp only at hg; rw [hg]; rfl
      · rfl
  | v :: rest, i, cur, w, hg, hl, h1 => by
    have hi : o + i < cur.size := by simp at hl; omega
    have hcell : w.cell? ⟨g, o + i, none⟩ = some cur[o + i] := by simp [World.cell?, hg, hi]
    have hfro : w.frozen? ⟨g, o + i, none⟩ = false := by simp [World.frozen?, hg]
    have hst : (store ((⟨g, o, none⟩ : Addr).add i) v).run P w = .ok () (w.setRow g (cur.setIfInBounds (o + i) v)) := by
      rw [add_off, run_store P w _ v _ (h1 v (by simp)), hcell]
      simp [hfro, setCell_eq_setRow w g (o + i) cur t (0, 0) v hg]
    have ih := run_storeCells_part g o t rest (i + 1) (cur.setIfInBounds (o + i) v) (w.setRow g (cur.setIfInBounds (o + i) v)) (setRow_heap w g cur _ t _ hg) (by simp at hl ⊢; omega) (fun x hx => h1 x (by simp [hx]))
    simp only [storeCells, Sem.run_bind, hst, Result.andThen_ok, ih, setRow_setRow]
    congr 3
    have hset : cur.toList.set (o + i) v = cur.toList.take (o + i) ++ v :: cur.toList.drop (o + i + 1) := by
      rw [List.set_eq_take_append_cons_drop, if_pos (by simpa using hi)]
    have hk : (cur.toList.take (o + i)).length = o + i := by simp; omega
    rw [Array.toList_setIfInBounds, hset]
    generalize cur.toList.take (o + i) = a at hk
    generalize hr : cur.toList.drop (o + i + 1) = r
    have e1 : o + (i + 1) = a.length + 1 := by omega
    have e2 : cur.toList.drop (o + i + (v :: rest).length) = r.drop rest.length := by
      rw [← hr, List.drop_drop]; congr 1; simp; omega
    rw [e2, e1]
    have e3 : (a ++ v :: r).take (a.length + 1) = a ++ [v] := by rw [List.take_append, List.take_of_length_le (by omega), show a.length + 1 - a.length = 1 by omega]; rfl
    have e4 : (a ++ v :: r).drop (a.length + 1 + rest.length) = r.drop rest.length := by
      rw [List.drop_append]
      have : a.drop (a.length + 1 + rest.length) = [] := List.drop_eq_nil_of_le (by omega)
      rw [this, show a.length + 1 + rest.length - a.length = rest.length + 1 by omega]
      rfl
    rw [e3, e4]
    simp
set_option maxRecDepth 3000 in
theorem run_storeAt_part (ty : TypeId) (g o n : Nat) (c : Array Value) (hi : (P.info? ty).map (·.size) = some n) (hn : 0 < (blk w g).size) (hs : o + n ≤ (blk w g).size) (hc : c.size = n) (h1 : OneCells c) :
    (Instr.storeAt ty (.pointer (some ⟨g, o, none⟩)) (.agg c)).run P w = .ok () (setBlk w g (over (blk w g) o c)) := by
  obtain ⟨t, ht⟩ := blk_some w g hn
  have h := run_storeCells_part (P := P) g o t c.toList 0 (blk w g) w ht (by simp; omega) (fun v hv => (Array.all_eq_true_iff_forall_mem.1 h1) v (by simpa using hv))
  cases hq : P.info? ty with
  | none => simp [hq] at hi
  | some i =>
    have hz : c.size = i.size := by simp [hq] at hi; omega
    simp only [Instr.storeAt, Instr.sureAddr, Sem.run_bind, Sem.run_pure, Result.andThen_ok]
    simp only [Nat.add_zero] at h
    simp [storeVar, sizeOf, typeInfo, hq, Value.cells, hz, h, setBlk, over]
def storePart (P : Program) (w : World) (ty : TypeId) (g o : Nat) (c : Array Value) : Result Unit := (Instr.storeAt ty (.pointer (some ⟨g, o, none⟩)) (.agg c)).run P w
def storePartOdd (P : Program) (w : World) (ty : TypeId) (g o : Nat) (c : Array Value) : Result Unit := storePart P w ty g o c
set_option maxRecDepth 3000 in
theorem storePart_if (ty : TypeId) (g o n : Nat) (c : Array Value) (h : RowOf P ty n) (h1 : OneCells c) : storePart P w ty g o c = if 0 < n ∧ o + n ≤ (blk w g).size ∧ c.size = n then .ok () (setBlk w g (over (blk w g) o c)) else storePartOdd P w ty g o c := by
  obtain ⟨d, hu, hd, hi⟩ := h
  split
  · rename_i hs
    exact run_storeAt_part w ty g o n c hi (by omega) hs.2.1 hs.2.2 h1
  · rfl
end
end Go.Proofs.YtnjagecmhdagkaaDoor
