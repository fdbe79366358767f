/-
  Several texts of the proof: Row, BreMem.
-/
import Derived.Test.YtkomggeionofbaaGreatDoorPk01
import Derived.Laws.Rows
import Derived.Test.YtkomggeionofbaaGreatDoorPk09
import Derived.Test.YtkomggeionofbaaGreatDoorPk12
import Derived.Test.YtkomggeionofbaaGreatDoorPk05
import Derived.Deep.DeepCutAuto
set_option linter.unusedSimpArgs false
set_option linter.unusedVariables false
/-
  A row of cells within a block: read and written at once, without unrolling.
-/
namespace Go.Proofs.YtkomggeionofbaaGreatDoor
open Go.RowKit

/-- The cells c, from the o-th on those of d. -/
def over (c : Array Value) (o : Nat) (d : Array Value) : Array Value := (c.toList.take o ++ d.toList ++ c.toList.drop (o + d.size)).toArray
/-- Some of the cells. -/
def span (c : Array Value) (o n : Nat) : Array Value := ((c.toList.drop o).take n).toArray
section
variable {P : Program} (w : World)
set_option maxRecDepth 3000 in
theorem add_off (g o i : Nat) : (⟨g, o, none⟩ : Addr).add i = ⟨g, o + i, none⟩ := by unfold Addr.add; split <;> simp_all
set_option maxRecDepth 3000 in
/-- A row read by its cells. -/
theorem run_loadVar_cells (g o : Nat) (ty : TypeId) (cs : List Value) (d : TypeDesc) (hc : ∀ j v, cs[j]? = some v → w.cell? ⟨g, o + j, none⟩ = some v) (hu : P.underlying ty = some d) (hd : d.isRow = true) (hi : (P.info? ty).map (·.size) = some cs.length) :
    (loadVar ty ⟨g, o, none⟩).run P w = .ok (.agg cs.toArray) w := by
  have hl : (loadCells ⟨g, o, none⟩ cs.length).run P w = .ok cs.toArray w := run_loadCells_list (P := P) w ⟨g, o, none⟩ cs (fun j v hv => by rw [add_off]; exact hc j v hv)
  cases hq : P.info? ty with
  | none => simp [hq] at hi
  | some i =>
    have hs : i.size = cs.length := by simpa [hq] using hi
    have hagg : (isAgg ty).run P w = .ok true w := by
      unfold isAgg
      rw [Sem.run_bind, run_underlying hu w]
      cases d <;> simp_all [TypeDesc.isRow]
    simp [loadVar, Sem.run_bind, hagg, sizeOf, typeInfo, hq, hs, hl]
/-- Kept closed till its world is known. -/
def loadPart (P : Program) (w : World) (ty : TypeId) (g o n : Nat) : Result Value := (Instr.loadAt ty (.pointer (some ⟨g, o, none⟩))).run P w
def loadPartOdd (P : Program) (w : World) (ty : TypeId) (g o n : Nat) : Result Value := loadPart P w ty g o n
/-- What tells of a type that its values are rows of n cells. -/
def RowOf (P : Program) (ty : TypeId) (n : Nat) : Prop := ∃ d, P.underlying ty = some d ∧ d.isRow = true ∧ (P.info? ty).map (·.size) = some n
set_option maxRecDepth 3000 in
theorem loadPart_if (ty : TypeId) (g o n : Nat) (h : RowOf P ty n) : loadPart P w ty g o n = if 0 < n ∧ o + n ≤ (blk w g).size then .ok (.agg (span (blk w g) o n)) w else loadPartOdd P w ty g o n := by
  obtain ⟨d, hu, hd, hi⟩ := h
  split
  · rename_i hs
    unfold loadPart
    have hlen : ((((blk w g).toList.drop o).take n)).length = n := by simp; omega
    obtain ⟨t, ht⟩ := blk_some w g (by omega)
    simp only [Instr.loadAt, Instr.sureAddr, Sem.run_bind, Sem.run_pure, Result.andThen_ok]
    rw [run_loadVar_cells w g o ty ((((blk w g).toList.drop o).take n)) d (fun j v hv => ?_) hu hd (by rw [hi, hlen])]
    · rfl
    · rw [cell_of_row w g _ _ t _ ht]
      rw [List.getElem?_take] at hv
      split at hv
      · rw [List.getElem?_drop] at hv
        simpa using hv
      · cases hv
  · rfl
set_option maxRecDepth 3000 in
theorem run_storeCells_part (g o : Nat) (t : TypeId) : ∀ (vs : List Value) (i : Nat) (cur : Array Value) (w : World), w.heap[g]? = some (.cells cur t (0, 0)) → o + i + vs.length ≤ cur.size → (∀ v ∈ vs, v.oneCell' = true) →
    (storeCells ⟨g, o, none⟩ vs i).run P w = .ok () (w.setRow g (cur.toList.take (o + i) ++ vs ++ cur.toList.drop (o + i + vs.length)).toArray)
  | [], i, cur, w, hg, hl, _ => by
    have hlt : g < w.heap.size := (Array.getElem?_eq_some_iff.1 hg).1
    simp only [storeCells, List.append_nil, List.length_nil, Nat.add_zero, List.take_append_drop, Array.toArray_toList]
    show Result.ok () w = _
    congr 1
    unfold World.setRow
    cases w with
    | mk heap tape drawn os output =>
      congr 1
      apply Array.ext_getElem?
      intro k
      rw [Array.getElem?_modify]
      split
      · rename_i hk; subst hk; simp only at hg; rw [hg]; rfl
      · rfl
  | v :: rest, i, cur, w, hg, hl, h1 => by
    have hi : o + i < cur.size := by simp at hl; omega
    have hcell : w.cell? ⟨g, o + i, none⟩ = some cur[o + i] := by simp [World.cell?, hg, hi]
    have hfro : w.frozen? ⟨g, o + i, none⟩ = false := by simp [World.frozen?, hg]
    have hst : (store ((⟨g, o, none⟩ : Addr).add i) v).run P w = .ok () (w.setRow g (cur.setIfInBounds (o + i) v)) := by
      rw [add_off, run_store P w _ v _ (h1 v (by simp)), hcell]
      simp [hfro, setCell_eq_setRow w g (o + i) cur t (0, 0) v hg]
    have ih := run_storeCells_part g o t rest (i + 1) (cur.setIfInBounds (o + i) v) (w.setRow g (cur.setIfInBounds (o + i) v)) (setRow_heap w g cur _ t _ hg) (by simp at hl ⊢; omega) (fun x hx => h1 x (by simp [hx]))
    simp only [storeCells, Sem.run_bind, hst, Result.andThen_ok, ih, setRow_setRow]
    congr 3
    have hset : cur.toList.set (o + i) v = cur.toList.take (o + i) ++ v :: cur.toList.drop (o + i + 1) := by
      rw [List.set_eq_take_append_cons_drop, if_pos (by simpa using hi)]
    have hk : (cur.toList.take (o + i)).length = o + i := by simp; omega
    rw [Array.toList_setIfInBounds, hset]
    generalize cur.toList.take (o + i) = a at hk
    generalize hr : cur.toList.drop (o + i + 1) = r
    have e1 : o + (i + 1) = a.length + 1 := by omega
    have e2 : cur.toList.drop (o + i + (v :: rest).length) = r.drop rest.length := by
      rw [← hr, List.drop_drop]; congr 1; simp; omega
    rw [e2, e1]
    have e3 : (a ++ v :: r).take (a.length + 1) = a ++ [v] := by rw [List.take_append, List.take_of_length_le (by omega), show a.length + 1 - a.length = 1 by omega]; rfl
    have e4 : (a ++ v :: r).drop (a.length + 1 + rest.length) = r.drop rest.length := by
      rw [List.drop_append]
      have : a.drop (a.length + 1 + rest.length) = [] := List.drop_eq_nil_of_le (by omega)
      rw [this, show a.length + 1 + rest.length - a.length = rest.length + 1 by omega]
      rfl
    rw [e3, e4]
    simp
set_option maxRecDepth 3000 in
theorem run_storeAt_part (ty : TypeId) (g o n : Nat) (c : Array Value) (hi : (P.info? ty).map (·.size) = some n) (hn : 0 < (blk w g).size) (hs : o + n ≤ (blk w g).size) (hc : c.size = n) (h1 : OneCells c) :
    (Instr.storeAt ty (.pointer (some ⟨g, o, none⟩)) (.agg c)).run P w = .ok () (setBlk w g (over (blk w g) o c)) := by
  obtain ⟨t, ht⟩ := blk_some w g hn
  have h := run_storeCells_part (P := P) g o t c.toList 0 (blk w g) w ht (by simp; omega) (fun v hv => (Array.all_eq_true_iff_forall_mem.1 h1) v (by simpa using hv))
  cases hq : P.info? ty with
  | none => simp [hq] at hi
  | some i =>
    have hz : c.size = i.size := by simp [hq] at hi; omega
    simp only [Instr.storeAt, Instr.sureAddr, Sem.run_bind, Sem.run_pure, Result.andThen_ok]
    simp only [Nat.add_zero] at h
    simp [storeVar, sizeOf, typeInfo, hq, Value.cells, hz, h, setBlk, over]
def storePart (P : Program) (w : World) (ty : TypeId) (g o : Nat) (c : Array Value) : Result Unit := (Instr.storeAt ty (.pointer (some ⟨g, o, none⟩)) (.agg c)).run P w
def storePartOdd (P : Program) (w : World) (ty : TypeId) (g o : Nat) (c : Array Value) : Result Unit := storePart P w ty g o c
set_option maxRecDepth 3000 in
theorem storePart_if (ty : TypeId) (g o n : Nat) (c : Array Value) (h : RowOf P ty n) (h1 : OneCells c) : storePart P w ty g o c = if 0 < n ∧ o + n ≤ (blk w g).size ∧ c.size = n then .ok () (setBlk w g (over (blk w g) o c)) else storePartOdd P w ty g o c := by
  obtain ⟨d, hu, hd, hi⟩ := h
  split
  · rename_i hs
    exact run_storeAt_part w ty g o n c hi (by omega) hs.2.1 hs.2.2 h1
  · rfl
end
end Go.Proofs.YtkomggeionofbaaGreatDoor

/-
  Patterns in memory: a node's cells; what is built, read and written of nodes.
-/
namespace Go.Proofs.YtkomggeionofbaaGreatDoor
open Go.RowKit

/-- A node's cells. -/
def ndA (kind byte : Int) (p : Nat → Bool) (n mn mx : Int) (k : Value) : Array Value := #[.int .i64 kind, .int .u8 byte] ++ SA p ++ #[.int .i64 n, .int .i64 mn, .int .i64 mx, k]
abbrev ndC (x : NdV) (k : Value) : Array Value := ndA x.kind x.byte x.set x.n x.mn x.mx k
def noSet : Nat → Bool := fun _ => false
section
variable (kind byte : Int) (p : Nat → Bool) (n mn mx : Int) (k : Value)
set_option maxRecDepth 3000 in
@[go_sem] theorem ndA_size : (ndA kind byte p n mn mx k).size = 262 := by simp [ndA]
set_option maxRecDepth 3000 in
theorem ndA_list : (ndA kind byte p n mn mx k).toList = .int .i64 kind :: .int .u8 byte :: (SA p).toList ++ [.int .i64 n, .int .i64 mn, .int .i64 mx, k] := by simp [ndA]
set_option maxRecDepth 3000 in
theorem ndA_one (h : k.oneCell' = true) : OneCells (ndA kind byte p n mn mx k) := by
  unfold OneCells
  rw [Array.all_eq_true_iff_forall_mem]
  intro v hv
  rw [← Array.mem_toList_iff, ndA_list] at hv
  have hS : ∀ v ∈ (SA p).toList, v.oneCell' = true := fun v hv => by
    have := oneCells_SA p
    unfold OneCells at this
    rw [Array.all_eq_true_iff_forall_mem] at this
    exact this v (by simpa using hv)
  simp only [List.mem_append, List.mem_cons, List.not_mem_nil, or_false] at hv
  rcases hv with (h1 | h1 | h1) | h1 | h1 | h1 | h1
  · subst h1; rfl
  · subst h1; rfl
  · exact hS v h1
  · subst h1; rfl
  · subst h1; rfl
  · subst h1; rfl
  · subst h1; exact h
set_option maxRecDepth 3000 in
theorem ndA_one_slice (a : Option Addr) (l c : Nat) : OneCells (ndA kind byte p n mn mx (.slice a l c)) := ndA_one _ _ _ _ _ _ _ rfl
set_option maxRecDepth 3000 in
theorem ndA_0 : (ndA kind byte p n mn mx k)[0]? = some (.int .i64 kind) := by rw [← Array.getElem?_toList, ndA_list]; rfl
set_option maxRecDepth 3000 in
theorem ndA_1 : (ndA kind byte p n mn mx k)[1]? = some (.int .u8 byte) := by rw [← Array.getElem?_toList, ndA_list]; rfl
set_option maxRecDepth 3000 in
theorem ndA_set (c : Nat) (h : c < 256) : (ndA kind byte p n mn mx k)[2 + c]? = some (.bool (p c)) := by
  rw [← Array.getElem?_toList, ndA_list, show 2 + c = c + 1 + 1 by omega]
  simp only [List.cons_append, List.getElem?_cons_succ]
  rw [List.getElem?_append_left (by simpa using h), Array.getElem?_toList]
  exact get_SA p c h
set_option maxRecDepth 3000 in
theorem ndA_tail (j : Nat) : (ndA kind byte p n mn mx k)[258 + j]? = [Value.int .i64 n, .int .i64 mn, .int .i64 mx, k][j]? := by
  rw [← Array.getElem?_toList, ndA_list, show 258 + j = (256 + j) + 1 + 1 by omega]
  simp only [List.cons_append, List.getElem?_cons_succ]
  rw [List.getElem?_append_right (by simp)]
  simp
set_option maxRecDepth 3000 in
theorem ndA_258 : (ndA kind byte p n mn mx k)[258]? = some (.int .i64 n) := ndA_tail _ _ _ _ _ _ _ 0
set_option maxRecDepth 3000 in
theorem ndA_259 : (ndA kind byte p n mn mx k)[259]? = some (.int .i64 mn) := ndA_tail _ _ _ _ _ _ _ 1
set_option maxRecDepth 3000 in
theorem ndA_260 : (ndA kind byte p n mn mx k)[260]? = some (.int .i64 mx) := ndA_tail _ _ _ _ _ _ _ 2
set_option maxRecDepth 3000 in
theorem ndA_261 : (ndA kind byte p n mn mx k)[261]? = some k := ndA_tail _ _ _ _ _ _ _ 3
set_option maxRecDepth 3000 in
theorem ndA_setK (k' : Value) : (ndA kind byte p n mn mx k).setIfInBounds 261 k' = ndA kind byte p n mn mx k' := by
  have e : ∀ k : Value, (ndA kind byte p n mn mx k).toList = (.int .i64 kind :: .int .u8 byte :: (SA p).toList ++ [.int .i64 n, .int .i64 mn, .int .i64 mx]) ++ [k] := fun k => by rw [ndA_list]; simp
  apply Array.toList_inj.1
  rw [Array.toList_setIfInBounds, e, e, List.set_append_right _ _ (by simp)]
  simp
end
set_option maxRecDepth 3000 in
theorem over_all {a c : Array Value} (h : a.size = c.size) : over a 0 c = c := by
  apply Array.toList_inj.1
  have h1 : a.toList.length = c.size := by simpa using h
  simp [over, List.drop_of_length_le (Nat.le_of_eq h1)]
set_option maxRecDepth 3000 in
theorem span_all {c : Array Value} {n : Nat} (h : c.size = n) : span c 0 n = c := by
  apply Array.toList_inj.1
  subst h
  simp only [span, List.drop_zero]
  exact List.take_of_length_le (by simp)
set_option maxRecDepth 3000 in
@[go_sem] theorem over_nd (a b : Int) (p : Nat → Bool) (c d e : Int) (k : Value) (a' b' : Int) (p' : Nat → Bool) (c' d' e' : Int) (k' : Value) : over (ndA a b p c d e k) 0 (ndA a' b' p' c' d' e' k') = ndA a' b' p' c' d' e' k' := over_all (by rw [ndA_size, ndA_size])
set_option maxRecDepth 3000 in
@[go_sem] theorem span_nd (a b : Int) (p : Nat → Bool) (c d e : Int) (k : Value) : span (ndA a b p c d e k) 0 262 = ndA a b p c d e k := span_all (ndA_size _ _ _ _ _ _ _)
/-! ### nodes: zero, build, load, store -/
set_option maxRecDepth 3000 in
theorem rowNode : RowOf Tryz.prog 80 262 := ⟨_, Tryz.underlying80, rfl, by kernel_rfl⟩
set_option maxRecDepth 3000 in
theorem zeroNode (w : World) : (zeroValue 80).run Tryz.prog w = .ok (.agg (ndA 0 0 noSet 0 0 0 (.slice none 0 0))) w := by kernel_rfl
def bldNd (x : Array (Nat × Value)) : Sem Value := Instr.build 80 x
set_option maxRecDepth 3000 in
theorem bldNd_eq (x : Array (Nat × Value)) : Instr.build 80 x = bldNd x := rfl
section
variable (w : World) (g o : Nat) (c : Array Value)
set_option maxRecDepth 3000 in
theorem bld_kind (k : Int) : (bldNd #[(0, .int .i64 k)]).run Tryz.prog w = .ok (.agg (ndA k 0 noSet 0 0 0 (.slice none 0 0))) w := by kernel_rfl
set_option maxRecDepth 3000 in
theorem bld_byte (k b : Int) : (bldNd #[(0, .int .i64 k), (1, .int .u8 b)]).run Tryz.prog w = .ok (.agg (ndA k b noSet 0 0 0 (.slice none 0 0))) w := by kernel_rfl
set_option maxRecDepth 3000 in
theorem bld_set (k : Int) (p : Nat → Bool) : (bldNd #[(0, .int .i64 k), (2, .agg (SA p))]).run Tryz.prog w = .ok (.agg (ndA k 0 p 0 0 0 (.slice none 0 0))) w := by kernel_rfl
set_option maxRecDepth 3000 in
theorem bld_n (k n : Int) : (bldNd #[(0, .int .i64 k), (3, .int .i64 n)]).run Tryz.prog w = .ok (.agg (ndA k 0 noSet n 0 0 (.slice none 0 0))) w := by kernel_rfl
set_option maxRecDepth 3000 in
theorem bld_star (k n : Int) (a : Option Addr) (l d : Nat) : (bldNd #[(0, .int .i64 k), (5, .int .i64 n), (6, .slice a l d)]).run Tryz.prog w = .ok (.agg (ndA k 0 noSet 0 0 n (.slice a l d))) w := by kernel_rfl
set_option maxRecDepth 3000 in
theorem bld_times (k m n : Int) (a : Option Addr) (l d : Nat) : (bldNd #[(0, .int .i64 k), (4, .int .i64 m), (5, .int .i64 n), (6, .slice a l d)]).run Tryz.prog w = .ok (.agg (ndA k 0 noSet 0 m n (.slice a l d))) w := by kernel_rfl
def ldNode (x : Value) : Sem Value := Instr.loadAt 80 x
set_option maxRecDepth 3000 in
theorem ldNode_eq (x : Value) : Instr.loadAt 80 x = ldNode x := rfl
set_option maxRecDepth 3000 in
theorem loadNode : (ldNode (.pointer (some ⟨g, o, none⟩))).run Tryz.prog w = loadPart Tryz.prog w 80 g o 262 := rfl
set_option maxRecDepth 3000 in
theorem loadNode_if : loadPart Tryz.prog w 80 g o 262 = if 0 < 262 ∧ o + 262 ≤ (blk w g).size then .ok (.agg (span (blk w g) o 262)) w else loadPartOdd Tryz.prog w 80 g o 262 := loadPart_if w _ g o 262 rowNode
def stNode (x v : Value) : Sem Unit := Instr.storeAt 80 x v
set_option maxRecDepth 3000 in
theorem stNode_eq (x v : Value) : Instr.storeAt 80 x v = stNode x v := rfl
set_option maxRecDepth 3000 in
theorem storeNode : (stNode (.pointer (some ⟨g, o, none⟩)) (.agg c)).run Tryz.prog w = storePart Tryz.prog w 80 g o c := rfl
set_option maxRecDepth 3000 in
theorem storeNode_if (h : OneCells c) : storePart Tryz.prog w 80 g o c = if 0 < 262 ∧ o + 262 ≤ (blk w g).size ∧ c.size = 262 then .ok () (setBlk w g (over (blk w g) o c)) else storePartOdd Tryz.prog w 80 g o c := storePart_if w _ g o 262 c rowNode h
set_option maxRecDepth 3000 in
theorem loadVarNode (h : (blk w g).size = 262) : (loadVar 80 ⟨g, 0, none⟩).run Tryz.prog w = .ok (.agg (blk w g)) w := by
  have h1 := loadNode_if w g 0
  rw [if_pos (by omega), span_all h] at h1
  have h2 : (Instr.loadAt 80 (.pointer (some ⟨g, 0, none⟩))).run Tryz.prog w = _ := h1
  simpa [Instr.loadAt, Instr.sureAddr] using h2
end
end Go.Proofs.YtkomggeionofbaaGreatDoor
