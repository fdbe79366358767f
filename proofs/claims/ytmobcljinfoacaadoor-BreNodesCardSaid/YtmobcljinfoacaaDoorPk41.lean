/-
  The patterns' laws: what the walk over nodes knows, in memory.
-/
import Derived.Test.YtmobcljinfoacaaDoorPk40
namespace Go.Proofs.YtmobcljinfoacaaDoor
open Go.RowKit

/-- The walk's cells. -/
def wsA (many groups : Int) (p : Nat → Bool) (bad refs : Bool) : Array Value :=
  #[.int .i64 many, .int .i64 groups, .bool (p 0), .bool (p 1), .bool (p 2), .bool (p 3), .bool (p 4), .bool (p 5), .bool (p 6), .bool (p 7), .bool (p 8), .bool (p 9), .bool bad, .bool refs]
section
variable (many groups : Int) (p : Nat → Bool) (bad refs : Bool)
set_option maxRecDepth 3000 in
theorem wsA_size : (wsA many groups p bad refs).size = 14 := rfl
set_option maxRecDepth 3000 in
theorem wsA_0 : (wsA many groups p bad refs)[0]? = some (.int .i64 many) := rfl
set_option maxRecDepth 3000 in
theorem wsA_1 : (wsA many groups p bad refs)[1]? = some (.int .i64 groups) := rfl
set_option maxRecDepth 3000 in
theorem wsA_12 : (wsA many groups p bad refs)[12]? = some (.bool bad) := rfl
set_option maxRecDepth 3000 in
theorem wsA_13 : (wsA many groups p bad refs)[13]? = some (.bool refs) := rfl
set_option maxRecDepth 3000 in
theorem upto9 {n : Nat} (h : n ≤ 9) : n = 0 ∨ n = 1 ∨ n = 2 ∨ n = 3 ∨ n = 4 ∨ n = 5 ∨ n = 6 ∨ n = 7 ∨ n = 8 ∨ n = 9 := by omega
set_option maxRecDepth 3000 in
theorem wsA_at (n : Nat) (h : n ≤ 9) : (wsA many groups p bad refs)[2 + n]? = some (.bool (p n)) := by
  rcases upto9 h with rfl | rfl | rfl | rfl | rfl | rfl | rfl | rfl | rfl | rfl <;> rfl
set_option maxRecDepth 3000 in
theorem wsA_set0 (m : Int) : (wsA many groups p bad refs).setIfInBounds 0 (.int .i64 m) = wsA m groups p bad refs := rfl
set_option maxRecDepth 3000 in
theorem wsA_set1 (m : Int) : (wsA many groups p bad refs).setIfInBounds 1 (.int .i64 m) = wsA many m p bad refs := rfl
set_option maxRecDepth 3000 in
theorem wsA_set12 (b : Bool) : (wsA many groups p bad refs).setIfInBounds 12 (.bool b) = wsA many groups p b refs := rfl
set_option maxRecDepth 3000 in
theorem wsA_set13 (b : Bool) : (wsA many groups p bad refs).setIfInBounds 13 (.bool b) = wsA many groups p bad b := rfl
set_option maxRecDepth 3000 in
theorem wsA_setAt (n : Nat) (h : n ≤ 9) : (wsA many groups p bad refs).setIfInBounds (2 + n) (.bool true) = wsA many groups (orAt p n) bad refs := by
  rcases upto9 h with rfl | rfl | rfl | rfl | rfl | rfl | rfl | rfl | rfl | rfl <;> simp [wsA, orAt]
end
section
variable {w : World} {g : Nat} {many groups : Int} {p : Nat → Bool} {bad refs : Bool}
/-- The walk lies at block g. -/
def WsAt (w : World) (g : Nat) (many groups : Int) (p : Nat → Bool) (bad refs : Bool) : Prop := blk w g = wsA many groups p bad refs
set_option maxRecDepth 3000 in
theorem WsAt.inh (h : WsAt w g many groups p bad refs) : InHeap g w := Blk.inHeap h (by rw [wsA_size]; omega)
set_option maxRecDepth 3000 in
theorem WsAt.cell (h : WsAt w g many groups p bad refs) (i : Nat) : w.cell? ⟨g, i, none⟩ = (wsA many groups p bad refs)[i]? := Blk.cell h (by rw [wsA_size]; omega) i
set_option maxRecDepth 3000 in
theorem WsAt.cells (h : WsAt w g many groups p bad refs) : w.cell? ⟨g, 0, none⟩ = some (.int .i64 many) ∧ w.cell? ⟨g, 1, none⟩ = some (.int .i64 groups) ∧ w.cell? ⟨g, 12, none⟩ = some (.bool bad) ∧ w.cell? ⟨g, 13, none⟩ = some (.bool refs) :=
  ⟨h.cell 0, h.cell 1, h.cell 12, h.cell 13⟩
set_option maxRecDepth 3000 in
theorem WsAt.free (h : WsAt w g many groups p bad refs) : ∀ k, w.frozen? ⟨g, k, none⟩ = false := fun k => Blk.free h (by rw [wsA_size]; omega) k
set_option maxRecDepth 3000 in
theorem WsAt.set0 (h : WsAt w g many groups p bad refs) (m : Int) : WsAt (w.setCell ⟨g, 0, none⟩ (.int .i64 m)) g m groups p bad refs := (pa_put h (by rw [wsA_size]; omega) 0 _).trans (wsA_set0 _ _ _ _ _ m)
set_option maxRecDepth 3000 in
theorem WsAt.set1 (h : WsAt w g many groups p bad refs) (m : Int) : WsAt (w.setCell ⟨g, 1, none⟩ (.int .i64 m)) g many m p bad refs := (pa_put h (by rw [wsA_size]; omega) 1 _).trans (wsA_set1 _ _ _ _ _ m)
set_option maxRecDepth 3000 in
theorem WsAt.set12 (h : WsAt w g many groups p bad refs) (b : Bool) : WsAt (w.setCell ⟨g, 12, none⟩ (.bool b)) g many groups p b refs := (pa_put h (by rw [wsA_size]; omega) 12 _).trans (wsA_set12 _ _ _ _ _ b)
set_option maxRecDepth 3000 in
theorem WsAt.set13 (h : WsAt w g many groups p bad refs) (b : Bool) : WsAt (w.setCell ⟨g, 13, none⟩ (.bool b)) g many groups p bad b := (pa_put h (by rw [wsA_size]; omega) 13 _).trans (wsA_set13 _ _ _ _ _ b)
set_option maxRecDepth 3000 in
theorem WsAt.setAt (h : WsAt w g many groups p bad refs) (n : Nat) (hn : n ≤ 9) : WsAt (w.setCell ⟨g, 2 + n, none⟩ (.bool true)) g many groups (orAt p n) bad refs := (pa_put h (by rw [wsA_size]; omega) _ _).trans (wsA_setAt _ _ _ _ _ n hn)
set_option maxRecDepth 3000 in
theorem WsAt.alloc (h : WsAt w g many groups p bad refs) (o : Obj) : WsAt (w.alloc o) g many groups p bad refs :=
  (blk_alloc_past _ _ _ h.inh).trans h
set_option maxRecDepth 3000 in
theorem WsAt.grows {w' : World} (h : WsAt w g many groups p bad refs) (hg : Grows w w') : WsAt w' g many groups p bad refs := by
  have := h.inh
  obtain ⟨m, rfl⟩ := hg
  exact (blk_more _ _ _ this).trans h
end
set_option maxRecDepth 3000 in
theorem get_of {C : Array Value} {i : Nat} {v : Value} (h : C[i]? = some v) (hi : i < C.size) : C[i]'hi = v := by
  rw [Array.getElem?_eq_getElem hi] at h
  exact Option.some.inj h
/-- A node's cells, kept closed. -/
structure Box (C : Array Value) (x : NdV) (k : Value) : Prop where
  size : C.size = 262
  one : OneCells C
  over_ : over (ndA 0 0 noSet 0 0 0 (.slice none 0 0)) 0 C = C
  c0 : C[0]? = some (.int .i64 x.kind)
  c258 : C[258]? = some (.int .i64 x.n)
  c259 : C[259]? = some (.int .i64 x.mn)
  c260 : C[260]? = some (.int .i64 x.mx)
  c261 : C[261]? = some k
set_option maxRecDepth 3000 in
theorem box_of (x : NdV) (a : Option Addr) (l c : Nat) : ∃ C, C = ndA x.kind x.byte x.set x.n x.mn x.mx (.slice a l c) ∧ Box C x (.slice a l c) :=
  ⟨_, rfl, ⟨ndA_size _ _ _ _ _ _ _, ndA_one_slice _ _ _ _ _ _ _ _ _, over_all (by rw [ndA_size, ndA_size]), ndA_0 _ _ _ _ _ _ _, ndA_258 _ _ _ _ _ _ _, ndA_259 _ _ _ _ _ _ _, ndA_260 _ _ _ _ _ _ _, ndA_261 _ _ _ _ _ _ _⟩⟩
set_option maxRecDepth 3000 in
/-- A node's cells, read in one piece. -/
theorem node_load {w : World} {b o : Nat} {c : Array Value} (hc : c.size = 262) (h : ∀ j u, c[j]? = some u → w.cell? ⟨b, o + j, none⟩ = some u) : loadPart Tryd.prog w 41 b o 262 = .ok (.agg c) w := by
  obtain ⟨d, hu, hd, hi⟩ := rowNode
  unfold loadPart
  simp only [Instr.loadAt, Instr.sureAddr, Sem.run_bind, Sem.run_pure, Result.andThen_ok]
  exact run_loadVar_cells w b o 41 c.toList d (fun j v hv => h j v (by rw [← Array.getElem?_toList]; exact hv)) hu hd (by rw [hi]; simp [hc])
/-- A node lies in a block of its own, beside the walk. -/
structure Nb (wr W : World) (g nb : Nat) (C : Array Value) : Prop where
  lt : g < nb
  cells : blk W nb = C
  size : C.size = 262
  chg : Chg (fun b => b = g) wr W
section
variable {wr W W' : World} {g nb : Nat} {C : Array Value}
set_option maxRecDepth 3000 in
theorem Nb.inh (h : Nb wr W g nb C) : InHeap nb W := Blk.inHeap h.cells (by rw [h.size]; omega)
set_option maxRecDepth 3000 in
theorem Nb.cell (h : Nb wr W g nb C) (j : Nat) : W.cell? ⟨nb, j, none⟩ = C[j]? := Blk.cell h.cells (by rw [h.size]; omega) j
set_option maxRecDepth 3000 in
theorem Nb.step (h : Nb wr W g nb C) (hc : Chg (fun b => b = g) W W') : Nb wr W' g nb C :=
  ⟨h.lt, (chg_blk hc h.inh (by have := h.lt; omega)).trans h.cells, h.size, h.chg.trans hc⟩
set_option maxRecDepth 3000 in
theorem Nb.start (hg : InHeap g wr) (hc : Chg (fun b => b = g) wr W) (hz : W.heap.size = wr.heap.size) (hs : C.size = 262) (t : TypeId) : Nb wr (W.alloc (.cells C t)) g wr.heap.size C :=
  ⟨hg, blk_alloc_at _ _ _ _ hz.symm, hs, hc.trans (Chg.of_grows ((Grows.refl _).alloc _))⟩
end
set_option maxRecDepth 3000 in
theorem WsAt.drewN {w : World} {g : Nat} {many groups : Int} {p : Nat → Bool} {bad refs : Bool} (h : WsAt w g many groups p bad refs) (n : Nat) : WsAt (w.drewN n) g many groups p bad refs := h
end Go.Proofs.YtmobcljinfoacaaDoor
