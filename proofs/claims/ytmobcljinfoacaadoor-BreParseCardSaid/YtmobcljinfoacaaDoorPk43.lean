/-
  Several texts of the proof: BreNodesM, ClsDoes, BreSame.
-/
import Derived.Test.YtmobcljinfoacaaDoorPk29
import Derived.Test.YtmobcljinfoacaaDoorPk20
import Derived.Test.YtmobcljinfoacaaDoorPk32
/-
  The patterns' laws: what the walk over nodes knows, in memory.
-/
namespace Go.Proofs.YtmobcljinfoacaaDoor
open Go.RowKit

/-- The walk's cells. -/
def wsA (many groups : Int) (p : Nat → Bool) (bad refs : Bool) : Array Value :=
  #[.int .i64 many, .int .i64 groups, .bool (p 0), .bool (p 1), .bool (p 2), .bool (p 3), .bool (p 4), .bool (p 5), .bool (p 6), .bool (p 7), .bool (p 8), .bool (p 9), .bool bad, .bool refs]
section
variable (many groups : Int) (p : Nat → Bool) (bad refs : Bool)
set_option maxRecDepth 3000 in
theorem wsA_size : (wsA many groups p bad refs).size = 14 := rfl
set_option maxRecDepth 3000 in
theorem wsA_0 : (wsA many groups p bad refs)[0]? = some (.int .i64 many) := rfl
set_option maxRecDepth 3000 in
theorem wsA_1 : (wsA many groups p bad refs)[1]? = some (.int .i64 groups) := rfl
set_option maxRecDepth 3000 in
theorem wsA_12 : (wsA many groups p bad refs)[12]? = some (.bool bad) := rfl
set_option maxRecDepth 3000 in
theorem wsA_13 : (wsA many groups p bad refs)[13]? = some (.bool refs) := rfl
set_option maxRecDepth 3000 in
theorem upto9 {n : Nat} (h : n ≤ 9) : n = 0 ∨ n = 1 ∨ n = 2 ∨ n = 3 ∨ n = 4 ∨ n = 5 ∨ n = 6 ∨ n = 7 ∨ n = 8 ∨ n = 9 := by omega
set_option maxRecDepth 3000 in
theorem wsA_at (n : Nat) (h : n ≤ 9) : (wsA many groups p bad refs)[2 + n]? = some (.bool (p n)) := by
  rcases upto9 h with rfl | rfl | rfl | rfl | rfl | rfl | rfl | rfl | rfl | rfl <;> rfl
set_option maxRecDepth 3000 in
theorem wsA_set0 (m : Int) : (wsA many groups p bad refs).setIfInBounds 0 (.int .i64 m) = wsA m groups p bad refs := rfl
set_option maxRecDepth 3000 in
theorem wsA_set1 (m : Int) : (wsA many groups p bad refs).setIfInBounds 1 (.int .i64 m) = wsA many m p bad refs := rfl
set_option maxRecDepth 3000 in
theorem wsA_set12 (b : Bool) : (wsA many groups p bad refs).setIfInBounds 12 (.bool b) = wsA many groups p b refs := rfl
set_option maxRecDepth 3000 in
theorem wsA_set13 (b : Bool) : (wsA many groups p bad refs).setIfInBounds 13 (.bool b) = wsA many groups p bad b := rfl
set_option maxRecDepth 3000 in
theorem wsA_setAt (n : Nat) (h : n ≤ 9) : (wsA many groups p bad refs).setIfInBounds (2 + n) (.bool true) = wsA many groups (orAt p n) bad refs := by
  rcases upto9 h with rfl | rfl | rfl | rfl | rfl | rfl | rfl | rfl | rfl | rfl <;> simp [wsA, orAt]
end
section
variable {w : World} {g : Nat} {many groups : Int} {p : Nat → Bool} {bad refs : Bool}
/-- The walk lies at block g. -/
def WsAt (w : World) (g : Nat) (many groups : Int) (p : Nat → Bool) (bad refs : Bool) : Prop := blk w g = wsA many groups p bad refs
set_option maxRecDepth 3000 in
theorem WsAt.inh (h : WsAt w g many groups p bad refs) : InHeap g w := Blk.inHeap h (by rw [wsA_size]; omega)
set_option maxRecDepth 3000 in
theorem WsAt.cell (h : WsAt w g many groups p bad refs) (i : Nat) : w.cell? ⟨g, i, none⟩ = (wsA many groups p bad refs)[i]? := Blk.cell h (by rw [wsA_size]; omega) i
set_option maxRecDepth 3000 in
theorem WsAt.cells (h : WsAt w g many groups p bad refs) : w.cell? ⟨g, 0, none⟩ = some (.int .i64 many) ∧ w.cell? ⟨g, 1, none⟩ = some (.int .i64 groups) ∧ w.cell? ⟨g, 12, none⟩ = some (.bool bad) ∧ w.cell? ⟨g, 13, none⟩ = some (.bool refs) :=
  ⟨h.cell 0, h.cell 1, h.cell 12, h.cell 13⟩
set_option maxRecDepth 3000 in
theorem WsAt.free (h : WsAt w g many groups p bad refs) : ∀ k, w.frozen? ⟨g, k, none⟩ = false := fun k => Blk.free h (by rw [wsA_size]; omega) k
set_option maxRecDepth 3000 in
theorem WsAt.set0 (h : WsAt w g many groups p bad refs) (m : Int) : WsAt (w.setCell ⟨g, 0, none⟩ (.int .i64 m)) g m groups p bad refs := (pa_put h (by rw [wsA_size]; omega) 0 _).trans (wsA_set0 _ _ _ _ _ m)
set_option maxRecDepth 3000 in
theorem WsAt.set1 (h : WsAt w g many groups p bad refs) (m : Int) : WsAt (w.setCell ⟨g, 1, none⟩ (.int .i64 m)) g many m p bad refs := (pa_put h (by rw [wsA_size]; omega) 1 _).trans (wsA_set1 _ _ _ _ _ m)
set_option maxRecDepth 3000 in
theorem WsAt.set12 (h : WsAt w g many groups p bad refs) (b : Bool) : WsAt (w.setCell ⟨g, 12, none⟩ (.bool b)) g many groups p b refs := (pa_put h (by rw [wsA_size]; omega) 12 _).trans (wsA_set12 _ _ _ _ _ b)
set_option maxRecDepth 3000 in
theorem WsAt.set13 (h : WsAt w g many groups p bad refs) (b : Bool) : WsAt (w.setCell ⟨g, 13, none⟩ (.bool b)) g many groups p bad b := (pa_put h (by rw [wsA_size]; omega) 13 _).trans (wsA_set13 _ _ _ _ _ b)
set_option maxRecDepth 3000 in
theorem WsAt.setAt (h : WsAt w g many groups p bad refs) (n : Nat) (hn : n ≤ 9) : WsAt (w.setCell ⟨g, 2 + n, none⟩ (.bool true)) g many groups (orAt p n) bad refs := (pa_put h (by rw [wsA_size]; omega) _ _).trans (wsA_setAt _ _ _ _ _ n hn)
set_option maxRecDepth 3000 in
theorem WsAt.alloc (h : WsAt w g many groups p bad refs) (o : Obj) : WsAt (w.alloc o) g many groups p bad refs :=
  (blk_alloc_past _ _ _ h.inh).trans h
set_option maxRecDepth 3000 in
theorem WsAt.grows {w' : World} (h : WsAt w g many groups p bad refs) (hg : Grows w w') : WsAt w' g many groups p bad refs := by
  have := h.inh
  obtain ⟨m, rfl⟩ := hg
  exact (blk_more _ _ _ this).trans h
end
set_option maxRecDepth 3000 in
theorem get_of {C : Array Value} {i : Nat} {v : Value} (h : C[i]? = some v) (hi : i < C.size) : C[i]'hi = v := by
  rw [Array.getElem?_eq_getElem hi] at h
  exact Option.some.inj h
/-- A node's cells, kept closed. -/
structure Box (C : Array Value) (x : NdV) (k : Value) : Prop where
  size : C.size = 262
  one : OneCells C
  over_ : over (ndA 0 0 noSet 0 0 0 (.slice none 0 0)) 0 C = C
  c0 : C[0]? = some (.int .i64 x.kind)
  c258 : C[258]? = some (.int .i64 x.n)
  c259 : C[259]? = some (.int .i64 x.mn)
  c260 : C[260]? = some (.int .i64 x.mx)
  c261 : C[261]? = some k
set_option maxRecDepth 3000 in
theorem box_of (x : NdV) (a : Option Addr) (l c : Nat) : ∃ C, C = ndA x.kind x.byte x.set x.n x.mn x.mx (.slice a l c) ∧ Box C x (.slice a l c) :=
  ⟨_, rfl, ⟨ndA_size _ _ _ _ _ _ _, ndA_one_slice _ _ _ _ _ _ _ _ _, over_all (by rw [ndA_size, ndA_size]), ndA_0 _ _ _ _ _ _ _, ndA_258 _ _ _ _ _ _ _, ndA_259 _ _ _ _ _ _ _, ndA_260 _ _ _ _ _ _ _, ndA_261 _ _ _ _ _ _ _⟩⟩
set_option maxRecDepth 3000 in
/-- A node's cells, read in one piece. -/
theorem node_load {w : World} {b o : Nat} {c : Array Value} (hc : c.size = 262) (h : ∀ j u, c[j]? = some u → w.cell? ⟨b, o + j, none⟩ = some u) : loadPart Tryd.prog w 41 b o 262 = .ok (.agg c) w := by
  obtain ⟨d, hu, hd, hi⟩ := rowNode
  unfold loadPart
  simp only [Instr.loadAt, Instr.sureAddr, Sem.run_bind, Sem.run_pure, Result.andThen_ok]
  exact run_loadVar_cells w b o 41 c.toList d (fun j v hv => h j v (by rw [← Array.getElem?_toList]; exact hv)) hu hd (by rw [hi]; simp [hc])
/-- A node lies in a block of its own, beside the walk. -/
structure Nb (wr W : World) (g nb : Nat) (C : Array Value) : Prop where
  lt : g < nb
  cells : blk W nb = C
  size : C.size = 262
  chg : Chg (fun b => b = g) wr W
section
variable {wr W W' : World} {g nb : Nat} {C : Array Value}
set_option maxRecDepth 3000 in
theorem Nb.inh (h : Nb wr W g nb C) : InHeap nb W := Blk.inHeap h.cells (by rw [h.size]; omega)
set_option maxRecDepth 3000 in
theorem Nb.cell (h : Nb wr W g nb C) (j : Nat) : W.cell? ⟨nb, j, none⟩ = C[j]? := Blk.cell h.cells (by rw [h.size]; omega) j
set_option maxRecDepth 3000 in
theorem Nb.step (h : Nb wr W g nb C) (hc : Chg (fun b => b = g) W W') : Nb wr W' g nb C :=
  ⟨h.lt, (chg_blk hc h.inh (by have := h.lt; omega)).trans h.cells, h.size, h.chg.trans hc⟩
set_option maxRecDepth 3000 in
theorem Nb.start (hg : InHeap g wr) (hc : Chg (fun b => b = g) wr W) (hz : W.heap.size = wr.heap.size) (hs : C.size = 262) (t : TypeId) : Nb wr (W.alloc (.cells C t)) g wr.heap.size C :=
  ⟨hg, blk_alloc_at _ _ _ _ hz.symm, hs, hc.trans (Chg.of_grows ((Grows.refl _).alloc _))⟩
end
set_option maxRecDepth 3000 in
theorem WsAt.drewN {w : World} {g : Nat} {many groups : Int} {p : Nat → Bool} {bad refs : Bool} (h : WsAt w g many groups p bad refs) (n : Nat) : WsAt (w.drewN n) g many groups p bad refs := h
end Go.Proofs.YtmobcljinfoacaaDoor

/-
  Classes: the laws' own has and does, walked; sets that are the same.
-/
namespace Go.Proofs.YtmobcljinfoacaaDoor
open Go.RowKit

attribute [local go_sem] tx_bt tx_from SA_getElem
attribute [local go_sem ↓] zero22
/-- How many bytes below j are in a set. -/
def cnt (p : Nat → Bool) : Nat → Nat
  | 0 => 0
  | j + 1 => cnt p j + if p j then 1 else 0
set_option maxRecDepth 3000 in
theorem cnt_le (p : Nat → Bool) (j : Nat) : cnt p j ≤ j := by
  induction j with
  | zero => simp [cnt]
  | succ j ih => unfold cnt; split <;> omega
def hasV (p : Nat → Bool) (s : List UInt8) : Bool := (s.all fun c => p c.toNat) && decide (cnt p 256 = s.length)
set_option maxRecDepth 3000 in
theorem equal22 (w : World) (p : Nat → Bool) : (Op.equalIn 10000 39 (.agg (SA p)) (.agg (SA p))).run Tryd.prog w = .ok true w := by
  refine run_equalIn_array_same w 9999 39 4 256 (SA p) Tryd.underlying39 Tryd.sizeOf4 fun i hi => ⟨.bool (p i), fun w => ⟨?_, ?_⟩⟩
  · simp [go_sem, hi]
  · simp [go_sem]
set_option maxRecDepth 3000 in
theorem has1 : hasV (parseA [120, 91, 97, 45, 99, 45, 101, 93, 121] 1).1 [97, 98, 99, 45, 101] = true := by kernel_rfl
set_option maxRecDepth 3000 in
theorem par1 : (parseA [120, 91, 97, 45, 99, 45, 101, 93, 121] 1).2 = (8, 0) := by kernel_rfl
set_option maxRecDepth 3000 in
theorem has2 : hasV (parseA [91, 93, 97, 93] 0).1 [93, 97] = true := by kernel_rfl
set_option maxRecDepth 3000 in
theorem par2 : (parseA [91, 93, 97, 93] 0).2.2 = 0 := by kernel_rfl
set_option maxRecDepth 3000 in
theorem has3 : hasV (parseA [91, 91, 58, 100, 105, 103, 105, 116, 58, 93, 120, 93] 0).1 [48, 49, 50, 51, 52, 53, 54, 55, 56, 57, 120] = true := by kernel_rfl
set_option maxRecDepth 3000 in
theorem par3 : (parseA [91, 91, 58, 100, 105, 103, 105, 116, 58, 93, 120, 93] 0).2.2 = 0 := by kernel_rfl
set_option maxRecDepth 3000 in
theorem par4 : (parseA [91, 99, 45, 97, 93] 0).2 = (0, 90) := by kernel_rfl
set_option maxRecDepth 3000 in
theorem cls5 : (clsOf (tx [102, 111, 111])).isSome = false := by kernel_rfl
set_option maxRecDepth 3000 in
/-- Where what was there is read, behind more. -/
theorem sane_step {w w' : World} (h : Sane w) (hg : Grows w w') : Sane w' := h.grows hg
set_option maxRecDepth 3000 in
theorem parse_lit (a : Array UInt8) (at_ : Int) (w : World) (r : (Nat → Bool) × Int × Int) (hr : parseA a.toList at_ = r) (hl : a.toList.length ≤ 1000000) (hs : Sane w) (ha : I64 at_) : Calls Tryd.prog 28 #[.string ⟨a⟩, .int .i64 at_] w (ParsePost r w) := by
  subst hr
  exact parse_any a.toList at_ w hl hs ha
set_option maxRecDepth 3000 in
theorem split3 {r : (Nat → Bool) × Int × Int} {x y : Int} (h : r.2 = (x, y)) : r = (r.1, x, y) := by rw [← h]
set_option maxRecDepth 3000 in
theorem split2 {r : (Nat → Bool) × Int × Int} {y : Int} (h : r.2.2 = y) : r = (r.1, r.2.1, y) := by rw [← h]
end Go.Proofs.YtmobcljinfoacaaDoor

/-
  The patterns' laws: two trees compared.
-/
namespace Go.Proofs.YtmobcljinfoacaaDoor
open Go.RowKit

set_option maxRecDepth 3000 in
theorem set_span (kind byte : Int) (p : Nat → Bool) (n mn mx : Int) (k : Value) : span (ndA kind byte p n mn mx k) 2 256 = SA p := by
  apply Array.toList_inj.1
  unfold span
  rw [ndA_list]
  simp only [List.cons_append, List.drop_succ_cons, List.drop_zero]
  rw [List.take_left' (by simp)]
/-- A node's cells, kept closed: byte and set too. -/
structure Box2 (C : Array Value) (x : NdV) (k : Value) : Prop extends Box C x k where
  c1 : C[1]? = some (.int .u8 x.byte)
  cs : span C 2 256 = SA x.set
set_option maxRecDepth 3000 in
theorem box2_of (x : NdV) (a : Option Addr) (l c : Nat) : ∃ C, C = ndA x.kind x.byte x.set x.n x.mn x.mx (.slice a l c) ∧ Box2 C x (.slice a l c) :=
  ⟨_, rfl, ⟨⟨ndA_size _ _ _ _ _ _ _, ndA_one_slice _ _ _ _ _ _ _ _ _, over_all (by rw [ndA_size, ndA_size]), ndA_0 _ _ _ _ _ _ _, ndA_258 _ _ _ _ _ _ _, ndA_259 _ _ _ _ _ _ _, ndA_260 _ _ _ _ _ _ _, ndA_261 _ _ _ _ _ _ _⟩, ndA_1 _ _ _ _ _ _ _, set_span _ _ _ _ _ _ _⟩⟩
set_option maxRecDepth 3000 in
theorem row22 : RowOf Tryd.prog 39 256 := ⟨_, Tryd.underlying39, rfl, by kernel_rfl⟩
def ld22 (x : Value) : Sem Value := Instr.loadAt 39 x
set_option maxRecDepth 3000 in
theorem ld22_eq (x : Value) : Instr.loadAt 39 x = ld22 x := rfl
section
variable (w : World) (g o : Nat)
set_option maxRecDepth 3000 in
theorem load22 : (ld22 (.pointer (some ⟨g, o, none⟩))).run Tryd.prog w = loadPart Tryd.prog w 39 g o 256 := rfl
set_option maxRecDepth 3000 in
theorem load22_if : loadPart Tryd.prog w 39 g o 256 = if 0 < 256 ∧ o + 256 ≤ (blk w g).size then .ok (.agg (span (blk w g) o 256)) w else loadPartOdd Tryd.prog w 39 g o 256 := loadPart_if w _ g o 256 row22
end
set_option maxRecDepth 3000 in
/-- A node's cells, read in one piece, by the document's type. -/
theorem node_loadR {w : World} {b o : Nat} {c : Array Value} (hc : c.size = 262) (h : ∀ j u, c[j]? = some u → w.cell? ⟨b, o + j, none⟩ = some u) : loadPart Tryd.prog w 65 b o 262 = .ok (.agg c) w := by
  obtain ⟨d, hu, hd, hi⟩ := rowNodeR
  unfold loadPart
  simp only [Instr.loadAt, Instr.sureAddr, Sem.run_bind, Sem.run_pure, Result.andThen_ok]
  exact run_loadVar_cells w b o 65 c.toList d (fun j v hv => h j v (by rw [← Array.getElem?_toList]; exact hv)) hu hd (by rw [hi]; simp [hc])
attribute [local go_sem ↓] zeroNode zeroNodeR ldNode_eq stNode_eq ldNodeR_eq stNodeR_eq ld22_eq
attribute [local go_sem] loadNode storeNode storeNode_if loadNodeR storeNodeR storeNodeR_if load22 load22_if equal22
set_option maxRecDepth 3000 in
set_option maxHeartbeats 2000000 in
theorem same_any : ∀ (N : Nat) (f : Fr) (ok1 ok2 : Nat → Prop) (A B : Option Addr) (ca cb : Nat) (w : World), f.size ≤ N → f.size ≤ 1000 → FrAt ok1 w A ca f → FrAt ok2 w B cb f →
    Calls Tryd.prog 12 #[.slice A f.len ca, .slice B f.len cb] w fun e w' => e = .returned (.bool true) ∧ Grows w w' := by
  intro N
  induction N with
  | zero =>
    intro f ok1 ok2 A B ca cb w hN _ hA hB
    obtain rfl : f = .nil := Fr.nil_of_len (by have := f.len_size; omega)
    clear hA hB
    go_enter Tryd.func12, Tryd.ntmps12
    go_wp2_with fail
    go_loopg [5] 0 (fun q v5 wr => v5 = .int .i64 0 ∧ wr = w)
    case atStart => exact ⟨rfl, rfl⟩
    case round =>
      obtain ⟨rfl, rfl⟩ := hrel
      go_wp2_with fail
      go_ret
      exact ⟨rfl, Grows.refl _⟩
  | succ N ih =>
    intro f ok1 ok2 A B ca cb w hN hS hA hB
    have hl := f.len_size
    have hl2 : f.len ≤ 1000 := by omega
    have HA := Lib.hid hA
    have HB := Lib.hid hB
    have HN := Lib.hid hN
    have HS := Lib.hid hS
    clear hA hB hN hS hl
    go_enter Tryd.func12, Tryd.ntmps12
    go_wp2_with fail
    go_loopg [5] f.len (fun q v5 wr => ∃ (i : Nat) (a c : Fr), q + i = f.len ∧ v5 = .int .i64 i ∧ f = a.app c ∧ a.len = i ∧ Grows w wr)
    case atStart => exact ⟨0, .nil, f, by omega, rfl, rfl, rfl, Grows.refl _⟩
    case round =>
      obtain ⟨i, a, c, hq, rfl, hf, ha, hg⟩ := hrel
      cases c with
      | nil =>
        have hi : i = f.len := by rw [hf, Fr.app_nil]; exact ha.symm
        subst hi
        have HG := Lib.hid hg
        clear hq hf ha hg
        go_wp2_with fail
        go_ret
        exact ⟨rfl, HG.out⟩
      | cons x kids rest =>
        have hil : i < f.len := by rw [hf, Fr.len_app, ha]; simp [Fr.len]
        have i1 : (i : Int) < (f.len : Int) := by omega
        have hks : kids.size + 1 + a.size ≤ f.size := by rw [hf, Fr.size_app]; simp [Fr.size]; omega
        have hA := HA.out.grows hg
        have hB := HB.out.grows hg
        obtain ⟨b1, o1, rfl, ib1⟩ := hA.some (by omega)
        obtain ⟨b2, o2, rfl, ib2⟩ := hB.some (by omega)
        obtain ⟨K1, k1, hK1, n1⟩ := hA.node hf rfl
        obtain ⟨K2, k2, hK2, n2⟩ := hB.node hf rfl
        rw [ha] at n1 n2
        have up : ∀ {b j : Nat} {u : Value} {W : World}, wr.cell? ⟨b, j, none⟩ = some u → Grows wr W → W.cell? ⟨b, j, none⟩ = some u := fun {b j u W} h k => by
          obtain ⟨m, rfl⟩ := k
          rw [cell_more _ _ _ (World.block_lt_of_cell? wr _ h)]
          exact h
        obtain ⟨C, hC, CX⟩ := box2_of x K1 kids.len k1
        obtain ⟨D, hD, DX⟩ := box2_of x K2 kids.len k2
        rw [show ndC x (.slice K1 kids.len k1) = C from hC.symm] at n1
        rw [show ndC x (.slice K2 kids.len k2) = D from hD.symm] at n2
        clear hC hD
        have L1 : ∀ W, Grows wr W → loadPart Tryd.prog W 41 b1 (o1 + i * 262) 262 = .ok (.agg C) W := fun W k => node_load CX.size (fun j u hu => up (by have := n1 j u hu; rwa [← Nat.add_assoc] at this) k)
        have L2 : ∀ W, Grows wr W → loadPart Tryd.prog W 65 b2 (o2 + i * 262) 262 = .ok (.agg D) W := fun W k => node_loadR DX.size (fun j u hu => up (by have := n2 j u hu; rwa [← Nat.add_assoc] at this) k)
        clear n1 n2 hA hB up
        have HK1 := Lib.hid hK1
        have HK2 := Lib.hid hK2
        have HG := Lib.hid hg
        have HQ := Lib.hid hq
        have HF := Lib.hid hf
        have HAL := Lib.hid ha
        have HKS := Lib.hid hks
        have cz := CX.size
        have dz := DX.size
        have co := CX.one
        have d_o := DX.one
        have cv := CX.over_
        have dv := DX.over_
        clear hK1 hK2 hg hq hf ha hks
        have xa0 := L1 wr.drew (by repeat' first | exact Grows.refl _ | refine Grows.drew ?_ | refine Grows.alloc ?_ _)
        have xa1 := L1 ((wr.alloc (.cells (ndA 0 0 noSet 0 0 0 (.slice none 0 0)) 41))).drew (by repeat' first | exact Grows.refl _ | refine Grows.drew ?_ | refine Grows.alloc ?_ _)
        have xa2 := L1 ((wr.alloc (.cells (ndA 0 0 noSet 0 0 0 (.slice none 0 0)) 65))).drew (by repeat' first | exact Grows.refl _ | refine Grows.drew ?_ | refine Grows.alloc ?_ _)
        have xa3 := L1 ((wr.alloc (.cells D 65))).drew (by repeat' first | exact Grows.refl _ | refine Grows.drew ?_ | refine Grows.alloc ?_ _)
        have xa4 := L1 (((wr.alloc (.cells (ndA 0 0 noSet 0 0 0 (.slice none 0 0)) 41)).alloc (.cells (ndA 0 0 noSet 0 0 0 (.slice none 0 0)) 65))).drew (by repeat' first | exact Grows.refl _ | refine Grows.drew ?_ | refine Grows.alloc ?_ _)
        have xa5 := L1 (((wr.alloc (.cells (ndA 0 0 noSet 0 0 0 (.slice none 0 0)) 65)).alloc (.cells (ndA 0 0 noSet 0 0 0 (.slice none 0 0)) 41))).drew (by repeat' first | exact Grows.refl _ | refine Grows.drew ?_ | refine Grows.alloc ?_ _)
        have xa6 := L1 (((wr.alloc (.cells (ndA 0 0 noSet 0 0 0 (.slice none 0 0)) 41)).alloc (.cells D 65))).drew (by repeat' first | exact Grows.refl _ | refine Grows.drew ?_ | refine Grows.alloc ?_ _)
        have xa7 := L1 (((wr.alloc (.cells D 65)).alloc (.cells (ndA 0 0 noSet 0 0 0 (.slice none 0 0)) 41))).drew (by repeat' first | exact Grows.refl _ | refine Grows.drew ?_ | refine Grows.alloc ?_ _)
        have xb8 := L2 wr.drew (by repeat' first | exact Grows.refl _ | refine Grows.drew ?_ | refine Grows.alloc ?_ _)
        have xb9 := L2 ((wr.alloc (.cells (ndA 0 0 noSet 0 0 0 (.slice none 0 0)) 65))).drew (by repeat' first | exact Grows.refl _ | refine Grows.drew ?_ | refine Grows.alloc ?_ _)
        have xb10 := L2 ((wr.alloc (.cells (ndA 0 0 noSet 0 0 0 (.slice none 0 0)) 41))).drew (by repeat' first | exact Grows.refl _ | refine Grows.drew ?_ | refine Grows.alloc ?_ _)
        have xb11 := L2 ((wr.alloc (.cells C 41))).drew (by repeat' first | exact Grows.refl _ | refine Grows.drew ?_ | refine Grows.alloc ?_ _)
        have xb12 := L2 (((wr.alloc (.cells (ndA 0 0 noSet 0 0 0 (.slice none 0 0)) 41)).alloc (.cells (ndA 0 0 noSet 0 0 0 (.slice none 0 0)) 65))).drew (by repeat' first | exact Grows.refl _ | refine Grows.drew ?_ | refine Grows.alloc ?_ _)
        have xb13 := L2 (((wr.alloc (.cells (ndA 0 0 noSet 0 0 0 (.slice none 0 0)) 65)).alloc (.cells (ndA 0 0 noSet 0 0 0 (.slice none 0 0)) 41))).drew (by repeat' first | exact Grows.refl _ | refine Grows.drew ?_ | refine Grows.alloc ?_ _)
        have xb14 := L2 (((wr.alloc (.cells (ndA 0 0 noSet 0 0 0 (.slice none 0 0)) 65)).alloc (.cells C 41))).drew (by repeat' first | exact Grows.refl _ | refine Grows.drew ?_ | refine Grows.alloc ?_ _)
        have xb15 := L2 (((wr.alloc (.cells C 41)).alloc (.cells (ndA 0 0 noSet 0 0 0 (.slice none 0 0)) 65))).drew (by repeat' first | exact Grows.refl _ | refine Grows.drew ?_ | refine Grows.alloc ?_ _)
        clear L1 L2
        go_upto_region 6 with fail
        go_cut [6, 7] (fun v6 v7 wx => ∃ p1 p2, v6 = .pointer (some ⟨p1, 0, none⟩) ∧ v7 = .pointer (some ⟨p2, 0, none⟩) ∧ blk wx p1 = C ∧ blk wx p2 = D ∧ Grows wr wx)
        case first =>
          go_region_law (fail)
          all_goals
            go_wp2_with fail
            go_meet
            refine ⟨_, _, rfl, rfl, ?_, ?_, by repeat' first | exact Grows.refl _ | refine Grows.drewN ?_ _ | refine Grows.drew ?_ | refine Grows.alloc ?_ _⟩
            all_goals simp [go_sem]
        case rest =>
          obtain ⟨p1, p2, rfl, rfl, hb1, hb2, hG⟩ := hcut
          have z1 : 0 < C.size := by omega
          have z2 : 0 < D.size := by omega
          have i1 : InHeap p1 wc := Blk.inHeap hb1 z1
          have i2 : InHeap p2 wc := Blk.inHeap hb2 z2
          have a0 := (Blk.cell hb1 z1 0).trans CX.c0
          have a1 := (Blk.cell hb1 z1 1).trans CX.c1
          have a258 := (Blk.cell hb1 z1 258).trans CX.c258
          have a259 := (Blk.cell hb1 z1 259).trans CX.c259
          have a260 := (Blk.cell hb1 z1 260).trans CX.c260
          have a261 := (Blk.cell hb1 z1 261).trans CX.c261
          have b0 := (Blk.cell hb2 z2 0).trans DX.c0
          have b1' := (Blk.cell hb2 z2 1).trans DX.c1
          have b258 := (Blk.cell hb2 z2 258).trans DX.c258
          have b259 := (Blk.cell hb2 z2 259).trans DX.c259
          have b260 := (Blk.cell hb2 z2 260).trans DX.c260
          have b261 := (Blk.cell hb2 z2 261).trans DX.c261
          have s1 := CX.cs
          have s2 := DX.cs
          have hcall := ih kids ok1 ok2 K1 K2 k1 k2 wc (by have := HKS.out; have := HN.out; omega) (by have := HKS.out; have := HS.out; omega) (HK1.out.grows hG) (HK2.out.grows hG)
          have HG2 := Lib.hid hG
          clear xa0 xa1 xa2 xa3 xa4 xa5 xa6 xa7 xb8 xb9 xb10 xb11 xb12 xb13 xb14 xb15 cv dv co d_o hG
          go_wp2_with fail
          (with_reducible refine hcall.mono ?_)
          rintro e w2 ⟨rfl, k9⟩
          go_wp2_with fail
          go_roundg (gk - 1)
          case measure => have := HQ.out; omega
          case rel => exact ⟨i + 1, a.app (.cons x kids .nil), rest, by have := HQ.out; omega, by go_num, by rw [Fr.app_assoc]; exact HF.out, by rw [Fr.len_app, HAL.out]; rfl, HG.out.trans (HG2.out.trans k9)⟩
end Go.Proofs.YtmobcljinfoacaaDoor
