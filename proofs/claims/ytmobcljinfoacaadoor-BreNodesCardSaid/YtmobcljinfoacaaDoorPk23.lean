/-
  Patterns in memory: a node's cells; what is built, read and written of nodes.
-/
import Derived.Test.YtmobcljinfoacaaDoorPk18
import Derived.Test.YtmobcljinfoacaaDoorPk19
import Derived.Test.YtmobcljinfoacaaDoorPk22
import Derived.Test.YtmobcljinfoacaaDoorPk12
namespace Go.Proofs.YtmobcljinfoacaaDoor
open Go.RowKit

/-- A node's cells. -/
def ndA (kind byte : Int) (p : Nat → Bool) (n mn mx : Int) (k : Value) : Array Value := #[.int .i64 kind, .int .u8 byte] ++ SA p ++ #[.int .i64 n, .int .i64 mn, .int .i64 mx, k]
abbrev ndC (x : NdV) (k : Value) : Array Value := ndA x.kind x.byte x.set x.n x.mn x.mx k
def noSet : Nat → Bool := fun _ => false
section
variable (kind byte : Int) (p : Nat → Bool) (n mn mx : Int) (k : Value)
set_option maxRecDepth 3000 in
@[go_sem] theorem ndA_size : (ndA kind byte p n mn mx k).size = 262 := by simp [ndA]
set_option maxRecDepth 3000 in
theorem ndA_list : (ndA kind byte p n mn mx k).toList = .int .i64 kind :: .int .u8 byte :: (SA p).toList ++ [.int .i64 n, .int .i64 mn, .int .i64 mx, k] := by simp [ndA]
set_option maxRecDepth 3000 in
theorem ndA_one (h : k.oneCell' = true) : OneCells (ndA kind byte p n mn mx k) := by
  unfold OneCells
  rw [Array.all_eq_true_iff_forall_mem]
  intro v hv
  rw [← Array.mem_toList_iff, ndA_list] at hv
  have hS : ∀ v ∈ (SA p).toList, v.oneCell' = true := fun v hv => by
    have := oneCells_SA p
    unfold OneCells at this
    rw [Array.all_eq_true_iff_forall_mem] at this
    exact this v (by simpa using hv)
  simp only [List.mem_append, List.mem_cons, List.not_mem_nil, or_false] at hv
  rcases hv with (h1 | h1 | h1) | h1 | h1 | h1 | h1
  · subst h1; rfl
  · subst h1; rfl
  · exact hS v h1
  · subst h1; rfl
  · subst h1; rfl
  · subst h1; rfl
  · subst h1; exact h
set_option maxRecDepth 3000 in
theorem ndA_one_slice (a : Option Addr) (l c : Nat) : OneCells (ndA kind byte p n mn mx (.slice a l c)) := ndA_one _ _ _ _ _ _ _ rfl
set_option maxRecDepth 3000 in
theorem ndA_0 : (ndA kind byte p n mn mx k)[0]? = some (.int .i64 kind) := by rw [← Array.getElem?_toList, ndA_list]; rfl
set_option maxRecDepth 3000 in
theorem ndA_1 : (ndA kind byte p n mn mx k)[1]? = some (.int .u8 byte) := by rw [← Array.getElem?_toList, ndA_list]; rfl
set_option maxRecDepth 3000 in
theorem ndA_set (c : Nat) (h : c < 256) : (ndA kind byte p n mn mx k)[2 + c]? = some (.bool (p c)) := by
  rw [← Array.getElem?_toList, ndA_list, show 2 + c = c + 1 + 1 by omega]
  simp only [List.cons_append, List.getElem?_cons_succ]
  rw [List.getElem?_append_left (by simpa using h), Array.getElem?_toList]
  exact get_SA p c h
set_option maxRecDepth 3000 in
theorem ndA_tail (j : Nat) : (ndA kind byte p n mn mx k)[258 + j]? = [Value.int .i64 n, .int .i64 mn, .int .i64 mx, k][j]? := by
  rw [← Array.getElem?_toList, ndA_list, show 258 + j = (256 + j) + 1 + 1 by omega]
  simp only [List.cons_append, List.getElem?_cons_succ]
  rw [List.getElem?_append_right (by simp)]
  simp
set_option maxRecDepth 3000 in
theorem ndA_258 : (ndA kind byte p n mn mx k)[258]? = some (.int .i64 n) := ndA_tail _ _ _ _ _ _ _ 0
set_option maxRecDepth 3000 in
theorem ndA_259 : (ndA kind byte p n mn mx k)[259]? = some (.int .i64 mn) := ndA_tail _ _ _ _ _ _ _ 1
set_option maxRecDepth 3000 in
theorem ndA_260 : (ndA kind byte p n mn mx k)[260]? = some (.int .i64 mx) := ndA_tail _ _ _ _ _ _ _ 2
set_option maxRecDepth 3000 in
theorem ndA_261 : (ndA kind byte p n mn mx k)[261]? = some k := ndA_tail _ _ _ _ _ _ _ 3
set_option maxRecDepth 3000 in
theorem ndA_setK (k' : Value) : (ndA kind byte p n mn mx k).setIfInBounds 261 k' = ndA kind byte p n mn mx k' := by
  have e : ∀ k : Value, (ndA kind byte p n mn mx k).toList = (.int .i64 kind :: .int .u8 byte :: (SA p).toList ++ [.int .i64 n, .int .i64 mn, .int .i64 mx]) ++ [k] := fun k => by rw [ndA_list]; simp
  apply Array.toList_inj.1
  rw [Array.toList_setIfInBounds, e, e, List.set_append_right _ _ (by simp)]
  simp
end
set_option maxRecDepth 3000 in
theorem over_all {a c : Array Value} (h : a.size = c.size) : over a 0 c = c := by
  apply Array.toList_inj.1
  have h1 : a.toList.length = c.size := by simpa using h
  simp [over, List.drop_of_length_le (Nat.le_of_eq h1)]
set_option maxRecDepth 3000 in
theorem span_all {c : Array Value} {n : Nat} (h : c.size = n) : span c 0 n = c := by
  apply Array.toList_inj.1
  subst h
  simp only [span, List.drop_zero]
  exact List.take_of_length_le (by simp)
set_option maxRecDepth 3000 in
@[go_sem] theorem over_nd (a b : Int) (p : Nat → Bool) (c d e : Int) (k : Value) (a' b' : Int) (p' : Nat → Bool) (c' d' e' : Int) (k' : Value) : over (ndA a b p c d e k) 0 (ndA a' b' p' c' d' e' k') = ndA a' b' p' c' d' e' k' := over_all (by rw [ndA_size, ndA_size])
set_option maxRecDepth 3000 in
@[go_sem] theorem span_nd (a b : Int) (p : Nat → Bool) (c d e : Int) (k : Value) : span (ndA a b p c d e k) 0 262 = ndA a b p c d e k := span_all (ndA_size _ _ _ _ _ _ _)
/-! ### nodes: zero, build, load, store -/
set_option maxRecDepth 3000 in
theorem rowNode : RowOf Tryd.prog 41 262 := ⟨_, Tryd.underlying41, rfl, by kernel_rfl⟩
set_option maxRecDepth 3000 in
theorem zeroNode (w : World) : (zeroValue 41).run Tryd.prog w = .ok (.agg (ndA 0 0 noSet 0 0 0 (.slice none 0 0))) w := by kernel_rfl
def bldNd (x : Array (Nat × Value)) : Sem Value := Instr.build 41 x
set_option maxRecDepth 3000 in
theorem bldNd_eq (x : Array (Nat × Value)) : Instr.build 41 x = bldNd x := rfl
section
variable (w : World) (g o : Nat) (c : Array Value)
set_option maxRecDepth 3000 in
theorem bld_kind (k : Int) : (bldNd #[(0, .int .i64 k)]).run Tryd.prog w = .ok (.agg (ndA k 0 noSet 0 0 0 (.slice none 0 0))) w := by kernel_rfl
set_option maxRecDepth 3000 in
theorem bld_byte (k b : Int) : (bldNd #[(0, .int .i64 k), (1, .int .u8 b)]).run Tryd.prog w = .ok (.agg (ndA k b noSet 0 0 0 (.slice none 0 0))) w := by kernel_rfl
set_option maxRecDepth 3000 in
theorem bld_set (k : Int) (p : Nat → Bool) : (bldNd #[(0, .int .i64 k), (2, .agg (SA p))]).run Tryd.prog w = .ok (.agg (ndA k 0 p 0 0 0 (.slice none 0 0))) w := by kernel_rfl
set_option maxRecDepth 3000 in
theorem bld_n (k n : Int) : (bldNd #[(0, .int .i64 k), (3, .int .i64 n)]).run Tryd.prog w = .ok (.agg (ndA k 0 noSet n 0 0 (.slice none 0 0))) w := by kernel_rfl
set_option maxRecDepth 3000 in
theorem bld_star (k n : Int) (a : Option Addr) (l d : Nat) : (bldNd #[(0, .int .i64 k), (5, .int .i64 n), (6, .slice a l d)]).run Tryd.prog w = .ok (.agg (ndA k 0 noSet 0 0 n (.slice a l d))) w := by kernel_rfl
set_option maxRecDepth 3000 in
theorem bld_times (k m n : Int) (a : Option Addr) (l d : Nat) : (bldNd #[(0, .int .i64 k), (4, .int .i64 m), (5, .int .i64 n), (6, .slice a l d)]).run Tryd.prog w = .ok (.agg (ndA k 0 noSet 0 m n (.slice a l d))) w := by kernel_rfl
def ldNode (x : Value) : Sem Value := Instr.loadAt 41 x
set_option maxRecDepth 3000 in
theorem ldNode_eq (x : Value) : Instr.loadAt 41 x = ldNode x := rfl
set_option maxRecDepth 3000 in
theorem loadNode : (ldNode (.pointer (some ⟨g, o, none⟩))).run Tryd.prog w = loadPart Tryd.prog w 41 g o 262 := rfl
set_option maxRecDepth 3000 in
theorem loadNode_if : loadPart Tryd.prog w 41 g o 262 = if 0 < 262 ∧ o + 262 ≤ (blk w g).size then .ok (.agg (span (blk w g) o 262)) w else loadPartOdd Tryd.prog w 41 g o 262 := loadPart_if w _ g o 262 rowNode
def stNode (x v : Value) : Sem Unit := Instr.storeAt 41 x v
set_option maxRecDepth 3000 in
theorem stNode_eq (x v : Value) : Instr.storeAt 41 x v = stNode x v := rfl
set_option maxRecDepth 3000 in
theorem storeNode : (stNode (.pointer (some ⟨g, o, none⟩)) (.agg c)).run Tryd.prog w = storePart Tryd.prog w 41 g o c := rfl
set_option maxRecDepth 3000 in
theorem storeNode_if (h : OneCells c) : storePart Tryd.prog w 41 g o c = if 0 < 262 ∧ o + 262 ≤ (blk w g).size ∧ c.size = 262 then .ok () (setBlk w g (over (blk w g) o c)) else storePartOdd Tryd.prog w 41 g o c := storePart_if w _ g o 262 c rowNode h
set_option maxRecDepth 3000 in
theorem loadVarNode (h : (blk w g).size = 262) : (loadVar 41 ⟨g, 0, none⟩).run Tryd.prog w = .ok (.agg (blk w g)) w := by
  have h1 := loadNode_if w g 0
  rw [if_pos (by omega), span_all h] at h1
  have h2 : (Instr.loadAt 41 (.pointer (some ⟨g, 0, none⟩))).run Tryd.prog w = _ := h1
  simpa [Instr.loadAt, Instr.sureAddr] using h2
end
end Go.Proofs.YtmobcljinfoacaaDoor
