/-
  Several texts of the proof: BreRdM, BreRdN.
-/
import Derived.Test.YtmobcljinfoacaaDoorPk30
import Derived.Test.YtmobcljinfoacaaDoorPk17
/-
  Patterns: the document's reader in memory.
-/
namespace Go.Proofs.YtmobcljinfoacaaDoor
open Go.RowKit

/-- A thousand answers. -/
def SM (p : Nat → Bool) : Array Value := ((List.range 1000).map fun c => Value.bool (p c)).toArray
set_option maxRecDepth 3000 in
theorem SM_size (p : Nat → Bool) : (SM p).size = 1000 := by simp [SM]
set_option maxRecDepth 3000 in
theorem SM_get (p : Nat → Bool) (i : Nat) (h : i < 1000) : (SM p).toList[i]? = some (.bool (p i)) := by simp [SM, h]
set_option maxRecDepth 3000 in
theorem SM_set (p : Nat → Bool) (n : Nat) : (SM p).toList.set n (.bool true) = (SM (orAt p n)).toList := by
  apply List.ext_getElem?
  intro i
  rw [List.getElem?_set]
  by_cases hi : i < 1000
  · rw [SM_get _ _ hi, SM_get _ _ hi]
    by_cases e : n = i
    · subst e
      rw [if_pos rfl, if_pos (by simpa [SM_size] using hi)]
      simp [orAt]
    · rw [if_neg e]
      have : ¬ i = n := fun k => e k.symm
      simp [orAt, this]
  · have h1 : (SM p).toList[i]? = none := List.getElem?_eq_none (by simp [SM_size]; omega)
    have h2 : (SM (orAt p n)).toList[i]? = none := List.getElem?_eq_none (by simp [SM_size]; omega)
    rw [h1, h2]
    split
    · rename_i e
      subst e
      rw [if_neg (by simp [SM_size]; omega)]
    · rfl
/-- The reader's cells. -/
def rdA (s : List UInt8) (at_ groups many : Int) (p : Nat → Bool) (refs bad : Bool) : Array Value :=
  #[.string (tx s), .int .i64 at_, .int .i64 groups, .int .i64 many] ++ SM p ++ #[.bool refs, .bool bad]
section
variable (s : List UInt8) (at_ groups many : Int) (p : Nat → Bool) (refs bad : Bool)
set_option maxRecDepth 3000 in
theorem rdA_size : (rdA s at_ groups many p refs bad).size = 1006 := by simp [rdA, SM_size]
set_option maxRecDepth 3000 in
theorem rdA_list : (rdA s at_ groups many p refs bad).toList = .string (tx s) :: .int .i64 at_ :: .int .i64 groups :: .int .i64 many :: (SM p).toList ++ [.bool refs, .bool bad] := by simp [rdA]
set_option maxRecDepth 3000 in
theorem rdA_0 : (rdA s at_ groups many p refs bad)[0]? = some (.string (tx s)) := by rw [← Array.getElem?_toList, rdA_list]; rfl
set_option maxRecDepth 3000 in
theorem rdA_1 : (rdA s at_ groups many p refs bad)[1]? = some (.int .i64 at_) := by rw [← Array.getElem?_toList, rdA_list]; rfl
set_option maxRecDepth 3000 in
theorem rdA_2 : (rdA s at_ groups many p refs bad)[2]? = some (.int .i64 groups) := by rw [← Array.getElem?_toList, rdA_list]; rfl
set_option maxRecDepth 3000 in
theorem rdA_3 : (rdA s at_ groups many p refs bad)[3]? = some (.int .i64 many) := by rw [← Array.getElem?_toList, rdA_list]; rfl
set_option maxRecDepth 3000 in
theorem get_tail (l : List Value) (a b c d x y : Value) (j n : Nat) (hl : l.length = n) : (a :: b :: c :: d :: l ++ [x, y])[n + 4 + j]? = [x, y][j]? := by
  subst hl
  rw [show (a :: b :: c :: d :: l ++ [x, y]) = (a :: b :: c :: d :: l) ++ [x, y] from rfl, List.getElem?_append_right (by simp)]
  have e : l.length + 4 + j - (a :: b :: c :: d :: l).length = j := by simp
  rw [e]
set_option maxRecDepth 3000 in
theorem rdA_tail (j : Nat) : (rdA s at_ groups many p refs bad)[1000 + 4 + j]? = [Value.bool refs, .bool bad][j]? := by
  rw [← Array.getElem?_toList, rdA_list]
  exact get_tail (SM p).toList _ _ _ _ _ _ j 1000 (by simp [SM_size])
set_option maxRecDepth 3000 in
theorem rdA_1004 : (rdA s at_ groups many p refs bad)[1004]? = some (.bool refs) := rdA_tail _ _ _ _ _ _ _ 0
set_option maxRecDepth 3000 in
theorem rdA_1005 : (rdA s at_ groups many p refs bad)[1005]? = some (.bool bad) := rdA_tail _ _ _ _ _ _ _ 1
set_option maxRecDepth 3000 in
theorem rdA_at (n : Nat) (h : n < 1000) : (rdA s at_ groups many p refs bad)[4 + n]? = some (.bool (p n)) := by
  rw [← Array.getElem?_toList, rdA_list, show 4 + n = n + 1 + 1 + 1 + 1 by omega]
  simp only [List.cons_append, List.getElem?_cons_succ]
  rw [List.getElem?_append_left (by simp [SM_size]; exact h)]
  exact SM_get _ _ h
set_option maxRecDepth 3000 in
theorem rdA_set1 (m : Int) : (rdA s at_ groups many p refs bad).setIfInBounds 1 (.int .i64 m) = rdA s m groups many p refs bad := by
  apply Array.toList_inj.1; rw [Array.toList_setIfInBounds, rdA_list, rdA_list]; rfl
set_option maxRecDepth 3000 in
theorem rdA_set2 (m : Int) : (rdA s at_ groups many p refs bad).setIfInBounds 2 (.int .i64 m) = rdA s at_ m many p refs bad := by
  apply Array.toList_inj.1; rw [Array.toList_setIfInBounds, rdA_list, rdA_list]; rfl
set_option maxRecDepth 3000 in
theorem rdA_set3 (m : Int) : (rdA s at_ groups many p refs bad).setIfInBounds 3 (.int .i64 m) = rdA s at_ groups m p refs bad := by
  apply Array.toList_inj.1; rw [Array.toList_setIfInBounds, rdA_list, rdA_list]; rfl
set_option maxRecDepth 3000 in
theorem rdA_setAt (n : Nat) (h : n < 1000) : (rdA s at_ groups many p refs bad).setIfInBounds (4 + n) (.bool true) = rdA s at_ groups many (orAt p n) refs bad := by
  apply Array.toList_inj.1
  rw [Array.toList_setIfInBounds, rdA_list, rdA_list, show 4 + n = n + 1 + 1 + 1 + 1 by omega]
  simp only [List.cons_append, List.set_cons_succ]
  rw [List.set_append_left _ _ (by simp [SM_size]; exact h), SM_set]
set_option maxRecDepth 3000 in
theorem set_tail (l : List Value) (a b c d x y v : Value) (j n : Nat) (hl : l.length = n) : (a :: b :: c :: d :: l ++ [x, y]).set (n + 4 + j) v = a :: b :: c :: d :: l ++ [x, y].set j v := by
  subst hl
  rw [show (a :: b :: c :: d :: l ++ [x, y]) = (a :: b :: c :: d :: l) ++ [x, y] from rfl, List.set_append_right _ _ (by simp)]
  have e : l.length + 4 + j - (a :: b :: c :: d :: l).length = j := by simp
  rw [e]
set_option maxRecDepth 3000 in
theorem rdA_set1004 (b : Bool) : (rdA s at_ groups many p refs bad).setIfInBounds 1004 (.bool b) = rdA s at_ groups many p b bad := by
  apply Array.toList_inj.1
  rw [Array.toList_setIfInBounds, rdA_list, rdA_list]
  exact set_tail (SM p).toList _ _ _ _ _ _ _ 0 1000 (by simp [SM_size])
set_option maxRecDepth 3000 in
theorem rdA_set1005 (b : Bool) : (rdA s at_ groups many p refs bad).setIfInBounds 1005 (.bool b) = rdA s at_ groups many p refs b := by
  apply Array.toList_inj.1
  rw [Array.toList_setIfInBounds, rdA_list, rdA_list]
  exact set_tail (SM p).toList _ _ _ _ _ _ _ 1 1000 (by simp [SM_size])
end
section
variable {w w' : World} {g : Nat} {s : List UInt8} {at_ groups many : Int} {p : Nat → Bool} {refs bad : Bool}
/-- The reader lies at block g. -/
def RdAt (w : World) (g : Nat) (s : List UInt8) (at_ groups many : Int) (p : Nat → Bool) (refs bad : Bool) : Prop := blk w g = rdA s at_ groups many p refs bad
set_option maxRecDepth 3000 in
theorem RdAt.inh (h : RdAt w g s at_ groups many p refs bad) : InHeap g w := Blk.inHeap h (by rw [rdA_size]; omega)
set_option maxRecDepth 3000 in
theorem RdAt.cell (h : RdAt w g s at_ groups many p refs bad) (i : Nat) : w.cell? ⟨g, i, none⟩ = (rdA s at_ groups many p refs bad)[i]? := Blk.cell h (by rw [rdA_size]; omega) i
set_option maxRecDepth 3000 in
theorem RdAt.cells (h : RdAt w g s at_ groups many p refs bad) : w.cell? ⟨g, 0, none⟩ = some (.string (tx s)) ∧ w.cell? ⟨g, 1, none⟩ = some (.int .i64 at_) ∧ w.cell? ⟨g, 2, none⟩ = some (.int .i64 groups) ∧ w.cell? ⟨g, 3, none⟩ = some (.int .i64 many) ∧ w.cell? ⟨g, 1004, none⟩ = some (.bool refs) ∧ w.cell? ⟨g, 1005, none⟩ = some (.bool bad) :=
  ⟨(h.cell 0).trans (rdA_0 _ _ _ _ _ _ _), (h.cell 1).trans (rdA_1 _ _ _ _ _ _ _), (h.cell 2).trans (rdA_2 _ _ _ _ _ _ _), (h.cell 3).trans (rdA_3 _ _ _ _ _ _ _), (h.cell 1004).trans (rdA_1004 _ _ _ _ _ _ _), (h.cell 1005).trans (rdA_1005 _ _ _ _ _ _ _)⟩
set_option maxRecDepth 3000 in
theorem RdAt.free (h : RdAt w g s at_ groups many p refs bad) : ∀ k, w.frozen? ⟨g, k, none⟩ = false := fun k => Blk.free h (by rw [rdA_size]; omega) k
set_option maxRecDepth 3000 in
theorem RdAt.set1 (h : RdAt w g s at_ groups many p refs bad) (m : Int) : RdAt (w.setCell ⟨g, 1, none⟩ (.int .i64 m)) g s m groups many p refs bad := (pa_put h (by rw [rdA_size]; omega) 1 _).trans (rdA_set1 _ _ _ _ _ _ _ m)
set_option maxRecDepth 3000 in
theorem RdAt.set2 (h : RdAt w g s at_ groups many p refs bad) (m : Int) : RdAt (w.setCell ⟨g, 2, none⟩ (.int .i64 m)) g s at_ m many p refs bad := (pa_put h (by rw [rdA_size]; omega) 2 _).trans (rdA_set2 _ _ _ _ _ _ _ m)
set_option maxRecDepth 3000 in
theorem RdAt.set3 (h : RdAt w g s at_ groups many p refs bad) (m : Int) : RdAt (w.setCell ⟨g, 3, none⟩ (.int .i64 m)) g s at_ groups m p refs bad := (pa_put h (by rw [rdA_size]; omega) 3 _).trans (rdA_set3 _ _ _ _ _ _ _ m)
set_option maxRecDepth 3000 in
theorem RdAt.set1004 (h : RdAt w g s at_ groups many p refs bad) (b : Bool) : RdAt (w.setCell ⟨g, 1004, none⟩ (.bool b)) g s at_ groups many p b bad := (pa_put h (by rw [rdA_size]; omega) 1004 _).trans (rdA_set1004 _ _ _ _ _ _ _ b)
set_option maxRecDepth 3000 in
theorem RdAt.set1005 (h : RdAt w g s at_ groups many p refs bad) (b : Bool) : RdAt (w.setCell ⟨g, 1005, none⟩ (.bool b)) g s at_ groups many p refs b := (pa_put h (by rw [rdA_size]; omega) 1005 _).trans (rdA_set1005 _ _ _ _ _ _ _ b)
set_option maxRecDepth 3000 in
theorem RdAt.setAt (h : RdAt w g s at_ groups many p refs bad) (n : Nat) (hn : n < 1000) : RdAt (w.setCell ⟨g, 4 + n, none⟩ (.bool true)) g s at_ groups many (orAt p n) refs bad := (pa_put h (by rw [rdA_size]; omega) _ _).trans (rdA_setAt _ _ _ _ _ _ _ n hn)
set_option maxRecDepth 3000 in
theorem RdAt.alloc (h : RdAt w g s at_ groups many p refs bad) (o : Obj) : RdAt (w.alloc o) g s at_ groups many p refs bad := (blk_alloc_past _ _ _ h.inh).trans h
set_option maxRecDepth 3000 in
theorem RdAt.grows (h : RdAt w g s at_ groups many p refs bad) (hg : Grows w w') : RdAt w' g s at_ groups many p refs bad := by
  have := h.inh
  obtain ⟨m, rfl⟩ := hg
  exact (blk_more _ _ _ this).trans h
end
/-! ### small functions -/
set_option maxRecDepth 3000 in
theorem ahead_take (t l : List UInt8) (h : t.length ≤ l.length) : ((tx (l.take t.length)).toList == (tx t).toList) = ahead t l := by
  rw [ByteArray.toList_eq, ByteArray.toList_eq, tx_data, tx_data]
  unfold ahead Lib.hasPrefix
  rw [Bool.eq_iff_iff, beq_iff_eq, List.isPrefixOf_iff_prefix, List.prefix_iff_eq_take]
  exact ⟨fun e => e.symm, fun e => e.symm⟩
set_option maxRecDepth 3000 in
theorem ahead_short {t l : List UInt8} (h : ¬ t.length ≤ l.length) : ahead t l = false := by
  cases hb : ahead t l with
  | false => rfl
  | true => exact absurd (ahead_len hb) h
set_option maxRecDepth 3000 in
set_option maxHeartbeats 1000000 in
theorem is_any {w : World} {g : Nat} {s : List UInt8} {at_ : Nat} {groups many : Int} {p : Nat → Bool} {refs bad : Bool} (h : RdAt w g s (at_ : Int) groups many p refs bad) (ha : at_ ≤ s.length) (hl : s.length ≤ 1000) (t : List UInt8) (ht : t.length ≤ 10) (x : ByteArray) (hx : x = tx t) :
    Calls Tryd.prog 22 #[.pointer (some ⟨g, 0, none⟩), .string x] w fun e w' => e = .returned (.bool (ahead t (s.drop at_))) ∧ Grows w w' := by
  subst hx
  have ig := h.inh
  obtain ⟨c0, c1, -, -, -, -⟩ := h.cells
  clear h
  by_cases hz : t.length ≤ s.length - at_
  · have e1 : (t.length : Int) ≤ (s.length : Int) - (at_ : Int) := by omega
    have hx : (tx s).extract at_ (at_ + t.length) = tx ((s.drop at_).take t.length) := by rw [tx_mid, Nat.add_sub_cancel_left]
    have hb := ahead_take t (s.drop at_) (by simpa using hz)
    have e2 : (at_ : Int) + (t.length : Int) ≤ (s.length : Int) := by omega
    generalize (s.drop at_).take t.length = u at *
    generalize ahead t (s.drop at_) = b at *
    go_enter Tryd.func22, Tryd.ntmps22
    go_upto_region 1 with fail
    go_quiet (fail)
    go_wp2_with fail
    go_ret
    exact ⟨by simp [hb], by first | exact (Grows.refl _).drewN _ | exact Grows.refl _⟩
  · have hb : ahead t (s.drop at_) = false := ahead_short (by simpa using hz)
    have e1 : ¬(t.length : Int) ≤ (s.length : Int) - (at_ : Int) := by omega
    rw [hb]
    clear hb
    go_enter Tryd.func22, Tryd.ntmps22
    go_upto_region 1 with fail
    go_quiet (fail)
    go_wp2_with fail
    go_ret
    exact ⟨rfl, by first | exact (Grows.refl _).drewN _ | exact Grows.refl _⟩
end Go.Proofs.YtmobcljinfoacaaDoor

/-
  Patterns: the document's reader: a node more.
-/
namespace Go.Proofs.YtmobcljinfoacaaDoor
open Go.RowKit

set_option maxRecDepth 3000 in
theorem rowNodeR : RowOf Tryd.prog 65 262 := ⟨_, Tryd.underlying65, rfl, by kernel_rfl⟩
set_option maxRecDepth 3000 in
theorem zeroNodeR (w : World) : (zeroValue 65).run Tryd.prog w = .ok (.agg (ndA 0 0 noSet 0 0 0 (.slice none 0 0))) w := by kernel_rfl
def bldNdR (x : Array (Nat × Value)) : Sem Value := Instr.build 65 x
set_option maxRecDepth 3000 in
theorem bldNdR_eq (x : Array (Nat × Value)) : Instr.build 65 x = bldNdR x := rfl
section
variable (w : World) (g o : Nat) (c : Array Value)
set_option maxRecDepth 3000 in
theorem bldR_none : (bldNdR #[]).run Tryd.prog w = .ok (.agg (ndA 0 0 noSet 0 0 0 (.slice none 0 0))) w := by kernel_rfl
set_option maxRecDepth 3000 in
theorem bldR_kind (k : Int) : (bldNdR #[(0, .int .i64 k)]).run Tryd.prog w = .ok (.agg (ndA k 0 noSet 0 0 0 (.slice none 0 0))) w := by kernel_rfl
set_option maxRecDepth 3000 in
theorem bldR_byte (k b : Int) : (bldNdR #[(0, .int .i64 k), (1, .int .u8 b)]).run Tryd.prog w = .ok (.agg (ndA k b noSet 0 0 0 (.slice none 0 0))) w := by kernel_rfl
set_option maxRecDepth 3000 in
theorem bldR_set (k : Int) (p : Nat → Bool) : (bldNdR #[(0, .int .i64 k), (2, .agg (SA p))]).run Tryd.prog w = .ok (.agg (ndA k 0 p 0 0 0 (.slice none 0 0))) w := by kernel_rfl
set_option maxRecDepth 3000 in
theorem bldR_n (k n : Int) : (bldNdR #[(0, .int .i64 k), (3, .int .i64 n)]).run Tryd.prog w = .ok (.agg (ndA k 0 noSet n 0 0 (.slice none 0 0))) w := by kernel_rfl
set_option maxRecDepth 3000 in
theorem bldR_star (k n : Int) (a : Option Addr) (l d : Nat) : (bldNdR #[(0, .int .i64 k), (5, .int .i64 n), (6, .slice a l d)]).run Tryd.prog w = .ok (.agg (ndA k 0 noSet 0 0 n (.slice a l d))) w := by kernel_rfl
set_option maxRecDepth 3000 in
theorem bldR_times (k m n : Int) (a : Option Addr) (l d : Nat) : (bldNdR #[(0, .int .i64 k), (4, .int .i64 m), (5, .int .i64 n), (6, .slice a l d)]).run Tryd.prog w = .ok (.agg (ndA k 0 noSet 0 m n (.slice a l d))) w := by kernel_rfl
def ldNodeR (x : Value) : Sem Value := Instr.loadAt 65 x
set_option maxRecDepth 3000 in
theorem ldNodeR_eq (x : Value) : Instr.loadAt 65 x = ldNodeR x := rfl
set_option maxRecDepth 3000 in
theorem loadNodeR : (ldNodeR (.pointer (some ⟨g, o, none⟩))).run Tryd.prog w = loadPart Tryd.prog w 65 g o 262 := rfl
set_option maxRecDepth 3000 in
theorem loadNodeR_if : loadPart Tryd.prog w 65 g o 262 = if 0 < 262 ∧ o + 262 ≤ (blk w g).size then .ok (.agg (span (blk w g) o 262)) w else loadPartOdd Tryd.prog w 65 g o 262 := loadPart_if w _ g o 262 rowNodeR
def stNodeR (x v : Value) : Sem Unit := Instr.storeAt 65 x v
set_option maxRecDepth 3000 in
theorem stNodeR_eq (x v : Value) : Instr.storeAt 65 x v = stNodeR x v := rfl
set_option maxRecDepth 3000 in
theorem storeNodeR : (stNodeR (.pointer (some ⟨g, o, none⟩)) (.agg c)).run Tryd.prog w = storePart Tryd.prog w 65 g o c := rfl
set_option maxRecDepth 3000 in
theorem storeNodeR_if (h : OneCells c) : storePart Tryd.prog w 65 g o c = if 0 < 262 ∧ o + 262 ≤ (blk w g).size ∧ c.size = 262 then .ok () (setBlk w g (over (blk w g) o c)) else storePartOdd Tryd.prog w 65 g o c := storePart_if w _ g o 262 c rowNodeR h
set_option maxRecDepth 3000 in
theorem loadVarNodeR (h : (blk w g).size = 262) : (loadVar 65 ⟨g, 0, none⟩).run Tryd.prog w = .ok (.agg (blk w g)) w := by
  have h1 := loadNodeR_if w g 0
  rw [if_pos (by omega), span_all h] at h1
  have h2 : (Instr.loadAt 65 (.pointer (some ⟨g, 0, none⟩))).run Tryd.prog w = _ := h1
  simpa [Instr.loadAt, Instr.sureAddr] using h2
end
set_option maxRecDepth 3000 in
/-- A result that lies in a variable of its own. -/
theorem results_nodeR {fn : Func} {T : Array Value} {w : World} {b : Nat} {c : Array Value} (k : Nat) (h : fn.results = #[.cell k 65]) (hT : T.getD k undef = .pointer (some ⟨b, 0, none⟩)) (hb : blk w b = c) (hc : c.size = 262) : (results fn T).run Tryd.prog w = .ok (.agg c) w := by
  have := loadVarNodeR w b (by rw [hb, hc])
  rw [hb] at this
  rw [Array.getD_eq_getD_getElem?] at hT
  simp [results, h, hT, asAddr, this]
attribute [local go_sem ↓] zeroNodeR bldNdR_eq ldNodeR_eq stNodeR_eq
attribute [local go_sem] loadNodeR loadNodeR_if storeNodeR storeNodeR_if ndA_one_slice
set_option maxRecDepth 3000 in
set_option maxHeartbeats 1000000 in
theorem rnode_any {w : World} {g : Nat} {s : List UInt8} {at_ groups many : Nat} {p : Nat → Bool} {refs bad : Bool} (h : RdAt w g s (at_ : Int) groups many p refs bad) (ha : at_ ≤ 1000) (hm : many ≤ 1000) (k : Nat) (hk : k ≤ 1000) (kind byte : Int) (q : Nat → Bool) (n mn mx : Int) (a : Option Addr) (m c : Nat) :
    Calls Tryd.prog 35 #[.pointer (some ⟨g, 0, none⟩), .agg (ndA kind byte q n mn mx (.slice a m c)), .int .i64 k] w fun e w' => e = .returned (.agg (ndA kind byte q n mn mx (.slice a m c))) ∧ RdAt w' g s ((at_ + k : Nat) : Int) groups ((many + 1 : Nat) : Int) p refs bad ∧ Chg (fun b => b = g) w w' := by
  have ig := h.inh
  obtain ⟨-, c1, -, c3, -, -⟩ := h.cells
  have ff := h.free
  have H := Lib.hid h
  clear h
  go_enter Tryd.func35, Tryd.ntmps35
  go_wp2_with fail
  have H2 := (H.out.set3 ((many : Int) + 1)).set1 ((at_ : Int) + (k : Int))
  have hc : Chg (fun b => b = g) w ((w.setCell ⟨g, 3, none⟩ (.int .i64 ((many : Int) + 1))).setCell ⟨g, 1, none⟩ (.int .i64 ((at_ : Int) + (k : Int)))) := (chg_cell _ _ _ _).trans (chg_cell _ _ _ _)
  have hz2 : ((w.setCell ⟨g, 3, none⟩ (.int .i64 ((many : Int) + 1))).setCell ⟨g, 1, none⟩ (.int .i64 ((at_ : Int) + (k : Int)))).heap.size = w.heap.size := by simp
  generalize (w.setCell ⟨g, 3, none⟩ (.int .i64 ((many : Int) + 1))).setCell ⟨g, 1, none⟩ (.int .i64 ((at_ : Int) + (k : Int))) = w2 at *
  refine bodyPost_ret (results_nodeR 6 rfl rfl (blk_alloc_at _ _ _ _ (by simp [hz2])) (ndA_size _ _ _ _ _ _ _)) rfl ⟨rfl, ?_, hc.trans (Chg.of_grows ?_)⟩
  · exact (H2.alloc _).alloc _
  · exact ((Grows.refl _).alloc _).alloc _
end Go.Proofs.YtmobcljinfoacaaDoor
