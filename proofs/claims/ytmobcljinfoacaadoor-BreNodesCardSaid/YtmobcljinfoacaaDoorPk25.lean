/-
  Patterns: the parser's small steps, walked.
-/
import Derived.Test.YtmobcljinfoacaaDoorPk24
namespace Go.Proofs.YtmobcljinfoacaaDoor
open Go.RowKit

/-- What is told where there is no pattern. -/
abbrev noneP : List PanicEntry := [{ v := .iface 49 (.agg #[]), recovered := false }]
set_option maxRecDepth 3000 in
theorem must_ok (w : World) : Calls Tryd.prog 16 #[.bool true] w fun e w' => e = .returned (.tuple #[]) ∧ w = w' := by
  go_enter Tryd.func16, Tryd.ntmps16
  go_wp2_with fail
  exact ⟨rfl, .tuple #[], results_none rfl _ _ _, rfl, rfl⟩
set_option maxRecDepth 3000 in
theorem must_no (w : World) : Calls Tryd.prog 16 #[.bool false] w fun e w' => e = .panicked noneP ∧ w = w' := by
  go_enter Tryd.func16, Tryd.ntmps16
  go_wp2_with fail
  exact ⟨rfl, rfl, rfl⟩
set_option maxRecDepth 3000 in
theorem must_any (b : Bool) (w : World) : Calls Tryd.prog 16 #[.bool b] w fun e w' => (e = if b then .returned (.tuple #[]) else .panicked noneP) ∧ w = w' := by
  cases b
  · exact must_no w
  · exact must_ok w
set_option maxRecDepth 3000 in
theorem pa_put {w : World} {g : Nat} {c : Array Value} (hb : blk w g = c) (hz : 0 < c.size) (i : Nat) (v : Value) : blk (w.setCell ⟨g, i, none⟩ v) g = c.setIfInBounds i v := by
  rw [Blk.set hb hz]; exact Blk.get _ hb hz
set_option maxRecDepth 3000 in
theorem chg_cell (w : World) (g i : Nat) (v : Value) : Chg (fun b => b = g) w (w.setCell ⟨g, i, none⟩ v) := Chg.setCell (p := fun b => b = g) rfl v
section
variable {base g : Nat} {w w' : World} {tv ov : Value} {s : PS}
set_option maxRecDepth 3000 in
/-- The parser's rest laid anew. -/
theorem Pa.setLeft (h : Pa base w g tv ov s) (l : List UInt8) (hl : l.length ≤ s.left.length) (x : ByteArray) (hx : x = tx l) : Pa base (w.setCell ⟨g, 0, none⟩ (.string x)) g tv ov { s with left := l } :=
  h.self (t := { s with left := l }) (chg_cell w g 0 _) (by rw [pa_put h.cells (paC_pos _ _ _ _ _ _), hx]; rfl) rfl h.parts h.groups (Nat.le_refl _) hl
set_option maxRecDepth 3000 in
theorem Pa.setParts (h : Pa base w g tv ov s) (n : Int) (hn : n = (s.parts + 1 : Nat)) (hp : s.parts + 1 ≤ 200) : Pa base (w.setCell ⟨g, 3, none⟩ (.int .i64 n)) g tv ov { s with parts := s.parts + 1 } :=
  h.self (t := { s with parts := s.parts + 1 }) (chg_cell w g 3 _) (by rw [pa_put h.cells (paC_pos _ _ _ _ _ _), hn]; rfl) rfl hp h.groups (Nat.le_refl _) (Nat.le_refl _)
set_option maxRecDepth 3000 in
theorem take_at (h : Pa base w g tv ov s) (t : List UInt8) (b : Bool) (l : List UInt8) (hb : ahead t s.left = b) (hl : (if ahead t s.left then s.left.drop t.length else s.left) = l) (hn : l.length ≤ s.left.length) :
    Calls Tryd.prog 31 #[.pointer (some ⟨g, 0, none⟩), .string (tx t)] w fun e w' => e = .returned (.bool b) ∧ Pa base w' g tv ov { s with left := l } ∧ Chg (fun b => b = g) w w' := by
  have ig := h.inh
  obtain ⟨q0, -⟩ := h.six
  have ff := h.free
  have H2 := Lib.hid (h.setLeft l hn _ rfl)
  have hs : (⟨(Lib.trimPrefix s.left t).toArray⟩ : ByteArray) = tx l := hl ▸ rfl
  have ha : Lib.hasPrefix s.left t = b := hb
  clear h hb hl
  go_enter Tryd.func31, Tryd.ntmps31
  go_wp2_with fail
  (with_reducible refine (Tryd.strings_CutPrefix _ _ _).mono ?_)
  rw [tx_data, tx_data, hs, ha]
  rintro e w1 ⟨rfl, rfl⟩
  clear hs ha
  go_wp2_with fail
  go_ret
  exact ⟨rfl, H2.out, chg_cell _ _ _ _⟩
set_option maxRecDepth 3000 in
theorem take_yes (h : Pa base w g tv ov s) (t : List UInt8) (hb : ahead t s.left = true) (x : ByteArray) (hx : x = tx t) (k : Nat) (hk : k = t.length) : Calls Tryd.prog 31 #[.pointer (some ⟨g, 0, none⟩), .string x] w fun e w' => e = .returned (.bool true) ∧ Pa base w' g tv ov { s with left := s.left.drop k } ∧ Chg (fun b => b = g) w w' :=
  hx ▸ hk ▸ take_at h t true _ hb (by rw [hb]; rfl) (by simp)
set_option maxRecDepth 3000 in
theorem take_no (h : Pa base w g tv ov s) (t : List UInt8) (hb : ahead t s.left = false) (x : ByteArray) (hx : x = tx t) : Calls Tryd.prog 31 #[.pointer (some ⟨g, 0, none⟩), .string x] w fun e w' => e = .returned (.bool false) ∧ Pa base w' g tv ov s ∧ Chg (fun b => b = g) w w' :=
  hx ▸ take_at h t false s.left hb (by rw [hb]; rfl) (Nat.le_refl _)
attribute [local go_sem ↓] zeroNode bldNd_eq ldNode_eq stNode_eq
attribute [local go_sem] bld_kind bld_byte bld_set bld_n bld_star bld_times loadNode loadNode_if storeNode storeNode_if ndA_one_slice ndA_0 ndA_258 ndA_261
set_option maxRecDepth 3000 in
/-- A result that lies in a variable of its own. -/
theorem results_node {fn : Func} {T : Array Value} {w : World} {b : Nat} {c : Array Value} (k : Nat) (h : fn.results = #[.cell k 41]) (hT : T.getD k undef = .pointer (some ⟨b, 0, none⟩)) (hb : blk w b = c) (hc : c.size = 262) : (results fn T).run Tryd.prog w = .ok (.agg c) w := by
  have := loadVarNode w b (by rw [hb, hc])
  rw [hb] at this
  rw [Array.getD_eq_getD_getElem?] at hT
  simp [results, h, hT, asAddr, this]
set_option maxRecDepth 3000 in
theorem node_ok (h : Pa base w g tv ov s) (hp : s.parts + 1 ≤ 200) (kind byte : Int) (p : Nat → Bool) (n mn mx : Int) (a : Option Addr) (m c : Nat) :
    Calls Tryd.prog 29 #[.pointer (some ⟨g, 0, none⟩), .agg (ndA kind byte p n mn mx (.slice a m c))] w fun e w' => e = .returned (.agg (ndA kind byte p n mn mx (.slice a m c))) ∧ Pa base w' g tv ov { s with parts := s.parts + 1 } ∧ Chg (fun b => b = g) w w' := by
  have ig := h.inh
  obtain ⟨-, -, -, q3, -⟩ := h.six
  have ff := h.free
  have H := Lib.hid h
  have hd : decide ((s.parts : Int) + 1 ≤ 200) = true := by rw [decide_eq_true_eq]; omega
  clear h
  go_enter Tryd.func29, Tryd.ntmps29
  go_wp2_with fail
  (with_reducible refine (must_ok _).mono ?_)
  rintro e w1 ⟨rfl, rfl⟩
  go_wp2_with fail
  have H2 := H.out.setParts ((s.parts : Int) + 1) (by simp) hp
  have hc := chg_cell w g 3 (.int .i64 ((s.parts : Int) + 1))
  have i2 := H2.inh
  have hz2 : (w.setCell ⟨g, 3, none⟩ (.int .i64 ((s.parts : Int) + 1))).heap.size = w.heap.size := by simp
  generalize w.setCell ⟨g, 3, none⟩ (.int .i64 ((s.parts : Int) + 1)) = w2 at *
  refine bodyPost_ret (results_node 4 rfl rfl (blk_alloc_at _ _ _ _ (by simp [hz2])) (ndA_size _ _ _ _ _ _ _)) rfl ⟨rfl, H2.grows ?_, hc.trans (Chg.of_grows ?_)⟩
  all_goals exact ((Grows.refl _).alloc _).alloc _
set_option maxRecDepth 3000 in
theorem node_no (h : Pa base w g tv ov s) (hp : ¬ s.parts + 1 ≤ 200) (v : Array Value) (hv : OneCells v) (hs : v.size = 262) :
    Calls Tryd.prog 29 #[.pointer (some ⟨g, 0, none⟩), .agg v] w fun e w' => e = .panicked noneP ∧ Chg (fun b => b = g) w w' := by
  have ig := h.inh
  obtain ⟨-, -, -, q3, -⟩ := h.six
  have ff := h.free
  have hd : decide ((s.parts : Int) + 1 ≤ 200) = false := by rw [decide_eq_false_iff_not]; omega
  have hp2 := h.parts
  clear h
  go_enter Tryd.func29, Tryd.ntmps29
  go_wp2_with fail
  (with_reducible refine (must_no _).mono ?_)
  rintro e w1 ⟨rfl, rfl⟩
  exact ⟨rfl, rfl, (chg_cell w g 3 _).trans (Chg.of_grows (((Grows.refl _).alloc _).alloc _))⟩
end
end Go.Proofs.YtmobcljinfoacaaDoor
