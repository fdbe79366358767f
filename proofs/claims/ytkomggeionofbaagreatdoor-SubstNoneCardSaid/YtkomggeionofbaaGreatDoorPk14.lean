/-
  Several texts of the proof: BreAt, BreStep.
-/
import Derived.Test.YtkomggeionofbaaGreatDoorPk13
set_option linter.unusedSimpArgs false
set_option linter.unusedVariables false
/-
  Patterns in memory: rows of nodes, the parser.
-/
namespace Go.Proofs.YtkomggeionofbaaGreatDoor
open Go.RowKit

/-- A slice of nodes, by its cells. -/
structure Sl (ok : Nat → Prop) (w : World) (A : Option Addr) (cap n : Nat) (xs : List Value) : Prop where
  rd : Rd w 262 A n xs
  nil : A = none → n = 0 ∧ cap = 0
  le : n ≤ cap
  cap63 : cap ≤ 9223372036854775807
  ok : 0 < n → ∀ a, A = some a → ok a.block
section
variable {ok ok2 q : Nat → Prop} {w w' : World} {A : Option Addr} {cap n : Nat} {xs : List Value}
set_option maxRecDepth 3000 in
theorem Sl.chg (h : Sl ok w A cap n xs) (hc : Chg q w w') (hp : ∀ b, b < w.heap.size → ok b → ¬ q b) : Sl ok w' A cap n xs :=
  ⟨h.rd.chg hc fun hn a e => hp _ (by obtain ⟨b, o, e2, hb, _⟩ := h.rd.2 hn; rw [e] at e2; cases e2; exact hb) (h.ok hn a e), h.nil, h.le, h.cap63, h.ok⟩
set_option maxRecDepth 3000 in
theorem Sl.mono (h : Sl ok w A cap n xs) (ho : ∀ b, b < w.heap.size → ok b → ok2 b) : Sl ok2 w A cap n xs :=
  ⟨h.rd, h.nil, h.le, h.cap63, fun hn a e => ho _ (by obtain ⟨b, o, e2, hb, _⟩ := h.rd.2 hn; rw [e] at e2; cases e2; exact hb) (h.ok hn a e)⟩
set_option maxRecDepth 3000 in
theorem Sl.zero (ok : Nat → Prop) (w : World) : Sl ok w none 0 0 [] := ⟨Rd.nil_, fun _ => ⟨rfl, rfl⟩, Nat.le_refl _, by omega, fun h => absurd h (Nat.lt_irrefl _)⟩
/-- The cells of a row of nodes, whose kids lie where ok tells. -/
def FrRow (ok : Nat → Prop) (w : World) : Fr → List Value → Prop
  | .nil, xs => xs = []
  | .cons x kids rest, xs => ∃ A cap ys zs, xs = (ndC x (.slice A kids.len cap)).toList ++ zs ∧ Sl ok w A cap kids.len ys ∧ FrRow ok w kids ys ∧ FrRow ok w rest zs
set_option maxRecDepth 3000 in
theorem FrRow.chg (hc : Chg q w w') (hp : ∀ b, b < w.heap.size → ok b → ¬ q b) : ∀ {f : Fr} {xs : List Value}, FrRow ok w f xs → FrRow ok w' f xs := by
  intro f
  induction f with
  | nil => exact fun h => h
  | cons x k r ihk ihr =>
    rintro xs ⟨A, cap, ys, zs, e, h1, h2, h3⟩
    exact ⟨A, cap, ys, zs, e, h1.chg hc hp, ihk h2, ihr h3⟩
set_option maxRecDepth 3000 in
theorem FrRow.mono (ho : ∀ b, b < w.heap.size → ok b → ok2 b) : ∀ {f : Fr} {xs : List Value}, FrRow ok w f xs → FrRow ok2 w f xs := by
  intro f
  induction f with
  | nil => exact fun h => h
  | cons x k r ihk ihr =>
    rintro xs ⟨A, cap, ys, zs, e, h1, h2, h3⟩
    exact ⟨A, cap, ys, zs, e, h1.mono ho, ihk h2, ihr h3⟩
set_option maxRecDepth 3000 in
theorem FrRow.app {b : Fr} {ys : List Value} : ∀ {a : Fr} {xs : List Value}, FrRow ok w a xs → FrRow ok w b ys → FrRow ok w (a.app b) (xs ++ ys) := by
  intro a
  induction a with
  | nil => intro xs h k; cases h; exact k
  | cons x k r _ ihr =>
    rintro xs ⟨A, cap, us, zs, e, h1, h2, h3⟩ hb
    exact ⟨A, cap, us, zs ++ ys, by rw [e, List.append_assoc], h1, h2, ihr h3 hb⟩
set_option maxRecDepth 3000 in
theorem FrRow.len : ∀ {f : Fr} {xs : List Value}, FrRow ok w f xs → xs.length = f.len * 262 := by
  intro f
  induction f with
  | nil => intro xs h; cases h; rfl
  | cons x k r _ ihr =>
    rintro xs ⟨A, cap, us, zs, e, h1, h2, h3⟩
    have := ihr h3
    rw [e, List.length_append, Array.length_toList, ndA_size, this]
    simp only [Fr.len]; omega
/-- A slice of nodes. -/
def FrAt (ok : Nat → Prop) (w : World) (A : Option Addr) (cap : Nat) (f : Fr) : Prop := ∃ xs, Sl ok w A cap f.len xs ∧ FrRow ok w f xs
set_option maxRecDepth 3000 in
theorem FrAt.chg {f : Fr} (h : FrAt ok w A cap f) (hc : Chg q w w') (hp : ∀ b, b < w.heap.size → ok b → ¬ q b) : FrAt ok w' A cap f := by
  obtain ⟨xs, h1, h2⟩ := h
  exact ⟨xs, h1.chg hc hp, h2.chg hc hp⟩
set_option maxRecDepth 3000 in
theorem FrAt.mono {f : Fr} (h : FrAt ok w A cap f) (ho : ∀ b, b < w.heap.size → ok b → ok2 b) : FrAt ok2 w A cap f := by
  obtain ⟨xs, h1, h2⟩ := h
  exact ⟨xs, h1.mono ho, h2.mono ho⟩
set_option maxRecDepth 3000 in
theorem FrAt.grows {f : Fr} (h : FrAt ok w A cap f) (hg : Grows w w') : FrAt ok w' A cap f := h.chg (Chg.of_grows (p := fun _ => False) hg) fun _ _ _ h => h
set_option maxRecDepth 3000 in
theorem FrAt.zero (ok : Nat → Prop) (w : World) : FrAt ok w none 0 .nil := ⟨[], Sl.zero ok w, rfl⟩
/-- A node as a value. -/
def NkAt (ok : Nat → Prop) (w : World) (v : Value) (y : Nk) : Prop := ∃ A cap, v = .agg (ndC y.1 (.slice A y.2.len cap)) ∧ FrAt ok w A cap y.2
set_option maxRecDepth 3000 in
theorem NkAt.chg {v : Value} {y : Nk} (h : NkAt ok w v y) (hc : Chg q w w') (hp : ∀ b, b < w.heap.size → ok b → ¬ q b) : NkAt ok w' v y := by
  obtain ⟨A, cap, e, h⟩ := h
  exact ⟨A, cap, e, h.chg hc hp⟩
set_option maxRecDepth 3000 in
theorem NkAt.mono {v : Value} {y : Nk} (h : NkAt ok w v y) (ho : ∀ b, b < w.heap.size → ok b → ok2 b) : NkAt ok2 w v y := by
  obtain ⟨A, cap, e, h⟩ := h
  exact ⟨A, cap, e, h.mono ho⟩
set_option maxRecDepth 3000 in
theorem NkAt.leaf (ok : Nat → Prop) (w : World) (x : NdV) : NkAt ok w (.agg (ndC x (.slice none 0 0))) (x, .nil) := ⟨none, 0, rfl, FrAt.zero ok w⟩
set_option maxRecDepth 3000 in
/-- A slice that was made of a row of one's own. -/
theorem FrAt.of_own {base : Nat} {v : Value} {f : Fr} (h : w.ownsRow base 80 262 v f.len xs) (ho : ∀ b, base ≤ b → ok b) (hf : FrRow ok w f xs) : ∃ A cap, v = .slice A f.len cap ∧ FrAt ok w A cap f := by
  rcases h with ⟨hl, ⟨rfl, h0⟩ | ⟨g, cap, cur, rfl, hb, hh, h1, h2, h3, h4⟩⟩
  · rw [h0] at hl ⊢
    have : xs = [] := List.length_eq_zero_iff.1 (by simpa using hl)
    subst this
    exact ⟨none, 0, rfl, [], by rw [h0]; exact Sl.zero ok w, hf⟩
  · refine ⟨some ⟨g, 0, none⟩, cap, rfl, xs, ⟨⟨hl, fun _ => ⟨g, 0, rfl, (Array.getElem?_eq_some_iff.1 hh).1, fun j u hu => ?_⟩⟩, (fun e => by cases e), h1, by unfold maxLen at h2; omega, fun _ a e => by cases e; exact ho _ hb⟩, hf⟩
    rw [cell_of_row w g _ cur _ (0, 0) hh, Nat.zero_add]
    rw [← h4, List.getElem?_take] at hu
    split at hu
    · simpa using hu
    · cases hu
end

/-! ### the parser -/
/-- The parser's cells. -/
def paC (l : List UInt8) (tv : Value) (gr pa : Int) (rf : Bool) (ov : Value) : Array Value := #[.string (tx l), tv, .int .i64 gr, .int .i64 pa, .bool rf, ov]
set_option maxRecDepth 3000 in
theorem paC_pos (l : List UInt8) (tv : Value) (gr pa : Int) (rf : Bool) (ov : Value) : 0 < (paC l tv gr pa rf ov).size := by simp [paC]
/-- Blocks of the parser's own. -/
def PaK (g : Nat) (ov : Value) : Nat → Prop := fun b => b = g ∨ ov.ownBlock = some b
structure Pa (base : Nat) (w : World) (g : Nat) (tv ov : Value) (s : PS) : Prop where
  cells : blk w g = paC s.left tv s.groups s.parts s.refs ov
  own : w.ownsRow base 3 1 ov s.op.length (s.op.map fun n : Nat => Value.int .i64 n)
  ne : ov.ownBlock ≠ some g
  low : base ≤ g
  parts : s.parts ≤ 200
  groups : s.groups ≤ 9
  left : s.left.length ≤ 1000000
  op : s.op.length ≤ s.groups
set_option maxRecDepth 3000 in
theorem chg_late {p q : Nat → Prop} {a b c : World} (h : Chg p a b) (k : Chg q b c) (hq : ∀ x, x < a.heap.size → q x → p x) : Chg p a c :=
  ⟨k.os.trans h.os, k.tape.trans h.tape, k.output.trans h.output, Nat.le_trans h.size k.size, fun x hx hp => (k.block x (Nat.lt_of_lt_of_le hx h.size) (fun e => hp (hq x hx e))).trans (h.block x hx hp)⟩
structure StepP (K K' : Nat → Prop) (w w' : World) : Prop where
  chg : Chg K w w'
  new : ∀ b, K' b → K b ∨ w.heap.size ≤ b
section
variable {base g : Nat} {w w' w2 : World} {tv ov ov' : Value} {s t : PS} {K K' K2 q : Nat → Prop}
set_option maxRecDepth 3000 in
theorem StepP.trans (h : StepP K K' w w') (k : StepP K' K2 w' w2) : StepP K K2 w w2 := by
  refine ⟨chg_late h.chg k.chg fun b hb hk => ?_, fun b hb => ?_⟩
  · rcases h.new b hk with h1 | h1
    · exact h1
    · omega
  · rcases k.new b hb with h1 | h1
    · exact h.new b h1
    · exact .inr (Nat.le_trans h.chg.size h1)
set_option maxRecDepth 3000 in
theorem StepP.of_chg (h : Chg K w w') : StepP K K w w' := ⟨h, fun _ h => .inl h⟩
set_option maxRecDepth 3000 in
theorem StepP.of_grows (h : Grows w w') : StepP K K w w' := .of_chg (Chg.of_grows h)
set_option maxRecDepth 3000 in
theorem Pa.inh (h : Pa base w g tv ov s) : InHeap g w := Blk.inHeap h.cells (paC_pos _ _ _ _ _ _)
set_option maxRecDepth 3000 in
theorem Pa.free (h : Pa base w g tv ov s) (i : Nat) : w.frozen? ⟨g, i, none⟩ = false := Blk.free h.cells (paC_pos _ _ _ _ _ _) i
set_option maxRecDepth 3000 in
theorem Pa.six (h : Pa base w g tv ov s) : w.cell? ⟨g, 0, none⟩ = some (.string (tx s.left)) ∧ w.cell? ⟨g, 1, none⟩ = some tv ∧ w.cell? ⟨g, 2, none⟩ = some (.int .i64 s.groups) ∧ w.cell? ⟨g, 3, none⟩ = some (.int .i64 s.parts) ∧ w.cell? ⟨g, 4, none⟩ = some (.bool s.refs) ∧ w.cell? ⟨g, 5, none⟩ = some ov := by
  have hc := fun i => Blk.cell h.cells (paC_pos _ _ _ _ _ _) i
  exact ⟨hc 0, hc 1, hc 2, hc 3, hc 4, hc 5⟩
set_option maxRecDepth 3000 in
/-- Other cells of the parser's, the open groups as they were. -/
theorem Pa.self (h : Pa base w g tv ov s) (hc : Chg (fun b => b = g) w w') (hb : blk w' g = paC t.left tv t.groups t.parts t.refs ov) (ho : t.op = s.op) (hp : t.parts ≤ 200) (hg : t.groups ≤ 9) (hgs : s.groups ≤ t.groups) (hl : t.left.length ≤ s.left.length) : Pa base w' g tv ov t := by
  refine ⟨hb, ?_, h.ne, h.low, hp, hg, Nat.le_trans hl h.left, by rw [ho]; exact Nat.le_trans h.op hgs⟩
  rw [ho]
  obtain ⟨h1, h2⟩ := h.own
  refine ⟨h1, h2.elim .inl ?_⟩
  rintro ⟨e, cap, cur, rfl, hb2, hh, r⟩
  exact .inr ⟨e, cap, cur, rfl, hb2, (hc.block e (Array.getElem?_eq_some_iff.1 hh).1 (fun e2 => h.ne (by rw [← e2]; rfl))).trans hh, r⟩
set_option maxRecDepth 3000 in
theorem Pa.grows (h : Pa base w g tv ov s) (hg : Grows w w') : Pa base w' g tv ov s :=
  h.self (Chg.of_grows hg) (by obtain ⟨m, rfl⟩ := hg; rw [blk_more _ _ _ h.inh]; exact h.cells) rfl h.parts h.groups (Nat.le_refl _) (Nat.le_refl _)
set_option maxRecDepth 3000 in
theorem Pa.own_lt (h : Pa base w g tv ov s) {b : Nat} (hb : PaK g ov b) : b < w.heap.size := by
  rcases hb with rfl | hb
  · exact h.inh
  · rcases h.own.2 with ⟨rfl, _⟩ | ⟨e, cap, cur, rfl, _, hh, _⟩
    · cases hb
    · cases hb; exact (Array.getElem?_eq_some_iff.1 hh).1
set_option maxRecDepth 3000 in
theorem Pa.own_low (h : Pa base w g tv ov s) {b : Nat} (hb : PaK g ov b) : base ≤ b := by
  rcases hb with rfl | hb
  · exact h.low
  · rcases h.own.2 with ⟨rfl, _⟩ | ⟨e, cap, cur, rfl, h1, _⟩
    · cases hb
    · cases hb; exact h1
end
/-- What a step that reads a part leaves. -/
def NkPost (base g : Nat) (tv ov : Value) (w : World) (r : Option (Nk × PS)) (e : Ending) (w' : World) : Prop :=
  match r with
  | none => e = .panicked [{ v := .iface 40 (.agg #[]), recovered := false }] ∧ Chg (PaK g ov) w w'
  | some y => ∃ v ov', e = .returned v ∧ Pa base w' g tv ov' y.2 ∧ StepP (PaK g ov) (PaK g ov') w w' ∧ NkAt (fun b => w.heap.size ≤ b ∧ ¬ PaK g ov' b) w' v y.1
def FrPost (base g : Nat) (tv ov : Value) (w : World) (r : Option (Fr × PS)) (e : Ending) (w' : World) : Prop :=
  match r with
  | none => e = .panicked [{ v := .iface 40 (.agg #[]), recovered := false }] ∧ Chg (PaK g ov) w w'
  | some y => ∃ A cap ov', e = .returned (.slice A y.1.len cap) ∧ Pa base w' g tv ov' y.2 ∧ StepP (PaK g ov) (PaK g ov') w w' ∧ FrAt (fun b => w.heap.size ≤ b ∧ ¬ PaK g ov' b) w' A cap y.1
end Go.Proofs.YtkomggeionofbaaGreatDoor

/-
  Patterns: the parser's small steps, walked.
-/
namespace Go.Proofs.YtkomggeionofbaaGreatDoor
open Go.RowKit

/-- What is told where there is no pattern. -/
abbrev noneP : List PanicEntry := [{ v := .iface 40 (.agg #[]), recovered := false }]
set_option maxRecDepth 3000 in
theorem must_ok (w : World) : Calls Tryz.prog 12 #[.bool true] w fun e w' => e = .returned (.tuple #[]) ∧ w = w' := by
  go_enter Tryz.func12, Tryz.ntmps12
  go_wp2_with fail
  exact ⟨rfl, .tuple #[], results_none rfl _ _ _, rfl, rfl⟩
set_option maxRecDepth 3000 in
theorem must_no (w : World) : Calls Tryz.prog 12 #[.bool false] w fun e w' => e = .panicked noneP ∧ w = w' := by
  go_enter Tryz.func12, Tryz.ntmps12
  go_wp2_with fail
  exact ⟨rfl, rfl, rfl⟩
set_option maxRecDepth 3000 in
theorem pa_put {w : World} {g : Nat} {c : Array Value} (hb : blk w g = c) (hz : 0 < c.size) (i : Nat) (v : Value) : blk (w.setCell ⟨g, i, none⟩ v) g = c.setIfInBounds i v := by
  rw [Blk.set hb hz]; exact Blk.get _ hb hz
set_option maxRecDepth 3000 in
theorem chg_cell (w : World) (g i : Nat) (v : Value) : Chg (fun b => b = g) w (w.setCell ⟨g, i, none⟩ v) := Chg.setCell (p := fun b => b = g) rfl v
section
variable {base g : Nat} {w w' : World} {tv ov : Value} {s : PS}
set_option maxRecDepth 3000 in
/-- The parser's rest laid anew. -/
theorem Pa.setLeft (h : Pa base w g tv ov s) (l : List UInt8) (hl : l.length ≤ s.left.length) (x : ByteArray) (hx : x = tx l) : Pa base (w.setCell ⟨g, 0, none⟩ (.string x)) g tv ov { s with left := l } :=
  h.self (t := { s with left := l }) (chg_cell w g 0 _) (by rw [pa_put h.cells (paC_pos _ _ _ _ _ _), hx]; rfl) rfl h.parts h.groups (Nat.le_refl _) hl
set_option maxRecDepth 3000 in
theorem Pa.setParts (h : Pa base w g tv ov s) (n : Int) (hn : n = (s.parts + 1 : Nat)) (hp : s.parts + 1 ≤ 200) : Pa base (w.setCell ⟨g, 3, none⟩ (.int .i64 n)) g tv ov { s with parts := s.parts + 1 } :=
  h.self (t := { s with parts := s.parts + 1 }) (chg_cell w g 3 _) (by rw [pa_put h.cells (paC_pos _ _ _ _ _ _), hn]; rfl) rfl hp h.groups (Nat.le_refl _) (Nat.le_refl _)
set_option maxRecDepth 3000 in
theorem take_at (h : Pa base w g tv ov s) (t : List UInt8) (b : Bool) (l : List UInt8) (hb : ahead t s.left = b) (hl : (if ahead t s.left then s.left.drop t.length else s.left) = l) (hn : l.length ≤ s.left.length) :
    Calls Tryz.prog 46 #[.pointer (some ⟨g, 0, none⟩), .string (tx t)] w fun e w' => e = .returned (.bool b) ∧ Pa base w' g tv ov { s with left := l } ∧ Chg (fun b => b = g) w w' := by
  have ig := h.inh
  obtain ⟨q0, -⟩ := h.six
  have ff := h.free
  have H2 := Lib.hid (h.setLeft l hn _ rfl)
  have hs : (⟨(Lib.trimPrefix s.left t).toArray⟩ : ByteArray) = tx l := hl ▸ rfl
  have ha : Lib.hasPrefix s.left t = b := hb
  clear h hb hl
  go_enter Tryz.func46, Tryz.ntmps46
  go_wp2_with fail
  (with_reducible refine (Tryz.strings_CutPrefix _ _ _).mono ?_)
  rw [tx_data, tx_data, hs, ha]
  rintro e w1 ⟨rfl, rfl⟩
  clear hs ha
  go_wp2_with fail
  go_ret
  exact ⟨rfl, H2.out, chg_cell _ _ _ _⟩
set_option maxRecDepth 3000 in
theorem take_yes (h : Pa base w g tv ov s) (t : List UInt8) (hb : ahead t s.left = true) (x : ByteArray) (hx : x = tx t) (k : Nat) (hk : k = t.length) : Calls Tryz.prog 46 #[.pointer (some ⟨g, 0, none⟩), .string x] w fun e w' => e = .returned (.bool true) ∧ Pa base w' g tv ov { s with left := s.left.drop k } ∧ Chg (fun b => b = g) w w' :=
  hx ▸ hk ▸ take_at h t true _ hb (by rw [hb]; rfl) (by simp)
set_option maxRecDepth 3000 in
theorem take_no (h : Pa base w g tv ov s) (t : List UInt8) (hb : ahead t s.left = false) (x : ByteArray) (hx : x = tx t) : Calls Tryz.prog 46 #[.pointer (some ⟨g, 0, none⟩), .string x] w fun e w' => e = .returned (.bool false) ∧ Pa base w' g tv ov s ∧ Chg (fun b => b = g) w w' :=
  hx ▸ take_at h t false s.left hb (by rw [hb]; rfl) (Nat.le_refl _)
attribute [local go_sem ↓] zeroNode bldNd_eq ldNode_eq stNode_eq
attribute [local go_sem] bld_kind bld_byte bld_set bld_n bld_star bld_times loadNode loadNode_if storeNode storeNode_if ndA_one_slice ndA_0 ndA_258 ndA_261
set_option maxRecDepth 3000 in
/-- A result that lies in a variable of its own. -/
theorem results_node {fn : Func} {T : Array Value} {w : World} {b : Nat} {c : Array Value} (k : Nat) (h : fn.results = #[.cell k 80]) (hT : T.getD k undef = .pointer (some ⟨b, 0, none⟩)) (hb : blk w b = c) (hc : c.size = 262) : (results fn T).run Tryz.prog w = .ok (.agg c) w := by
  have := loadVarNode w b (by rw [hb, hc])
  rw [hb] at this
  rw [Array.getD_eq_getD_getElem?] at hT
  simp [results, h, hT, asAddr, this]
set_option maxRecDepth 3000 in
theorem node_ok (h : Pa base w g tv ov s) (hp : s.parts + 1 ≤ 200) (kind byte : Int) (p : Nat → Bool) (n mn mx : Int) (a : Option Addr) (m c : Nat) :
    Calls Tryz.prog 44 #[.pointer (some ⟨g, 0, none⟩), .agg (ndA kind byte p n mn mx (.slice a m c))] w fun e w' => e = .returned (.agg (ndA kind byte p n mn mx (.slice a m c))) ∧ Pa base w' g tv ov { s with parts := s.parts + 1 } ∧ Chg (fun b => b = g) w w' := by
  have ig := h.inh
  obtain ⟨-, -, -, q3, -⟩ := h.six
  have ff := h.free
  have H := Lib.hid h
  have hd : decide ((s.parts : Int) + 1 ≤ 200) = true := by rw [decide_eq_true_eq]; omega
  clear h
  go_enter Tryz.func44, Tryz.ntmps44
  go_wp2_with fail
  (with_reducible refine (must_ok _).mono ?_)
  rintro e w1 ⟨rfl, rfl⟩
  go_wp2_with fail
  have H2 := H.out.setParts ((s.parts : Int) + 1) (by simp) hp
  have hc := chg_cell w g 3 (.int .i64 ((s.parts : Int) + 1))
  have i2 := H2.inh
  have hz2 : (w.setCell ⟨g, 3, none⟩ (.int .i64 ((s.parts : Int) + 1))).heap.size = w.heap.size := by simp
  generalize w.setCell ⟨g, 3, none⟩ (.int .i64 ((s.parts : Int) + 1)) = w2 at *
  refine bodyPost_ret (results_node 4 rfl rfl (blk_alloc_at _ _ _ _ (by simp [hz2])) (ndA_size _ _ _ _ _ _ _)) rfl ⟨rfl, H2.grows ?_, hc.trans (Chg.of_grows ?_)⟩
  all_goals exact ((Grows.refl _).alloc _).alloc _
set_option maxRecDepth 3000 in
theorem node_no (h : Pa base w g tv ov s) (hp : ¬ s.parts + 1 ≤ 200) (v : Array Value) (hv : OneCells v) (hs : v.size = 262) :
    Calls Tryz.prog 44 #[.pointer (some ⟨g, 0, none⟩), .agg v] w fun e w' => e = .panicked noneP ∧ Chg (fun b => b = g) w w' := by
  have ig := h.inh
  obtain ⟨-, -, -, q3, -⟩ := h.six
  have ff := h.free
  have hd : decide ((s.parts : Int) + 1 ≤ 200) = false := by rw [decide_eq_false_iff_not]; omega
  have hp2 := h.parts
  clear h
  go_enter Tryz.func44, Tryz.ntmps44
  go_wp2_with fail
  (with_reducible refine (must_no _).mono ?_)
  rintro e w1 ⟨rfl, rfl⟩
  exact ⟨rfl, rfl, (chg_cell w g 3 _).trans (Chg.of_grows (((Grows.refl _).alloc _).alloc _))⟩
end
end Go.Proofs.YtkomggeionofbaaGreatDoor
