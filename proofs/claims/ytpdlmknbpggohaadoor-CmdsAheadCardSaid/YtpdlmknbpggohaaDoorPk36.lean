/-
  Several texts of the proof: BreAsk, BreTwin, BreTree, BreSize, BreLawS, BreZero, BreCell, BreDoes.
-/
import Derived.Test.YtpdlmknbpggohaaDoorPk35
/-
  Patterns: what is asked of one: Groups, Refs, Parts.
-/
namespace Go.Proofs.YtpdlmknbpggohaaDoor
open Go.RowKit

section
variable {ok : Nat → Prop} {w : World} {g : Nat} {f : Fr} {t : PS}
set_option maxRecDepth 3000 in
theorem ReAt.grows {w' : World} (h : ReAt ok w g f t) (hg : Grows w w') : ReAt ok w' g f t := by
  obtain ⟨A, cap, h1, h2⟩ := h.tree
  have hc : ∀ {i v}, w.cell? ⟨g, i, none⟩ = some v → w'.cell? ⟨g, i, none⟩ = some v := fun {i v} h => by
    obtain ⟨m, rfl⟩ := hg
    rw [cell_more _ _ _ (World.block_lt_of_cell? w _ h)]
    exact h
  exact ⟨⟨A, cap, hc h1, h2.grows hg⟩, hc h.groups, hc h.parts, hc h.refs⟩
set_option maxRecDepth 3000 in
theorem groups_any (h : ReAt ok w g f t) : Calls Tryd.prog 12 #[.pointer (some ⟨g, 1, none⟩)] w fun e w' => e = .returned (.int .i64 t.groups) ∧ w = w' := by
  have h1 := h.groups
  have ig : InHeap g w := World.block_lt_of_cell? _ _ h1
  go_enter Tryd.func12, Tryd.ntmps12
  go_wp2_with fail
  go_ret
  exact ⟨rfl, rfl⟩
set_option maxRecDepth 3000 in
theorem groups_nil (w : World) : Calls Tryd.prog 12 #[.pointer none] w fun e w' => e = .returned (.int .i64 0) ∧ w = w' := by
  go_enter Tryd.func12, Tryd.ntmps12
  go_wp2_with fail
  go_ret
  exact ⟨rfl, rfl⟩
end
/-! ### the chapter's examples -/
set_option maxRecDepth 3000 in
theorem ex_none : patV [92, 40, 97, 92, 49, 92, 41] = none := by kernel_rfl
set_option maxRecDepth 3000 in
theorem ex_one : ∃ y, patV [97, 46, 42, 36] = some y ∧ y.1.len = 3 ∧ y.2.parts = 4 ∧ y.2.refs = false := ⟨_, rfl, rfl, rfl, rfl⟩
set_option maxRecDepth 3000 in
theorem ex_two : ∃ y, patV [92, 40, 97, 98, 92, 41, 42, 92, 49] = some y ∧ y.2.groups = 1 ∧ y.2.refs = true := ⟨_, rfl, rfl, rfl⟩
end Go.Proofs.YtpdlmknbpggohaaDoor

/-
  Patterns: nodes in memory of their own.
-/
namespace Go.Proofs.YtpdlmknbpggohaaDoor
open Go.RowKit

def bldS0 (x : Array (Nat × Value)) : Sem Value := Instr.buildSlice 63 0 x
set_option maxRecDepth 3000 in
theorem bldS0_eq (x : Array (Nat × Value)) : Instr.buildSlice 63 0 x = bldS0 x := rfl
set_option maxRecDepth 3000 in
theorem bldS0_run (w : World) : (bldS0 #[]).run Tryd.prog w = .ok (.slice (some ⟨w.heap.size, 0, none⟩) 0 0) (w.alloc (.cells #[] 91)) := by kernel_rfl
attribute [local go_sem ↓] bldS0_eq
attribute [local go_sem] bldS0_run
set_option maxRecDepth 3000 in
theorem eqlSome (w : World) (a : Addr) (n cap : Nat) : (binOp .eql 63 (.slice (some a) n cap) (.slice none 0 0)).run Tryd.prog w = .ok (.bool false) w := by kernel_rfl
set_option maxRecDepth 3000 in
theorem eqlNone (w : World) : (binOp .eql 63 (.slice none 0 0) (.slice none 0 0)).run Tryd.prog w = .ok (.bool true) w := by kernel_rfl
attribute [local go_sem] eqlSome eqlNone
set_option maxRecDepth 3000 in
theorem own_empty (w : World) (t : TypeId) (n : Nat) : (w.alloc (.cells #[] t)).ownsRow w.heap.size t n (.slice (some ⟨w.heap.size, 0, none⟩) 0 0) 0 [] :=
  ⟨by simp, .inr ⟨w.heap.size, 0, #[], rfl, Nat.le_refl _, World.alloc_heap_new _ _, Nat.le_refl _, by unfold maxLen; omega, by simp, by simp⟩⟩
set_option maxRecDepth 3000 in
theorem FrRow.one {ok : Nat → Prop} {w : World} : ∀ {f : Fr} {xs : List Value}, FrRow ok w f xs → ∀ v ∈ xs, v.oneCell' = true := by
  intro f
  induction f with
  | nil => intro xs h; cases h; simp
  | cons x k r _ ihr =>
    rintro xs ⟨A, cap, ys, zs, e, h1, h2, h3⟩ v hv
    rw [e] at hv
    rcases List.mem_append.1 hv with hv | hv
    · have := ndA_one_slice (x.kind) (x.byte) x.set (x.n) (x.mn) x.mx A k.len cap
      unfold OneCells at this
      rw [Array.all_eq_true_iff_forall_mem] at this
      exact this v (by simpa using hv)
    · exact ihr h3 v hv
end Go.Proofs.YtpdlmknbpggohaaDoor

/-
  Patterns: a tree in memory of its own.
-/
namespace Go.Proofs.YtpdlmknbpggohaaDoor
open Go.RowKit

/-- How many nodes there are. -/
def Fr.size : Fr → Nat
  | .nil => 0
  | .cons _ k r => k.size + r.size + 1
set_option maxRecDepth 3000 in
theorem Fr.size_app (a b : Fr) : (a.app b).size = a.size + b.size := by
  induction a with
  | nil => simp [Fr.app, Fr.size]
  | cons x k r _ ih => simp [Fr.app, Fr.size, ih]; omega
set_option maxRecDepth 3000 in
theorem Fr.len_size : ∀ f : Fr, f.len ≤ f.size
  | .nil => Nat.le_refl _
  | .cons _ k r => by have := r.len_size; simp [Fr.len, Fr.size]; omega
set_option maxRecDepth 3000 in
theorem Fr.nil_of_len {f : Fr} (h : f.len = 0) : f = .nil := by
  cases f with
  | nil => rfl
  | cons x k r => simp [Fr.len] at h
set_option maxRecDepth 3000 in
theorem FrRow.head {ok : Nat → Prop} {w : World} {x : NdV} {kids rest : Fr} {xs : List Value} (h : FrRow ok w (.cons x kids rest) xs) :
    ∃ A cap ys zs, xs = (ndC x (.slice A kids.len cap)).toList ++ zs ∧ Sl ok w A cap kids.len ys ∧ FrRow ok w kids ys ∧ FrRow ok w rest zs := h
/-- A tree of one's own. -/
def Twin2 (w : World) (f : Fr) (e : Ending) (w' : World) : Prop := ∃ A cap, e = .returned (.slice A f.len cap) ∧ FrAt (fun b => w.heap.size ≤ b) w' A cap f ∧ Grows w w'
/-- Some of the nodes have kids of their own by now. -/
structure TwinAt (w wr : World) (g : Nat) (f : Fr) (i : Nat) (a c : Fr) (xs ys tl : List Value) : Prop where
  all : f = a.app c
  len : a.len = i
  cells : blk wr g = (xs ++ ys ++ tl).toArray
  low : w.heap.size ≤ g
  done : FrRow (fun b => w.heap.size ≤ b ∧ b ≠ g) wr a xs
  todo : FrRow (fun b => b < w.heap.size) wr c ys
  grown : Grows w wr
set_option maxRecDepth 3000 in
theorem set_kids (x : NdV) (k k' : Value) (xs zs tl : List Value) (o : Nat) (ho : o = xs.length + 261) : (xs ++ ((ndC x k).toList ++ zs) ++ tl).set o k' = xs ++ ((ndC x k').toList ++ zs) ++ tl := by
  have e : ∀ k : Value, (ndC x k).toList = (.int .i64 x.kind :: .int .u8 x.byte :: (SA x.set).toList ++ [.int .i64 x.n, .int .i64 x.mn, .int .i64 x.mx]) ++ [k] := fun k => by rw [ndA_list]; simp
  subst ho
  rw [e, e]
  simp only [List.append_assoc]
  rw [List.set_append_right _ _ (by omega), Nat.add_sub_cancel_left, List.set_append_right _ _ (by simp)]
  simp
set_option maxRecDepth 3000 in
theorem get_kids (x : NdV) (k : Value) (xs zs tl : List Value) (o : Nat) (ho : o = xs.length + 261) : (xs ++ ((ndC x k).toList ++ zs) ++ tl)[o]? = some k := by
  subst ho
  rw [List.append_assoc, List.getElem?_append_right (by omega), Nat.add_sub_cancel_left, List.append_assoc, List.getElem?_append_left (by simp [ndA_size]), Array.getElem?_toList]
  exact ndA_261 _ _ _ _ _ _ _
set_option maxRecDepth 3000 in
theorem TwinAt.step {w wr w2 : World} {g i : Nat} {f a : Fr} {xs tl zs : List Value} {x : NdV} {kids rest : Fr} {A A' : Option Addr} {cap cap' : Nat}
    (h : TwinAt w wr g f i a (.cons x kids rest) xs ((ndC x (.slice A kids.len cap)).toList ++ zs) tl) (hz : FrRow (fun b => b < w.heap.size) wr rest zs)
    (hg : Grows wr w2) (hk : FrAt (fun b => wr.heap.size ≤ b) w2 A' cap' kids) (o : Nat) (ho : o = i * 262 + 261) :
    TwinAt w (w2.setCell ⟨g, o, none⟩ (.slice A' kids.len cap')) g f (i + 1) (a.app (.cons x kids .nil)) rest (xs ++ (ndC x (.slice A' kids.len cap')).toList) zs tl := by
  have hx := h.done.len
  rw [h.len] at hx
  have hz1 : 0 < (blk wr g).size := by rw [h.cells]; simp [ndA_size]; omega
  have ig := Blk.inHeap (c := blk wr g) rfl hz1
  have hb2 : blk w2 g = blk wr g := by obtain ⟨m, rfl⟩ := hg; exact blk_more _ _ _ ig
  have hc := chg_cell w2 g o (.slice A' kids.len cap')
  obtain ⟨ys, h1, h2⟩ := hk
  refine ⟨?_, ?_, ?_, h.low, ?_, ?_, ?_⟩
  · rw [Fr.app_assoc]; exact h.all
  · rw [Fr.len_app, h.len]; rfl
  · rw [pa_put (hb2.trans h.cells) (by simp [ndA_size]; omega)]
    apply Array.toList_inj.1
    rw [Array.toList_setIfInBounds]
    rw [set_kids x _ _ xs zs tl o (by omega)]
    simp
  · refine FrRow.app ?_ ⟨A', cap', ys, [], by simp, ?_, ?_, rfl⟩
    · exact ((h.done.chg (Chg.of_grows (p := fun _ => False) hg) fun _ _ _ k => k)).chg hc fun b _ hb => hb.2
    · exact ((h1.chg hc fun b _ hb e => by subst e; exact absurd ig (Nat.not_lt.2 hb))).mono fun b _ hb => ⟨Nat.le_trans h.grown.below.size hb, fun e => by subst e; exact absurd ig (Nat.not_lt.2 hb)⟩
    · exact ((h2.chg hc fun b _ hb e => by subst e; exact absurd ig (Nat.not_lt.2 hb))).mono fun b _ hb => ⟨Nat.le_trans h.grown.below.size hb, fun e => by subst e; exact absurd ig (Nat.not_lt.2 hb)⟩
  · exact (hz.chg (Chg.of_grows (p := fun _ => False) hg) fun _ _ _ k => k).chg hc fun b _ hb e => by subst e; exact absurd hb (Nat.not_lt.2 h.low)
  · exact Chg.grows (n := 0) (h.grown.trans hg) hc fun b e => by subst e; exact h.low

set_option maxRecDepth 3000 in
theorem TwinAt.head {w wr : World} {g i : Nat} {f a : Fr} {xs ys tl : List Value} {x : NdV} {kids rest : Fr} (h : TwinAt w wr g f i a (.cons x kids rest) xs ys tl) :
    ∃ A cap yk zs, TwinAt w wr g f i a (.cons x kids rest) xs ((ndC x (.slice A kids.len cap)).toList ++ zs) tl ∧ Sl (fun b => b < w.heap.size) wr A cap kids.len yk ∧ FrRow (fun b => b < w.heap.size) wr kids yk ∧ FrRow (fun b => b < w.heap.size) wr rest zs := by
  obtain ⟨A, cap, yk, zs, e, h1, h2, h3⟩ := FrRow.head h.todo
  rw [e] at h
  exact ⟨A, cap, yk, zs, h, h1, h2, h3⟩
set_option maxRecDepth 3000 in
theorem TwinAt.fin {w wr : World} {g i cap : Nat} {f a : Fr} {xs ys tl : List Value} (h : TwinAt w wr g f i a .nil xs ys tl) (hp : 0 < f.len) (h1 : f.len ≤ cap) (h2 : cap ≤ maxLen) : FrAt (fun b => w.heap.size ≤ b) wr (some ⟨g, 0, none⟩) cap f := by
  obtain ⟨e, hl, hc, hlow, hd, ht, hg⟩ := h
  rw [Fr.app_nil] at e
  subst e
  have hx := hd.len
  have ht : ys = [] := ht
  subst ht
  have hz : 0 < (blk wr g).size := by rw [hc]; simp; omega
  refine ⟨xs, ⟨⟨hx, fun _ => ⟨g, 0, rfl, Blk.inHeap (c := blk wr g) rfl hz, fun j u hu => ?_⟩⟩, (fun e => by cases e), h1, by unfold maxLen at h2; omega, fun _ a e => by cases e; exact hlow⟩, hd.mono fun b _ hb => hb.1⟩
  rw [Nat.zero_add, Blk.cell hc (by rw [← hc]; exact hz), List.getElem?_toArray, List.append_nil, List.getElem?_append_left (List.getElem?_eq_some_iff.1 hu).1]
  exact hu
end Go.Proofs.YtpdlmknbpggohaaDoor

/-
  Patterns: as many nodes as parts were counted.
-/
namespace Go.Proofs.YtpdlmknbpggohaaDoor
open Go.RowKit

set_option maxRecDepth 3000 in
theorem node1_parts {s t : PS} (h : node1 s = some t) : t.parts = s.parts + 1 ∧ t.parts ≤ 200 := by
  obtain ⟨h1, rfl⟩ := node1_eq h
  exact ⟨rfl, h1⟩
set_option maxRecDepth 3000 in
theorem one_size (x : NdV) (k : Fr) : (Fr.one x k).size = k.size + 1 := by simp [Fr.one, Fr.size]
set_option maxRecDepth 3000 in
theorem timesV_size {n : Nat} : ∀ {x : Nk} {s : PS} {y : Nk × PS}, timesV n x s = some y → y.1.2.size + s.parts = x.2.size + y.2.parts ∧ (s.parts ≤ 200 → y.2.parts ≤ 200) := by
  induction n with
  | zero => intro x s y h; cases h
  | succ n ih =>
    intro x s y h
    unfold timesV at h
    split at h
    · rw [Option.bind_eq_some_iff] at h
      obtain ⟨t, h1, h2⟩ := h
      have k1 := node1_parts h1
      have k2 := ih h2
      simp only [one_size] at k1 k2
      omega
    · split at h
      · rw [Option.bind_eq_some_iff] at h
        obtain ⟨b, hb, h⟩ := h
        rw [Option.bind_eq_some_iff] at h
        obtain ⟨t, h1, h2⟩ := h
        have k1 := node1_parts h1
        have k2 := ih h2
        simp only [one_size] at k1 k2
        omega
      · injection h with h; subst h; exact ⟨rfl, fun h => h⟩
set_option maxRecDepth 3000 in
theorem more1_size {x : Nk} {s : PS} {y : Nk × PS} (h : more1 x s = some y) : y.1.2.size + s.parts = x.2.size + y.2.parts ∧ (s.parts ≤ 200 → y.2.parts ≤ 200) := by
  unfold more1 at h
  split at h
  · injection h with h; subst h; exact ⟨rfl, fun h => h⟩
  · exact timesV_size h
def RowSz (row : PS → Option (Fr × PS)) : Prop := ∀ s y, row s = some y → y.1.size + s.parts = y.2.parts ∧ (s.parts ≤ 200 → y.2.parts ≤ 200)
section
variable {row : PS → Option (Fr × PS)}
set_option maxRecDepth 3000 in
theorem selfV_size {c : Nat} {s : PS} {y : Nk × PS} (h : selfV c s = some y) : y.1.2.size + s.parts + 1 = y.2.parts ∧ y.2.parts ≤ 200 := by
  unfold selfV at h
  rw [Option.map_eq_some_iff] at h
  obtain ⟨t, h1, rfl⟩ := h
  have := node1_parts h1
  simp [Fr.size]; omega
set_option maxRecDepth 3000 in
theorem leaf_size {s : PS} {x : NdV} {y : Nk × PS} (h : (node1 s).map (fun s => ((x, Fr.nil), s)) = some y) : y.1.2.size + s.parts + 1 = y.2.parts ∧ y.2.parts ≤ 200 := by
  rw [Option.map_eq_some_iff] at h
  obtain ⟨t, h1, rfl⟩ := h
  have := node1_parts h1
  simp [Fr.size]; omega
set_option maxRecDepth 3000 in
theorem groupV_size (hr : RowSz row) {s : PS} {y : Nk × PS} (h : groupV row s = some y) : y.1.2.size + s.parts + 1 = y.2.parts ∧ y.2.parts ≤ 200 := by
  unfold groupV at h
  split at h
  · rw [Option.bind_eq_some_iff] at h
    obtain ⟨t, h1, h⟩ := h
    rw [Option.bind_eq_some_iff] at h
    obtain ⟨z, h2, h⟩ := h
    split at h
    · injection h with h
      subst h
      have k1 := node1_parts h1
      have k := hr _ _ h2
      simp only [] at k k1 ⊢
      omega
    · cases h
  · cases h
set_option maxRecDepth 3000 in
theorem slashV_size (hr : RowSz row) {s : PS} {y : Nk × PS} (h : slashV row s = some y) : y.1.2.size + s.parts + 1 = y.2.parts ∧ y.2.parts ≤ 200 := by
  obtain ⟨left, parts, groups, refs, op⟩ := s
  cases left with
  | nil => cases h
  | cons c l =>
    unfold slashV at h
    simp only [] at h
    split at h
    · (have k := groupV_size hr h; exact k)
    · split at h
      · split at h
        · (have k := leaf_size h; exact k)
        · cases h
      · split at h
        · cases h
        · (have k := selfV_size h; exact k)
set_option maxRecDepth 3000 in
theorem partW_size (hr : RowSz row) {first begun : Bool} {s : PS} {y : Nk × PS} (h : partW row first begun s = some y) : y.1.2.size + s.parts + 1 = y.2.parts ∧ y.2.parts ≤ 200 := by
  obtain ⟨left, parts, groups, refs, op⟩ := s
  cases left with
  | nil => cases h
  | cons c l =>
    unfold partW at h
    simp only [] at h
    split at h
    · (have k := slashV_size hr h; exact k)
    · split at h
      · rw [Option.bind_eq_some_iff] at h
        obtain ⟨p, hp, h⟩ := h
        (have k := leaf_size h; exact k)
      · split at h
        · (have k := leaf_size h; exact k)
        · split at h
          · (have k := leaf_size h; exact k)
          · split at h
            · (have k := leaf_size h; exact k)
            · split at h
              · cases h
              · (have k := selfV_size h; exact k)
end
set_option maxRecDepth 3000 in
theorem rowV_size (n : Nat) : ∀ {first begun : Bool} {s : PS} {y : Fr × PS}, rowV n first begun s = some y → y.1.size + s.parts = y.2.parts ∧ (s.parts ≤ 200 → y.2.parts ≤ 200) := by
  induction n with
  | zero => intro f b s y h; cases h
  | succ n ih =>
    intro f b s y h
    unfold rowV at h
    split at h
    · injection h with h; subst h; exact ⟨by simp [Fr.size], fun h => h⟩
    · rw [Option.bind_eq_some_iff] at h
      obtain ⟨a, h1, h⟩ := h
      rw [Option.bind_eq_some_iff] at h
      obtain ⟨c, h2, h⟩ := h
      rw [Option.map_eq_some_iff] at h
      obtain ⟨r, h3, rfl⟩ := h
      have k1 := partW_size (fun s y h => ih h) h1
      have k2 := more1_size h2
      have k3 : r.1.size + c.2.parts = r.2.parts ∧ (c.2.parts ≤ 200 → r.2.parts ≤ 200) := ih h3
      simp only [Fr.size]
      omega
set_option maxRecDepth 3000 in
/-- A pattern has as many nodes as parts. -/
theorem patV_size {l : List UInt8} {y : Fr × PS} (h : patV l = some y) : y.1.size = y.2.parts ∧ y.2.parts ≤ 200 := by
  unfold patV at h
  rw [Option.bind_eq_some_iff] at h
  obtain ⟨z, h1, h2⟩ := h
  have := rowV_size _ h1
  split at h2
  · injection h2 with h2; subst h2; simpa [ps0] using this
  · cases h2
end Go.Proofs.YtpdlmknbpggohaaDoor

/-
  The patterns' laws: small helpers walked.
-/
namespace Go.Proofs.YtpdlmknbpggohaaDoor
open Go.RowKit

/-- Is a byte special behind a backslash? -/
def specialB (c : Nat) : Bool := decide (c = 40 ∨ c = 41 ∨ c = 123 ∨ c = 125 ∨ 49 ≤ c ∧ c ≤ 57)
end Go.Proofs.YtpdlmknbpggohaaDoor

/-
  Patterns: what is asked of one that Parse did not make.
-/
namespace Go.Proofs.YtpdlmknbpggohaaDoor
open Go.RowKit

/-- A pattern without anything, in a block of its own. -/
structure ReZ (w : World) (g : Nat) : Prop where
  tree : w.cell? ⟨g, 0, none⟩ = some (.slice none 0 0)
  groups : w.cell? ⟨g, 1, none⟩ = some (.int .i64 0)
  parts : w.cell? ⟨g, 2, none⟩ = some (.int .i64 0)
  refs : w.cell? ⟨g, 3, none⟩ = some (.bool false)
section
variable {w : World} {g : Nat}
set_option maxRecDepth 3000 in
theorem ReZ.grows {w' : World} (h : ReZ w g) (hg : Grows w w') : ReZ w' g := by
  have hc : ∀ {i v}, w.cell? ⟨g, i, none⟩ = some v → w'.cell? ⟨g, i, none⟩ = some v := fun {i v} h => by
    obtain ⟨m, rfl⟩ := hg
    rw [cell_more _ _ _ (World.block_lt_of_cell? w _ h)]
    exact h
  exact ⟨hc h.tree, hc h.groups, hc h.parts, hc h.refs⟩
set_option maxRecDepth 3000 in
theorem groups_zero (h : ReZ w g) : Calls Tryd.prog 12 #[.pointer (some ⟨g, 0, none⟩)] w fun e w' => e = .returned (.int .i64 0) ∧ w = w' := by
  have h1 := h.groups
  have ig : InHeap g w := World.block_lt_of_cell? _ _ h1
  go_enter Tryd.func12, Tryd.ntmps12
  go_wp2_with fail
  go_ret
  exact ⟨rfl, rfl⟩
end
end Go.Proofs.YtpdlmknbpggohaaDoor

/-
  Patterns: a node's cells within a row.
-/
namespace Go.Proofs.YtpdlmknbpggohaaDoor
open Go.RowKit

set_option maxRecDepth 3000 in
theorem FrRow.node {ok : Nat → Prop} {w : World} {x : NdV} {kids rest : Fr} : ∀ {a : Fr} {xs : List Value}, FrRow ok w (a.app (.cons x kids rest)) xs →
    ∃ K capk, FrAt ok w K capk kids ∧ ∀ j u, (ndC x (.slice K kids.len capk))[j]? = some u → xs[a.len * 262 + j]? = some u := by
  intro a
  induction a with
  | nil =>
    intro xs h
    obtain ⟨K, capk, ys, zs, e, h1, h2, h3⟩ := FrRow.head h
    refine ⟨K, capk, ⟨ys, h1, h2⟩, fun j u hu => ?_⟩
    have hj := (Array.getElem?_eq_some_iff.1 hu).1
    rw [e, Fr.len, Nat.zero_mul, Nat.zero_add, List.getElem?_append_left (by simpa using hj), Array.getElem?_toList]
    exact hu
  | cons z k r _ ihr =>
    intro xs h
    obtain ⟨K0, cap0, ys, zs, e, h1, h2, h3⟩ := FrRow.head h
    obtain ⟨K, capk, h4, h5⟩ := ihr h3
    refine ⟨K, capk, h4, fun j u hu => ?_⟩
    have hz : (ndC z (.slice K0 k.len cap0)).toList.length = 262 := by simp [ndA_size]
    have hu2 := h5 j u hu
    rw [e]
    generalize (ndC z (.slice K0 k.len cap0)).toList = zl at hz
    have hi : (Fr.cons z k r).len * 262 + j = zl.length + (r.len * 262 + j) := by rw [hz, Fr.len]; omega
    rw [hi, List.getElem?_append_right (Nat.le_add_right _ _), Nat.add_sub_cancel_left]
    exact hu2
set_option maxRecDepth 3000 in
/-- A node's cells within a row that can be read; its kids. -/
theorem FrAt.node {ok : Nat → Prop} {w : World} {A : Option Addr} {cap : Nat} {x : NdV} {kids rest a f : Fr} (h : FrAt ok w A cap f) (e : f = a.app (.cons x kids rest)) {b o : Nat} (hA : A = some ⟨b, o, none⟩) :
    ∃ K capk, FrAt ok w K capk kids ∧ ∀ j u, (ndC x (.slice K kids.len capk))[j]? = some u → w.cell? ⟨b, o + (a.len * 262 + j), none⟩ = some u := by
  subst e
  obtain ⟨xs, h1, h2⟩ := h
  obtain ⟨K, capk, h3, h4⟩ := h2.node
  refine ⟨K, capk, h3, fun j u hu => ?_⟩
  have hlt : 0 < (a.app (.cons x kids rest)).len := by rw [Fr.len_app, Fr.len]; omega
  obtain ⟨b', o', e, _, hc⟩ := h1.rd.2 hlt
  have hu2 := h4 j u hu
  clear h4 hu h1 h2
  have e2 : (⟨b, o, none⟩ : Addr) = ⟨b', o', none⟩ := Option.some.inj (hA.symm.trans e)
  have e3 : b = b' := congrArg Addr.block e2
  have e4 : o = o' := congrArg Addr.off e2
  rw [e3, e4]
  exact hc (a.len * 262 + j) u hu2
set_option maxRecDepth 3000 in
theorem FrAt.some {ok : Nat → Prop} {w : World} {A : Option Addr} {cap : Nat} {f : Fr} (h : FrAt ok w A cap f) (hp : 0 < f.len) : ∃ b o, A = some ⟨b, o, none⟩ ∧ InHeap b w := by
  obtain ⟨xs, h1, h2⟩ := h
  obtain ⟨b, o, e, hb, _⟩ := h1.rd.2 hp
  exact ⟨b, o, e, hb⟩
end Go.Proofs.YtpdlmknbpggohaaDoor

/-
  The patterns' laws: the chapter's examples.
-/
namespace Go.Proofs.YtpdlmknbpggohaaDoor
open Go.RowKit

set_option maxRecDepth 3000 in
theorem bre_yes {l : List UInt8} {y : Fr × PS} (hl : l.length ≤ 1000000) (hy : patV l = some y) (w : World) (hs : Sane w) (x : ByteArray) (hx : x = tx l) :
    Calls Tryd.prog 9 #[.string x] w fun e w' => ∃ g, e = .returned (.tuple #[.pointer (some ⟨g, 1, none⟩), .int .i64 0]) ∧ ReAt (fun b => w.heap.size ≤ b ∧ ¬ b = g) w' g y.1 y.2 ∧ w.heap.size ≤ g ∧ Grows w w' :=
  hx ▸ (bre_parse l w hl hs).mono fun e w' h => by rw [hy] at h; exact h
set_option maxRecDepth 3000 in
theorem bre_no {l : List UInt8} (hl : l.length ≤ 1000000) (hy : patV l = none) (w : World) (hs : Sane w) (x : ByteArray) (hx : x = tx l) :
    Calls Tryd.prog 9 #[.string x] w fun e w' => e = .returned (.tuple #[.pointer none, .int .i64 90]) ∧ Grows w w' :=
  hx ▸ (bre_parse l w hl hs).mono fun e w' h => by rw [hy] at h; exact h
set_option maxRecDepth 3000 in
theorem two_nodes : ∃ y, patV [97, 46, 42, 36] = some y ∧ y.1 = .cons (byteN 97) .nil (.cons (timesN 0 (-1)) (Fr.one (ndK 2) .nil) (.cons (ndK 5) .nil .nil)) ∧ y.2.parts = 4 ∧ y.2.refs = false := ⟨_, rfl, rfl, rfl, rfl⟩
end Go.Proofs.YtpdlmknbpggohaaDoor
