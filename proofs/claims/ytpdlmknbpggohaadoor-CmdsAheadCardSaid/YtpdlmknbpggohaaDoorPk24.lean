/-
  Addresses: a range, walked. (Printed by addrr.py.)
-/
import Derived.Test.YtpdlmknbpggohaaDoorPk21
import Derived.Test.YtpdlmknbpggohaaDoorPk22
import Derived.Test.YtpdlmknbpggohaaDoorPk23
namespace Go.Proofs.YtpdlmknbpggohaaDoor
open Go.RowKit

attribute [local go_sem] tx_bt tx_from
set_option maxRecDepth 3000 in
theorem elemAdr : ElemOf Tryd.prog 23 28 4 40 := elemOf_of Tryd.underlying23 (by kernel_rfl) (by kernel_rfl) (z := .agg #[.int .i64 0, .int .i64 0, .string (tx []), .int .i64 0]) (by kernel_rfl) rfl (by decide) (by decide)
set_option maxRecDepth 3000 in
theorem elemBool : ElemOf Tryd.prog 24 4 1 1 := elemOf_of Tryd.underlying24 (by kernel_rfl) (by kernel_rfl) (z := .bool false) (by kernel_rfl) rfl (by decide) (by decide)
set_option maxRecDepth 3000 in
theorem adrC_one (a : Adr) : OneCells (adrC a) := by simp [OneCells, adrC, Value.oneCell']
set_option maxRecDepth 3000 in
theorem bool_one (b : Bool) : OneCells #[.bool b] := by simp [OneCells, Value.oneCell']
def adrs (us : List Adr) : List Value := us.flatMap fun a => (adrC a).toList
set_option maxRecDepth 3000 in
theorem adrs_push (us : List Adr) (a : Adr) : adrs us ++ (adrC a).toList = adrs (us ++ [a]) := by simp [adrs]
set_option maxRecDepth 3000 in
theorem At.trans {s t r : List UInt8} {j k : Nat} (h : At s j t) (h2 : At t k r) : At s (j + k) r := ⟨by have := h.len; have := h.le; have := h2.le; omega, by rw [← List.drop_drop, h.eq, h2.eq]⟩
set_option maxRecDepth 3000 in
theorem one_lit {t : List UInt8} {X : ByteArray} (hX : X = tx t) (hl : t.length ≤ 1000) (w : World) :
    Calls Tryd.prog 20 #[.string X] w fun e w' => OnePost t (oneL t) e ∧ Grows w w' := by
  subst hX
  exact one_any t hl w
/-- What Parse leaves. -/
def RangePost (s : List UInt8) (W : World) (r : Option (List Adr × List Bool × List UInt8)) (e : Ending) (w' : World) : Prop :=
  match r with
  | none => e = .returned (.tuple #[.agg #[.slice none 0 0, .slice none 0 0], .int .i64 0, .int .i64 200])
  | some x => ∃ (A : Option Addr) (ca : Nat) (B : Option Addr) (cb j : Nat), e = .returned (.tuple #[.agg #[.slice A x.1.length ca, .slice B x.2.1.length cb], .int .i64 j, .int .i64 0]) ∧ At s j x.2.2 ∧ Rd w' 4 A x.1.length (adrs x.1) ∧ Rd w' 1 B x.2.1.length (x.2.1.map Value.bool) ∧ x.1.length ≤ 1001 ∧ x.2.1.length ≤ 1001 ∧ (∀ a, A = some a → W.heap.size ≤ a.block) ∧ (∀ a, B = some a → W.heap.size ≤ a.block)
/-- How things stand at a round. -/
structure RangeAt (W wr : World) (us : List Adr) (ss : List Bool) (lv sv : Value) : Prop where
  grown : Grows W wr
  cells : blk wr W.heap.size = #[lv, sv]
  ol : wr.ownsRow (W.heap.size + 1) 28 4 lv us.length (adrs us)
  os : wr.ownsRow (W.heap.size + 1) 4 1 sv ss.length (ss.map Value.bool)
  ne : ∀ b, lv.ownBlock = some b → ¬ sv.ownBlock = some b
section
variable {W wr w2 : World} {us : List Adr} {ss : List Bool} {lv sv : Value}
set_option maxRecDepth 3000 in
theorem RangeAt.start (W : World) (t : TypeId) : RangeAt W (W.alloc (.cells #[.slice none 0 0, .slice none 0 0] t)) [] [] (.slice none 0 0) (.slice none 0 0) :=
  ⟨(Grows.refl _).alloc _, blk_alloc_at _ _ _ _ rfl, World.ownsRow_nil _ _ _ _, World.ownsRow_nil _ _ _ _, fun b h => by cases h⟩
set_option maxRecDepth 3000 in
theorem RangeAt.inh (h : RangeAt W wr us ss lv sv) : InHeap W.heap.size wr := Blk.inHeap h.cells (by simp)
set_option maxRecDepth 3000 in
theorem RangeAt.more (h : RangeAt W wr us ss lv sv) (hg : Grows wr w2) : RangeAt W w2 us ss lv sv := by
  refine ⟨h.grown.trans hg, ?_, own_moreX h.ol hg, own_moreX h.os hg, h.ne⟩
  have := h.inh
  obtain ⟨m, rfl⟩ := hg
  exact (blk_more _ _ _ this).trans h.cells
set_option maxRecDepth 3000 in
theorem RangeAt.two (h : RangeAt W wr us ss lv sv) : wr.cell? ⟨W.heap.size, 0, none⟩ = some lv ∧ wr.cell? ⟨W.heap.size, 1, none⟩ = some sv := ⟨Blk.cell h.cells (by simp) 0, Blk.cell h.cells (by simp) 1⟩
set_option maxRecDepth 3000 in
theorem RangeAt.free (h : RangeAt W wr us ss lv sv) : ∀ k, wr.frozen? ⟨W.heap.size, k, none⟩ = false := fun k => Blk.free h.cells (by simp) k
set_option maxRecDepth 3000 in
theorem RangeAt.again (h : RangeAt W wr us ss lv sv) : RangeAt W ((wr.setCell ⟨W.heap.size, 0, none⟩ lv).setCell ⟨W.heap.size, 1, none⟩ sv) us ss lv sv := by
  have c1 := chg_cell wr W.heap.size 0 lv
  have c2 := chg_cell (wr.setCell ⟨W.heap.size, 0, none⟩ lv) W.heap.size 1 sv
  have c := c1.trans c2
  have hl : ∀ b, lv.ownBlock = some b → ¬ b = W.heap.size := fun b hb e => by have := (own_ltX h.ol hb).2; omega
  have hs : ∀ b, sv.ownBlock = some b → ¬ b = W.heap.size := fun b hb e => by have := (own_ltX h.os hb).2; omega
  exact ⟨Chg.grows (n := 0) h.grown c fun b e => Nat.le_of_eq e.symm, (pa_put ((pa_put h.cells (by simp) 0 lv).trans rfl) (by simp) 1 sv).trans rfl, own_chgX h.ol c hl, own_chgX h.os c hs, h.ne⟩
set_option maxRecDepth 3000 in
theorem RangeAt.pushA (h : RangeAt W wr us ss lv sv) {a : Adr} {e cap n : Nat} (hn0 : us.length = n) (ho : w2.ownsRow (W.heap.size + 1) 28 4 (.slice (some ⟨e, 0, none⟩) (n + 1) cap) (n + 1) (adrs us ++ (adrC a).toList)) (hc : Chg (fun b => lv.ownBlock = some b) wr w2) (hn : lv.ownBlock = some e ∨ wr.heap.size ≤ e) :
    RangeAt W (w2.setCell ⟨W.heap.size, 0, none⟩ (.slice (some ⟨e, 0, none⟩) (n + 1) cap)) (us ++ [a]) ss (.slice (some ⟨e, 0, none⟩) (n + 1) cap) sv := by
  subst hn0
  have c1 := chg_cell w2 W.heap.size 0 (.slice (some ⟨e, 0, none⟩) (us.length + 1) cap)
  have hin := h.inh
  have hlo : ∀ b, lv.ownBlock = some b → W.heap.size + 1 ≤ b := fun b hb => (own_ltX h.ol hb).2
  have hso : ∀ b, sv.ownBlock = some b → W.heap.size + 1 ≤ b ∧ b < wr.heap.size := fun b hb => ⟨(own_ltX h.os hb).2, (own_ltX h.os hb).1⟩
  have he := own_ltS ho
  have hb2 : blk w2 W.heap.size = #[lv, sv] := (chg_blk hc hin (fun e => by have := hlo _ e; omega)).trans h.cells
  refine ⟨Chg.grows (n := 0) (Chg.grows (n := 0) h.grown hc fun b hb => by have := hlo b hb; omega) c1 fun b e => Nat.le_of_eq e.symm, (pa_put hb2 (by simp) 0 _).trans rfl, ?_, ?_, ?_⟩
  · rw [← adrs_push, show (us ++ [a]).length = us.length + 1 by simp]
    exact own_chgX ho c1 fun b hb e1 => by have := ownBlock_slice hb; omega
  · exact own_chgX (own_chgX h.os hc fun b hb e1 => h.ne b e1 hb) c1 fun b hb e1 => by have := (hso b hb).1; omega
  · intro b hb hs
    obtain rfl := ownBlock_slice hb
    rcases hn with hn | hn
    · exact h.ne _ hn hs
    · have := (hso _ hs).2; omega
set_option maxRecDepth 3000 in
theorem RangeAt.pushS (h : RangeAt W wr us ss lv sv) {b0 : Bool} {e cap n : Nat} (hn0 : ss.length = n) (ho : w2.ownsRow (W.heap.size + 1) 4 1 (.slice (some ⟨e, 0, none⟩) (n + 1) cap) (n + 1) (ss.map Value.bool ++ (#[Value.bool b0] : Array Value).toList)) (hc : Chg (fun b => sv.ownBlock = some b) wr w2) (hn : sv.ownBlock = some e ∨ wr.heap.size ≤ e) :
    RangeAt W (w2.setCell ⟨W.heap.size, 1, none⟩ (.slice (some ⟨e, 0, none⟩) (n + 1) cap)) us (ss ++ [b0]) lv (.slice (some ⟨e, 0, none⟩) (n + 1) cap) := by
  subst hn0
  have c1 := chg_cell w2 W.heap.size 1 (.slice (some ⟨e, 0, none⟩) (ss.length + 1) cap)
  have hin := h.inh
  have hlo : ∀ b, sv.ownBlock = some b → W.heap.size + 1 ≤ b := fun b hb => (own_ltX h.os hb).2
  have hso : ∀ b, lv.ownBlock = some b → W.heap.size + 1 ≤ b ∧ b < wr.heap.size := fun b hb => ⟨(own_ltX h.ol hb).2, (own_ltX h.ol hb).1⟩
  have he := own_ltS ho
  have hb2 : blk w2 W.heap.size = #[lv, sv] := (chg_blk hc hin (fun e => by have := hlo _ e; omega)).trans h.cells
  refine ⟨Chg.grows (n := 0) (Chg.grows (n := 0) h.grown hc fun b hb => by have := hlo b hb; omega) c1 fun b e => Nat.le_of_eq e.symm, (pa_put hb2 (by simp) 1 _).trans rfl, ?_, ?_, ?_⟩
  · exact own_chgX (own_chgX h.ol hc fun b hb e1 => h.ne b hb e1) c1 fun b hb e1 => by have := (hso b hb).1; omega
  · rw [show (ss ++ [b0]).map Value.bool = ss.map Value.bool ++ (#[Value.bool b0] : Array Value).toList by simp, show (ss ++ [b0]).length = ss.length + 1 by simp]
    exact own_chgX ho c1 fun b hb e1 => by have := ownBlock_slice hb; omega
  · intro b hs hb
    obtain rfl := ownBlock_slice hb
    rcases hn with hn | hn
    · exact h.ne _ hs hn
    · have := (hso _ hs).2; omega
set_option maxRecDepth 3000 in
theorem RangeAt.after (h : RangeAt W wr us ss lv sv) {v : Value} (hv : v = lv ∨ v = sv) (hc : Chg (fun b => v.ownBlock = some b) wr w2) : blk w2 W.heap.size = #[lv, sv] :=
  (chg_blk hc h.inh (fun e => by
    rcases hv with rfl | rfl
    · have := (own_ltX h.ol e).2; omega
    · have := (own_ltX h.os e).2; omega)).trans h.cells
set_option maxRecDepth 3000 in
theorem two_of {w : World} {g : Nat} {u v : Value} (h : blk w g = #[u, v]) : w.cell? ⟨g, 0, none⟩ = some u ∧ w.cell? ⟨g, 1, none⟩ = some v ∧ (∀ k, w.frozen? ⟨g, k, none⟩ = false) ∧ InHeap g w :=
  ⟨Blk.cell h (by simp) 0, Blk.cell h (by simp) 1, fun k => Blk.free h (by simp) k, Blk.inHeap h (by simp)⟩
set_option maxRecDepth 3000 in
theorem RangeAt.fin (h : RangeAt W wr us ss lv sv) {s t : List UInt8} {j : Nat} (hA : At s j t) (hl : us.length ≤ 1001) (hs : ss.length ≤ 1001) : RangePost s W (some (us, ss, t)) (.returned (.tuple #[.agg #[lv, sv], .int .i64 j, .int .i64 0])) wr := by
  obtain ⟨A, ca, rfl, _, _, h1, _, h3⟩ := own_rdX h.ol
  obtain ⟨B, cb, rfl, _, _, h2, _, h4⟩ := own_rdX h.os
  exact ⟨A, ca, B, cb, j, rfl, hA, h1, h2, hl, hs, (fun ⟨b, o, t⟩ e => by have := (h3 b o t e).2.2.1; show W.heap.size ≤ b; omega), (fun ⟨b, o, t⟩ e => by have := (h4 b o t e).2.2.1; show W.heap.size ≤ b; omega)⟩
end
section
variable {n : Nat} {us : List Adr} {ss : List Bool} {l r : List UInt8} {x : Adr × List UInt8} {c : UInt8}
set_option maxRecDepth 3000 in
theorem list_none (h : oneL l = none) : listL (n + 1) us ss l = none := by rw [listL.eq_def]; simp only []; rw [h]; rfl
set_option maxRecDepth 3000 in
theorem list_more (h : oneL l = some x) (hs : skipL x.2 = c :: r) (hc : c.toNat = 44 ∨ c.toNat = 59) : listL (n + 1) us ss l = listL n (us ++ [x.1]) (ss ++ [c.toNat == 59]) r := by
  rw [listL.eq_def]; simp only []; rw [h]; simp only [Option.bind_some]; rw [hs]; simp only []; rw [if_pos hc]
set_option maxRecDepth 3000 in
theorem list_end (h : oneL l = some x) {u : List UInt8} (hs : skipL x.2 = u) (hc : ∀ c r, u = c :: r → ¬ (c.toNat = 44 ∨ c.toNat = 59)) : listL (n + 1) us ss l = some (if us ≠ [] ∨ x.1.kind ≠ 0 then us ++ [x.1] else us, ss, x.2) := by
  rw [listL.eq_def]; simp only []; rw [h]; simp only [Option.bind_some]; rw [hs]
  cases u with
  | nil => rfl
  | cons c r => simp only []; rw [if_neg (hc c r rfl)]
set_option maxRecDepth 3000 in
theorem range_pc {c : UInt8} (h : skipL l = c :: r) (hc : c.toNat = 37) : rangeL l = some ([{ adr0 with kind := 3, n := 1 }, { adr0 with kind := 2 }], [false], r) := by unfold rangeL; rw [h]; simp only []; rw [if_pos hc]
set_option maxRecDepth 3000 in
theorem range_nil (h : skipL l = []) : rangeL l = listL (l.length + 1) [] [] l := by unfold rangeL; rw [h]
set_option maxRecDepth 3000 in
theorem range_no {c : UInt8} (h : skipL l = c :: r) (hc : ¬ c.toNat = 37) : rangeL l = listL (l.length + 1) [] [] l := by unfold rangeL; rw [h]; simp only []; rw [if_neg hc]
end
/-- Does a comma or a semicolon stand ahead? -/
def sepH : List UInt8 → Bool
  | [] => false
  | c :: _ => decide (c.toNat = 44 ∨ c.toNat = 59)
set_option maxRecDepth 3000 in
theorem sep_no {u : List UInt8} (h : sepH u = false) : ∀ c r, u = c :: r → ¬ (c.toNat = 44 ∨ c.toNat = 59) := by
  rintro c r rfl
  exact of_decide_eq_false h
set_option maxRecDepth 3000 in
theorem sep_yes {u : List UInt8} (h : sepH u = true) : ∃ c r, u = c :: r ∧ (c.toNat = 44 ∨ c.toNat = 59) := by
  cases u with
  | nil => simp [sepH] at h
  | cons c r => exact ⟨c, r, rfl, of_decide_eq_true h⟩
/-- What is still to be read. -/
structure RangeTo (s : List UInt8) (j : Nat) (us : List Adr) (ss : List Bool) (t : List UInt8) : Prop where
  at_ : At s j t
  nu : us.length ≤ j
  ns : ss.length ≤ j
  eq : ∃ m, t.length < m ∧ rangeL s = listL m us ss t
section
variable {s t r : List UInt8} {j : Nat} {us : List Adr} {ss : List Bool} {x : Adr × List UInt8} {c : UInt8}
set_option maxRecDepth 3000 in
theorem RangeTo.none (h : RangeTo s j us ss t) (ho : oneL t = none) : rangeL s = none := by
  obtain ⟨m, h1, h2⟩ := h.eq
  cases m with
  | zero => omega
  | succ m => rw [h2, list_none ho]
set_option maxRecDepth 3000 in
theorem RangeTo.end_ (h : RangeTo s j us ss t) (ho : oneL t = some x) {u : List UInt8} (hs : skipL x.2 = u) (hc : ∀ c r, u = c :: r → ¬ (c.toNat = 44 ∨ c.toNat = 59)) : rangeL s = some (if us ≠ [] ∨ x.1.kind ≠ 0 then us ++ [x.1] else us, ss, x.2) := by
  obtain ⟨m, h1, h2⟩ := h.eq
  cases m with
  | zero => omega
  | succ m => rw [h2, list_end ho hs hc]
set_option maxRecDepth 3000 in
theorem RangeTo.more (h : RangeTo s j us ss t) (ho : oneL t = some x) (hs : skipL x.2 = c :: r) (hc : c.toNat = 44 ∨ c.toNat = 59) {b : Bool} (hb : b = (c.toNat == 59)) {k : Nat} (hk : At s k (c :: r)) (hjk : j ≤ k) : RangeTo s (k + 1) (us ++ [x.1]) (ss ++ [b]) r := by
  subst hb
  obtain ⟨m, h1, h2⟩ := h.eq
  refine ⟨hk.next, by have := h.nu; simp; omega, by have := h.ns; simp; omega, ?_⟩
  cases m with
  | zero => omega
  | succ m =>
    refine ⟨m, ?_, ?_⟩
    · have e1 := (one_suffix ho).length_le
      have e2 := skip_le x.2
      rw [hs] at e2
      simp only [List.length_cons] at e2
      omega
    · rw [h2, list_more ho hs hc]
end
set_option maxRecDepth 3000 in
set_option maxHeartbeats 8000000 in
theorem range_any (s : List UInt8) (hl : s.length ≤ 1000) (w : World) :
    Calls Tryd.prog 7 #[.string (tx s)] w fun e w' => RangePost s w (rangeL s) e w' ∧ Grows w w' := by
  have hl5 : s.length ≤ 100000 := by omega
  have S0 := Lib.hid (At.start s)
  go_enter Tryd.func7, Tryd.ntmps7
  go_wp2_with fail
  (with_reducible refine (blanks_lit S0.out hl5 _ 0 rfl).mono ?_)
  rintro e w1 ⟨⟨j0, rfl, hA0, -⟩, hw⟩
  subst hw
  have hj0 := hA0.le
  obtain ⟨t0, ht0⟩ : ∃ t, skipL s = t := ⟨_, rfl⟩
  rw [ht0] at hA0
  have HA0 := Lib.hid hA0
  have HT0 := Lib.hid ht0
  clear hA0 ht0
  by_cases k37 : ∃ c r, t0 = c :: r ∧ c.toNat = 37
  · obtain ⟨c, r, rfl, hc⟩ := k37
    have hlt := HA0.out.lt
    have hb := HA0.out.bt
    rw [hc] at hb
    have HR := Lib.hid (range_pc HT0.out hc)
    clear hc
    go_wp2_with fail
    refine bodyPost_ret (v := .tuple #[.agg #[.slice (some ⟨w.heap.size + 1, 0, none⟩) 2 2, .slice (some ⟨w.heap.size + 1 + 1, 0, none⟩) 1 1], .int .i64 ((j0 : Int) + 1), .int .i64 0]) (by simp [results, Tryd.results7, go_sem]; try rfl) rfl ⟨?_, by repeat' first | exact Grows.refl _ | refine Grows.alloc ?_ _⟩
    rw [HR.out]
    refine ⟨some ⟨w.heap.size + 1, 0, none⟩, 2, some ⟨w.heap.size + 1 + 1, 0, none⟩, 1, j0 + 1, by simp, HA0.out.next, ?_, ?_, by simp, by simp, (fun a e => by cases e; simp), (fun a e => by cases e; simp; omega)⟩
    · exact rd_blk ((blk_alloc_past _ _ _ (by simp [go_sem])).trans (blk_alloc_at _ _ _ _ (by simp))) rfl (by decide)
    · exact rd_blk (blk_alloc_at _ _ _ _ (by simp)) rfl (by decide)
  have K37 := Lib.hid k37
  clear k37
  go_upto_region 2 with fail
  go_cut [22] (fun v22 wx => v22 = .bool false ∧ wx = w.alloc (.cells #[.slice none 0 0, .slice none 0 0] 26))
  case first =>
    cases t0 with
    | nil =>
      have e1 : decide (j0 < s.length) = false := by rw [decide_eq_false_iff_not]; have := HA0.out.nil; omega
      go_wp2_with fail
      go_meet
      exact ⟨rfl, rfl⟩
    | cons c r =>
      have hlt := HA0.out.lt
      have hb := HA0.out.bt
      obtain ⟨n, hn⟩ : ∃ n, c.toNat = n := ⟨_, rfl⟩
      rw [hn] at hb
      have e37 : ((n : Int) == 37) = false := by rw [beq_eq_false_iff_ne]; intro h; exact K37.out ⟨c, r, rfl, by omega⟩
      clear hn
      go_wp2_with fail
      go_meet
      exact ⟨rfl, rfl⟩
  case rest =>
    obtain ⟨rfl, hw⟩ := hcut
    subst hw
    have hr0 : rangeL s = listL (s.length + 1) [] [] s := by
      cases t0 with
      | nil => exact range_nil HT0.out
      | cons c r => exact range_no HT0.out fun h => K37.out ⟨c, r, rfl, h⟩
    have HR0 := Lib.hid (RangeAt.start w 26)
    have HT := Lib.hid (RangeTo.mk (At.start s) (by simp) (by simp) ⟨_, Nat.lt_succ_self _, hr0⟩ : RangeTo s 0 [] [] s)
    clear hr0
    go_wp2_with fail
    go_loopg [3, 6, 7, 8, 9, 10] s.length (fun q v3 _ _ _ _ _ wr => ∃ (j : Nat) (us : List Adr) (ss : List Bool) (t : List UInt8) (lv sv : Value), q + j = s.length ∧ v3 = .int .i64 j ∧ j ≤ s.length ∧ RangeTo s j us ss t ∧ RangeAt w wr us ss lv sv)
    case atStart => exact ⟨0, [], [], s, _, _, by omega, rfl, Nat.zero_le _, HT.out, HR0.out⟩
    case round =>
      obtain ⟨j, us, ss, t, lv, sv, hq, rfl, hjl, T, R⟩ := hrel
      obtain ⟨wx, hwx⟩ : ∃ z, z = wr := ⟨_, rfl⟩
      subst hwx
      have HQ := Lib.hid hq
      have hnu := T.nu
      have hns := T.ns
      have htl : t.length ≤ 1000 := by have := T.at_.len; omega
      have hdr := T.at_.eq
      have TT := Lib.hid T
      have RR := Lib.hid R
      have htx : (tx s).extract j s.length = tx t := by rw [← hdr]; exact tx_from s j
      clear T R hq HT HR0 hdr
      go_wp2_with fail
      (with_reducible refine (one_lit rfl htl _).mono ?_)
      rintro e w1 ⟨hp, m, rfl⟩
      cases ho : oneL t with
      | none =>
        rw [ho] at hp
        have hp : e = .returned (.tuple #[.agg (adrC adr0), .int .i64 0, .int .i64 200]) := hp
        subst hp
        have HN := Lib.hid (TT.out.none ho)
        have R2 := RR.out.more (Grows.of wx m)
        obtain ⟨c0, c1⟩ := R2.two
        have hfr := R2.free
        have ig := R2.inh
        have HG := Lib.hid R2.grown
        clear ho R2
        obtain ⟨w2, hw2⟩ : ∃ z, z = more wx m := ⟨_, rfl⟩
        rw [← hw2] at c0 c1 hfr ig HG ⊢
        clear hw2
        go_wp2_with fail
        refine bodyPost_ret (v := .tuple #[.agg #[.slice none 0 0, .slice none 0 0], .int .i64 0, .int .i64 200]) (by simp [results, Tryd.results7, go_sem, ig, c0, c1]; try rfl) rfl ⟨by rw [HN.out]; rfl, ?_⟩
        repeat' first | exact HG.out | (with_reducible refine Grows.setCell ?_ (Nat.le_refl _) _) | (with_reducible refine Grows.alloc ?_ _)
      | some x =>
        rw [ho] at hp
        obtain ⟨k, rfl, hAk⟩ := hp
        have hA1 := TT.out.at_.trans hAk
        have hk1 := hA1.le
        have HA1 := Lib.hid hA1
        have HO := Lib.hid ho
        clear hAk hA1 ho
        go_wp2_with fail
        (with_reducible refine (blanks_lit HA1.out hl5 _ _ (by simp)).mono ?_)
        rintro e w1 ⟨⟨j2, rfl, hA2, hjj⟩, hw⟩
        have hw := hw.symm
        subst hw
        obtain ⟨u, hu⟩ : ∃ u, skipL x.2 = u := ⟨_, rfl⟩
        rw [hu] at hA2
        have HU := Lib.hid hu
        have HA2 := Lib.hid hA2
        have hj2 := hA2.le
        clear hu hA2
        have R2 := RR.out.more ((Grows.of wx m).alloc (.cells (adrC x.1) 28))
        obtain ⟨ab, hab⟩ : ∃ n, wx.heap.size + m.1.size = n := ⟨_, rfl⟩
        have A2 : AdrAt ((more wx m).alloc (.cells (adrC x.1) 28)) ab x.1 := blk_alloc_at _ _ _ _ (by rw [← hab]; simp)
        rw [hab]
        obtain ⟨A, ca, hlv, hca1, hca2, -⟩ := own_rdX R2.ol
        obtain ⟨B, cb, hsv, hcb1, hcb2, -⟩ := own_rdX R2.os
        obtain ⟨n, hn⟩ : ∃ n, us.length = n := ⟨_, rfl⟩
        obtain ⟨q, hqq⟩ : ∃ q, ss.length = q := ⟨_, rfl⟩
        have HNN := Lib.hid hn
        have HQQ := Lib.hid hqq
        rw [hn] at hlv hnu hca1
        rw [hqq] at hsv hns hcb1
        subst hlv hsv
        generalize (more wx m).alloc (.cells (adrC x.1) 28) = w2 at R2 A2 ⊢
        obtain ⟨c0, c1⟩ := R2.two
        obtain ⟨d0, d1, d2, d3⟩ := A2.cells
        have hfr := R2.free
        have hfa := A2.free
        have ig := R2.inh
        have ia := A2.inh
        have HR2 := Lib.hid R2
        have HA2c := Lib.hid A2
        have hol2 := R2.ol
        rw [hn] at hol2
        have hol2 := Lib.hid hol2
        have HJ := Lib.hid hjj
        clear R2 A2 RR hn hqq hw hab
        obtain ⟨b, hbm⟩ : ∃ b : Bool, sepH u = b := ⟨_, rfl⟩
        have HBM := Lib.hid hbm
        clear hbm
        go_upto_region 9 with fail
        go_cut [10] (fun v10 wx => v10 = .bool b ∧ wx = w2)
        case first =>
          cases u with
          | nil =>
            have e1 : decide (j2 < s.length) = false := by rw [decide_eq_false_iff_not]; have := HA2.out.nil; omega
            obtain rfl : b = false := HBM.out.symm.trans (by simp [sepH])
            go_wp2_with fail
            go_meet
            exact ⟨rfl, rfl⟩
          | cons c r =>
            have hlt := HA2.out.lt
            have hb := HA2.out.bt
            obtain ⟨d, hd⟩ : ∃ n, c.toNat = n := ⟨_, rfl⟩
            rw [hd] at hb
            have HD := Lib.hid hd
            clear hd
            by_cases k44 : d = 44
            · have e44 : ((d : Int) == 44) = true := by rw [k44]; rfl
              obtain rfl : b = true := HBM.out.symm.trans (decide_eq_true (.inl (HD.out.trans k44)))
              clear k44
              go_wp2_with fail
              go_meet
              exact ⟨rfl, rfl⟩
            have e44 : ((d : Int) == 44) = false := by rw [beq_eq_false_iff_ne]; omega
            by_cases k59 : d = 59
            · have e59 : ((d : Int) == 59) = true := by rw [k59]; rfl
              obtain rfl : b = true := HBM.out.symm.trans (decide_eq_true (.inr (HD.out.trans k59)))
              clear k59 k44
              go_wp2_with fail
              go_meet
              exact ⟨rfl, rfl⟩
            have e59 : ((d : Int) == 59) = false := by rw [beq_eq_false_iff_ne]; omega
            obtain rfl : b = false := HBM.out.symm.trans (decide_eq_false (by rw [HD.out]; omega))
            clear k59 k44
            go_wp2_with fail
            go_meet
            exact ⟨rfl, rfl⟩
        case rest =>
          obtain ⟨rfl, hw⟩ := hcut
          have hw := hw.symm
          subst hw
          obtain ⟨P, hP⟩ : ∃ P : Bool, (decide (0 < n) || b || decide (x.1.kind ≠ 0)) = P := ⟨_, rfl⟩
          have HP := Lib.hid hP
          clear hP
          go_upto_region 10 with fail
          go_cut [75] (fun v75 wy => v75 = .bool P ∧ wy = w2)
          case first =>
            by_cases kn : 0 < n
            · have kni : (0 : Int) < (n : Int) := by omega
              obtain rfl : P = true := by rw [← HP.out, decide_eq_true kn]; rfl
              go_wp2_with fail
              go_meet
              exact ⟨rfl, rfl⟩
            have kn0 : decide (0 < n) = false := decide_eq_false kn
            have kni : decide ((0 : Int) < (n : Int)) = false := decide_eq_false (by omega)
            cases b with
            | true =>
              obtain rfl : P = true := by rw [← HP.out, kn0]; rfl
              go_wp2_with fail
              go_meet
              exact ⟨rfl, rfl⟩
            | false =>
              have hk : ((x.1.kind : Int) != 0) = P := by
                rw [← HP.out, kn0, Bool.eq_iff_iff]
                simp
              clear kn
              go_wp2_with fail
              go_meet
              exact ⟨by simp [hk], rfl⟩
          case rest =>
            obtain ⟨rfl, hw⟩ := hcut
            have hw := hw.symm
            subst hw
            cases P with
            | false =>
              have hz := HP.out
              rw [Bool.or_eq_false_iff, Bool.or_eq_false_iff, decide_eq_false_iff_not, decide_eq_false_iff_not] at hz
              obtain ⟨⟨hz1, rfl⟩, hz2⟩ := hz
              have hus : us = [] := List.eq_nil_of_length_eq_zero (by have := HNN.out; omega)
              have hE := TT.out.end_ HO.out HU.out (sep_no HBM.out)
              rw [if_neg (by rintro (h | h); exact h hus; exact hz2 h)] at hE
              have HE := Lib.hid hE
              clear hz1 hz2 hus hE
              go_wp2_with fail
              refine bodyPost_ret (v := .tuple #[.agg #[.slice A n ca, .slice B q cb], .int .i64 ((j + k : Nat) : Int), .int .i64 0]) (by simp [results, Tryd.results7, go_sem, ig, c0, c1]; try rfl) rfl ⟨?_, HR2.out.again.grown⟩
              rw [HE.out]
              exact HR2.out.again.fin HA1.out (by have := HNN.out; omega) (by have := HQQ.out; omega)
            | true =>
              cases b with
              | false =>
                have hE := TT.out.end_ HO.out HU.out (sep_no HBM.out)
                rw [if_pos (by
                  have hz := HP.out
                  rw [Bool.or_false, Bool.or_eq_true, decide_eq_true_eq, decide_eq_true_eq] at hz
                  exact hz.imp (fun h e => by have := HNN.out; rw [e] at this; simp at this; omega) id)] at hE
                have HE := Lib.hid hE
                clear hE
                go_wp2_with (at_builtin; go_must (refine wpList_append_blk elemAdr (.tmp 77) (.tmp 79) (w.heap.size + 1) (.slice A n ca) n (adrs us) w2.heap.size (adrC x.1) rfl rfl (by simp [Act.eval, Act.put]) (own_moreX hol2.out ((Grows.refl _).alloc _)) (by simp [Act.eval, Act.put]) (blk_alloc_at _ _ _ _ rfl) rfl (adrC_one _) (by omega) (by have := ig; unfold InHeap at this; simp; omega) ?_); intro e9 cap9 w9 ho9 hc9 hn9; have R3 := HR2.out.more ((Grows.refl _).alloc (.cells (adrC x.1) 28)); have hb9 := R3.after (.inl rfl) hc9; obtain ⟨k0, k1, kf, ki⟩ := two_of hb9)
                have hR4 := R3.pushA HNN.out ho9 hc9 hn9
                refine bodyPost_ret (v := .tuple #[.agg #[.slice (some ⟨e9, 0, none⟩) (n + 1) cap9, .slice B q cb], .int .i64 ((j + k : Nat) : Int), .int .i64 0]) (by simp [results, Tryd.results7, go_sem, ki, k0, k1]; try rfl) rfl ⟨?_, hR4.again.grown⟩
                rw [HE.out]
                exact hR4.again.fin HA1.out (by have := HNN.out; simp; omega) (by have := HQQ.out; omega)
              | true =>
                obtain ⟨c, r, hu, hc⟩ := sep_yes HBM.out
                subst hu
                have hlt := HA2.out.lt
                have hb := HA2.out.bt
                obtain ⟨d, hd⟩ : ∃ n, c.toNat = n := ⟨_, rfl⟩
                rw [hd] at hb
                obtain ⟨b59, hb59⟩ : ∃ b, ((d : Int) == 59) = b := ⟨_, rfl⟩
                have HB59 : Hid (b59 = (c.toNat == 59)) := Lib.hid (by rw [← hb59, hd, Bool.eq_iff_iff]; simp; omega)
                have HC := Lib.hid hc
                clear hd hc
                go_upto_region 14 with (at_builtin; go_must (refine wpList_append_blk elemAdr (.tmp 77) (.tmp 79) (w.heap.size + 1) (.slice A n ca) n (adrs us) w2.heap.size (adrC x.1) rfl rfl (by simp [Act.eval, Act.put]) (own_moreX hol2.out ((Grows.refl _).alloc _)) (by simp [Act.eval, Act.put]) (blk_alloc_at _ _ _ _ rfl) rfl (adrC_one _) (by omega) (by have := ig; unfold InHeap at this; simp; omega) ?_); intro e9 cap9 w9 ho9 hc9 hn9; have R3 := HR2.out.more ((Grows.refl _).alloc (.cells (adrC x.1) 28)); have hb9 := R3.after (.inl rfl) hc9; obtain ⟨k0, k1, kf, ki⟩ := two_of hb9)
                have hR4 := R3.pushA HNN.out ho9 hc9 hn9
                generalize w9.setCell ⟨w.heap.size, 0, none⟩ (.slice (some ⟨e9, 0, none⟩) (n + 1) cap9) = w10 at hR4 ⊢
                clear k0 k1 kf ki hb9 hn9 hc9 ho9 R3
                obtain ⟨c2, c3⟩ := hR4.two
                have hfr4 := hR4.free
                have ig4 := hR4.inh
                have hos := hR4.os
                rw [HQQ.out] at hos
                have HR4 := Lib.hid hR4
                have hos := Lib.hid hos
                clear hR4
                go_region_law (refine step_append_blk elemBool (.tmp 87) (.tmp 92) (w.heap.size + 1) (.slice B q cb) q (ss.map Value.bool) w10.heap.size #[.bool b59] rfl rfl (by simp [Act.eval]) (own_moreX hos.out (by repeat' first | exact Grows.refl _ | refine Grows.more ?_ _ | refine Grows.alloc ?_ _ | refine Grows.drewN ?_ _ | refine Grows.drew ?_)) (by simp [Act.eval]) (by simp [go_sem]) rfl (bool_one _) (by omega) (by have := ig4; unfold InHeap at this; simp; omega) ?_; intro e11 cap11 w11 ho11 hc11 hn11; have hb11 := (HR4.out.more (by repeat' first | exact Grows.refl _ | refine Grows.more ?_ _ | refine Grows.alloc ?_ _ | refine Grows.drewN ?_ _ | refine Grows.drew ?_)).after (.inr rfl) hc11; obtain ⟨k0, k1, kf, ki⟩ := two_of hb11)
                all_goals
                  have hR6 := (HR4.out.more (by repeat' first | exact Grows.refl _ | refine Grows.more ?_ _ | refine Grows.alloc ?_ _ | refine Grows.drewN ?_ _ | refine Grows.drew ?_)).pushS HQQ.out ho11 hc11 hn11
                  have HR6 := Lib.hid hR6
                  clear hR6
                  go_wp2_with fail
                  go_roundg (s.length - (j2 + 1))
                  case measure => have := HQ.out; have := HJ.out; omega
                  case rel => exact ⟨j2 + 1, us ++ [x.1], ss ++ [b59], r, _, _, by omega, by simp, hlt, TT.out.more HO.out HU.out HC.out HB59.out HA2.out (by have := HJ.out; omega), HR6.out⟩
end Go.Proofs.YtpdlmknbpggohaaDoor
