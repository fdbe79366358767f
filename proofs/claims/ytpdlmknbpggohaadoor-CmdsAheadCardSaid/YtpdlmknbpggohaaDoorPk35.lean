/-
  Patterns: Parse, walked: the deferred function catches what is told where there is no pattern.
-/
import Derived.Test.YtpdlmknbpggohaaDoorPk34
import Derived.Defers
import Derived.Recover
import Derived.Laws.Pointers
namespace Go.Proofs.YtpdlmknbpggohaaDoor
open Go.RowKit

set_option maxRecDepth 3000 in
theorem as_none (w : World) : (Instr.typeAssert (.iface 61 (.agg #[])) 20 61 true).run Tryd.prog w = .ok (.tuple #[.agg #[], .bool true]) w := by kernel_rfl
set_option maxRecDepth 3000 in
theorem catch_none (rb eb : Nat) (older : List PanicEntry) (w : World) (x y : Value) (hne : ¬ rb = eb) (hc : w.cell? ⟨rb, 0, none⟩ = some x) (hz : w.frozen? ⟨rb, 0, none⟩ = false) (hc2 : w.cell? ⟨eb, 0, none⟩ = some y) (hz2 : w.frozen? ⟨eb, 0, none⟩ = false) :
    CallsD Tryd.prog 22 #[.pointer (some ⟨rb, 0, none⟩), .pointer (some ⟨eb, 0, none⟩)] (.panicking ({ v := .iface 61 (.agg #[]), recovered := false } :: older)) w fun e u' w' =>
      e = .returned (.tuple #[]) ∧ u' = .panicking ({ v := .iface 61 (.agg #[]), recovered := true } :: older) ∧ ∃ o, w' = ((w.setCell ⟨rb, 0, none⟩ (.pointer none)).setCell ⟨eb, 0, none⟩ (.int .i64 90)).alloc o := by
  have ir : InHeap rb w := World.block_lt_of_cell? _ _ hc
  have ie : InHeap eb w := World.block_lt_of_cell? _ _ hc2
  have hta := as_none
  refine callsD_of_wpS Tryd.func22 rfl fun c₀ cs hu => ?_
  apply wpS_seq
  apply wpS_region
  simp [wpOpsS, go_sem, recoverD, hu, Tryd.ntmps22, Exit.thenS]
  refine wpS_of_wp ?_
  go_wp2_with fail
  simp [bodyPostS, results, Tryd.results22]
  exact ⟨_, rfl⟩
set_option maxRecDepth 3000 in
theorem catch_idle (rb eb : Nat) (w : World) :
    CallsD Tryd.prog 22 #[.pointer (some ⟨rb, 0, none⟩), .pointer (some ⟨eb, 0, none⟩)] .returning w fun e u' w' => e = .returned (.tuple #[]) ∧ u' = .returning ∧ w' = w := by
  refine callsD_of_wpS Tryd.func22 rfl fun c₀ cs hu => ?_
  apply wpS_seq
  apply wpS_region
  simp [wpOpsS, go_sem, recoverD, hu, Tryd.ntmps22, Exit.thenS]
  refine wpS_of_wp ?_
  go_wp2_with fail
  cases c₀
  simp_all [bodyPostS, results, Tryd.results22]
/-- A pattern in memory: Re is the part of block g from 1 on. -/
structure ReAt (ok : Nat → Prop) (w : World) (g : Nat) (f : Fr) (t : PS) : Prop where
  tree : ∃ A cap, w.cell? ⟨g, 1, none⟩ = some (.slice A f.len cap) ∧ FrAt ok w A cap f
  groups : w.cell? ⟨g, 2, none⟩ = some (.int .i64 t.groups)
  parts : w.cell? ⟨g, 3, none⟩ = some (.int .i64 t.parts)
  refs : w.cell? ⟨g, 4, none⟩ = some (.bool t.refs)
/-- What Parse answers. -/
def ParsedPost (w : World) (r : Option (Fr × PS)) (e : Ending) (w' : World) : Prop :=
  match r with
  | none => e = .returned (.tuple #[.pointer none, .int .i64 90]) ∧ Grows w w'
  | some y => ∃ g, e = .returned (.tuple #[.pointer (some ⟨g, 1, none⟩), .int .i64 0]) ∧ ReAt (fun b => w.heap.size ≤ b ∧ ¬ b = g) w' g y.1 y.2 ∧ w.heap.size ≤ g ∧ Grows w w'
set_option maxRecDepth 3000 in
theorem pa_start (l : List UInt8) (w : World) (hl : l.length ≤ 1000000) (t1 t2 t3 : TypeId) (a b : Array Value) :
    Pa w.heap.size (((w.alloc (.cells a t1)).alloc (.cells b t2)).alloc (.cells (paC l (.slice none 0 0) 0 0 false (.slice none 0 0)) t3)) (w.heap.size + 2) (.slice none 0 0) (.slice none 0 0) (ps0 l) :=
  ⟨blk_alloc_at _ _ _ _ (by simp), World.ownsRow_nil _ _ _ _, (fun e => by cases e), by omega, by simp [ps0], by simp [ps0], hl, by simp [ps0]⟩
set_option maxRecDepth 3000 in
set_option maxHeartbeats 2000000 in
theorem bre_parse (l : List UInt8) (w : World) (hl : l.length ≤ 1000000) (hs : Sane w) :
    Calls Tryd.prog 9 #[.string (tx l)] w (ParsedPost w (patV l)) := by
  have hmf : ∀ (fn : Fn) (first cap : Array Value) (w : World), (Instr.makeFunc fn first cap).run Tryd.prog w = .ok (.func fn first cap) w := fun _ _ _ _ => rfl
  obtain ⟨R, hR⟩ : ∃ R, patV l = R := ⟨_, rfl⟩
  rw [hR]
  have HR := Lib.hid hR
  have HSN := Lib.hid hs
  have HLT := Lib.hid hs.lt
  have HL := Lib.hid hl
  clear hR hs
  go_enter_defers Tryd.func9, Tryd.ntmps9
  go_wp2_with fail
  have hP : Pa w.heap.size _ (w.heap.size + 1 + 1) _ _ _ := pa_start l w HL.out 37 31 68 #[.pointer none] #[.int .i64 0]
  have hG : Grows w (((w.alloc (.cells #[.pointer none] 37)).alloc (.cells #[.int .i64 0] 31)).alloc (.cells (paC l (.slice none 0 0) 0 0 false (.slice none 0 0)) 68)) := (((Grows.refl _).alloc _).alloc _).alloc _
  have hcall := row_any (.slice none 0 0) (l.length + 1) (ps0 l) (by simp [ps0]) w.heap.size (w.heap.size + 1 + 1) (.slice none 0 0) _ hP ⟨HSN.out.grows hG, HLT.out⟩
  have hc0 : (((w.alloc (.cells #[.pointer none] 37)).alloc (.cells #[.int .i64 0] 31)).alloc (.cells (paC l (.slice none 0 0) 0 0 false (.slice none 0 0)) 68)).cell? ⟨w.heap.size, 0, none⟩ = some (.pointer none) := by simp [go_sem]
  have hc1 : (((w.alloc (.cells #[.pointer none] 37)).alloc (.cells #[.int .i64 0] 31)).alloc (.cells (paC l (.slice none 0 0) 0 0 false (.slice none 0 0)) 68)).cell? ⟨w.heap.size + 1, 0, none⟩ = some (.int .i64 0) := by simp [go_sem]
  have hf0 : (((w.alloc (.cells #[.pointer none] 37)).alloc (.cells #[.int .i64 0] 31)).alloc (.cells (paC l (.slice none 0 0) 0 0 false (.slice none 0 0)) 68)).frozen? ⟨w.heap.size, 0, none⟩ = false := by simp [go_sem]
  have hf1 : (((w.alloc (.cells #[.pointer none] 37)).alloc (.cells #[.int .i64 0] 31)).alloc (.cells (paC l (.slice none 0 0) 0 0 false (.slice none 0 0)) 68)).frozen? ⟨w.heap.size + 1, 0, none⟩ = false := by simp [go_sem]
  have hsz : (((w.alloc (.cells #[.pointer none] 37)).alloc (.cells #[.int .i64 0] 31)).alloc (.cells (paC l (.slice none 0 0) 0 0 false (.slice none 0 0)) 68)).heap.size = w.heap.size + 3 := by simp
  have hw1 : ∀ {x}, Grows x x := fun {x} => Grows.refl x
  clear hP
  generalize hwe : ((w.alloc (.cells #[.pointer none] 37)).alloc (.cells #[.int .i64 0] 31)).alloc (.cells (paC l (.slice none 0 0) 0 0 false (.slice none 0 0)) 68) = w1 at hG hcall hc0 hc1 hf0 hf1 hsz
  change Calls Tryd.prog _ _ (((w.alloc (.cells #[.pointer none] 37)).alloc (.cells #[.int .i64 0] 31)).alloc (.cells (paC l (.slice none 0 0) 0 0 false (.slice none 0 0)) 68)) _
  rw [hwe]
  clear hwe hw1
  cases hrow : rowF true false (ps0 l) with
  | none =>
    rw [hrow] at hcall
    have hV : R = none := by rw [← HR.out]; unfold patV; rw [hrow]; rfl
    refine hcall.mono ?_
    rintro e w2 ⟨rfl, hc⟩
    subst hV
    have hK : ∀ b, PaK (w.heap.size + 1 + 1) (.slice none 0 0) b → w.heap.size + 1 + 1 ≤ b := by
      rintro b (h | h)
      · omega
      · cases h
    have hq := hc.mono (q := fun b => w.heap.size + 1 + 1 ≤ b) fun b _ h => hK b h
    have d0 := (hq.cell (a := ⟨w.heap.size, 0, none⟩) (by simp only []; omega) (by simp only []; omega)).trans hc0
    have d1 := (hq.cell (a := ⟨w.heap.size + 1, 0, none⟩) (by simp only []; omega) (by simp only []; omega)).trans hc1
    have z0 := (hq.frozen (a := ⟨w.heap.size, 0, none⟩) (by simp only []; omega) (by simp only []; omega)).trans hf0
    have z1 := (hq.frozen (a := ⟨w.heap.size + 1, 0, none⟩) (by simp only []; omega) (by simp only []; omega)).trans hf1
    have hGW : Grows w w2 := Chg.grows (n := 0) hG hq fun b hb => by omega
    have ir : InHeap w.heap.size w2 := World.block_lt_of_cell? _ _ d0
    have ie : InHeap (w.heap.size + 1) w2 := World.block_lt_of_cell? _ _ d1
    clear hq
    refine leaves_cons (f := 22) (args := #[.pointer (some ⟨w.heap.size, 0, none⟩), .pointer (some ⟨w.heap.size + 1, 0, none⟩)]) (by simp) (by simp [go_sem]) ?_
    refine (catch_none w.heap.size (w.heap.size + 1) [] _ _ _ (by omega) d0 z0 d1 z1).mono ?_
    rintro e u' w3 ⟨rfl, rfl, o, rfl⟩
    have g3 : Grows w (((w2.setCell ⟨w.heap.size, 0, none⟩ (.pointer none)).setCell ⟨w.heap.size + 1, 0, none⟩ (.int .i64 90)).alloc o) := ((hGW.setCell (p := ⟨w.heap.size, 0, none⟩) (Nat.le_refl _) _).setCell (p := ⟨w.heap.size + 1, 0, none⟩) (Nat.le_succ _) _).alloc o
    simp [Leaves, settle, results, Tryd.results9, go_sem, ParsedPost, d0, d1, ir, ie, g3]
  | some y =>
    obtain ⟨f, t⟩ := y
    rw [hrow] at hcall
    refine hcall.mono ?_
    rintro e w2 ⟨A, cap, ov2, rfl, hP, hS, hF⟩
    have hK : ∀ b, PaK (w.heap.size + 1 + 1) (.slice none 0 0) b → w.heap.size + 1 + 1 ≤ b := by
      rintro b (h | h)
      · omega
      · cases h
    have ig := hP.inh
    have fg := hP.free
    obtain ⟨q0, q1, -⟩ := hP.six
    have hb3 : blk (w2.setCell ⟨w.heap.size + 1 + 1, 1, none⟩ (.slice A f.len cap)) (w.heap.size + 1 + 1) = paC t.left (.slice A f.len cap) t.groups t.parts t.refs ov2 := (pa_put hP.cells (paC_pos _ _ _ _ _ _) 1 _).trans rfl
    have hq2 : Chg (fun b => w.heap.size + 1 + 1 ≤ b) w1 w2 := hS.chg.mono fun b _ h => hK b h
    have hq3 := hq2.trans ((chg_cell w2 (w.heap.size + 1 + 1) 1 (.slice A f.len cap)).mono fun b _ h => (by omega : w.heap.size + 1 + 1 ≤ b))
    have F3 := Lib.hid (hF.chg (chg_cell w2 (w.heap.size + 1 + 1) 1 (.slice A f.len cap)) fun b _ h e => h.2 (.inl e))
    have HROW := Lib.hid hrow
    clear hP hS hF hcall hrow
    cases htl : t.left with
    | nil =>
      have hV : R = some (f, t) := by rw [← HR.out]; unfold patV; rw [HROW.out]; simp [htl]
      have he : (tx ([] : List UInt8)).toList.isEmpty = true := by rw [ByteArray.toList_eq]; rfl
      rw [htl] at q0
      go_wp2_with fail
      (with_reducible refine (must_ok _).mono ?_)
      rintro e w3 ⟨rfl, rfl⟩
      subst hV
      have d0 := (hq3.cell (a := ⟨w.heap.size, 0, none⟩) (by simp only []; omega) (by simp only []; omega)).trans hc0
      have d1 := (hq3.cell (a := ⟨w.heap.size + 1, 0, none⟩) (by simp only []; omega) (by simp only []; omega)).trans hc1
      have z0 := (hq3.frozen (a := ⟨w.heap.size, 0, none⟩) (by simp only []; omega) (by simp only []; omega)).trans hf0
      have z1 := (hq3.frozen (a := ⟨w.heap.size + 1, 0, none⟩) (by simp only []; omega) (by simp only []; omega)).trans hf1
      have hGW : Grows w (w2.setCell ⟨w.heap.size + 1 + 1, 1, none⟩ (.slice A f.len cap)) := Chg.grows (n := 0) hG hq3 fun b hb => by omega
      have B3 := Lib.hid hb3
      clear hq2 hq3 q0 q1 fg ig hc0 hc1 hf0 hf1 hb3
      generalize w2.setCell ⟨w.heap.size + 1 + 1, 1, none⟩ (.slice A f.len cap) = w3 at *
      have i0 : InHeap w.heap.size w3 := World.block_lt_of_cell? _ _ d0
      have i1 : InHeap (w.heap.size + 1) w3 := World.block_lt_of_cell? _ _ d1
      have G4 := Lib.hid ((hGW.setCell (p := ⟨w.heap.size, 0, none⟩) (Nat.le_refl _) (.pointer (some ⟨w.heap.size + 1 + 1, 1, none⟩))).setCell (p := ⟨w.heap.size + 1, 0, none⟩) (Nat.le_succ _) (.int .i64 0))
      have hC4 : Chg (fun b => b < w.heap.size + 1 + 1) w3 ((w3.setCell ⟨w.heap.size, 0, none⟩ (.pointer (some ⟨w.heap.size + 1 + 1, 1, none⟩))).setCell ⟨w.heap.size + 1, 0, none⟩ (.int .i64 0)) :=
        ((chg_cell w3 w.heap.size 0 _).mono fun b _ h => (by omega : b < w.heap.size + 1 + 1)).trans ((chg_cell _ (w.heap.size + 1) 0 _).mono fun b _ h => (by omega : b < w.heap.size + 1 + 1))
      have C4 := Lib.hid hC4
      clear hC4
      go_wp2_with fail
      refine leaves_cons (f := 22) (args := #[.pointer (some ⟨w.heap.size, 0, none⟩), .pointer (some ⟨w.heap.size + 1, 0, none⟩)]) (by simp) (by simp [go_sem]) ?_
      refine (catch_idle w.heap.size (w.heap.size + 1) _).mono ?_
      rintro e u' w5 ⟨rfl, rfl, rfl⟩
      have hRe : ParsedPost w (some (f, t)) (.returned (.tuple #[.pointer (some ⟨w.heap.size + 1 + 1, 1, none⟩), .int .i64 0])) ((w3.setCell ⟨w.heap.size, 0, none⟩ (.pointer (some ⟨w.heap.size + 1 + 1, 1, none⟩))).setCell ⟨w.heap.size + 1, 0, none⟩ (.int .i64 0)) := by
        have hb4 := (chg_blk C4.out (Blk.inHeap B3.out (paC_pos _ _ _ _ _ _)) (by omega)).trans B3.out
        have hcc := fun i => Blk.cell hb4 (paC_pos _ _ _ _ _ _) i
        refine ⟨w.heap.size + 1 + 1, rfl, ⟨⟨A, cap, hcc 1, ?_⟩, hcc 2, hcc 3, hcc 4⟩, by omega, G4.out⟩
        exact (F3.out.chg C4.out fun b hb h => by have := h.1; omega).mono fun b hb h => ⟨by have := h.1; omega, fun e => h.2 (.inl e)⟩
      simp [Leaves, settle, results, Tryd.results9, go_sem, d0, d1, i0, i1]
      exact hRe
    | cons c l2 =>
      have hV : R = none := by rw [← HR.out]; unfold patV; rw [HROW.out]; simp [htl]
      have he : (tx (c :: l2)).toList.isEmpty = false := by rw [ByteArray.toList_eq, tx_data]; rfl
      rw [htl] at q0
      go_wp2_with fail
      (with_reducible refine (must_no _).mono ?_)
      rintro e w3 ⟨rfl, rfl⟩
      subst hV
      have hq := hq3
      have d0 := (hq.cell (a := ⟨w.heap.size, 0, none⟩) (by simp only []; omega) (by simp only []; omega)).trans hc0
      have d1 := (hq.cell (a := ⟨w.heap.size + 1, 0, none⟩) (by simp only []; omega) (by simp only []; omega)).trans hc1
      have z0 := (hq.frozen (a := ⟨w.heap.size, 0, none⟩) (by simp only []; omega) (by simp only []; omega)).trans hf0
      have z1 := (hq.frozen (a := ⟨w.heap.size + 1, 0, none⟩) (by simp only []; omega) (by simp only []; omega)).trans hf1
      have hGW : Grows w (w2.setCell ⟨w.heap.size + 1 + 1, 1, none⟩ (.slice A f.len cap)) := Chg.grows (n := 0) hG hq fun b hb => by omega
      have ir : InHeap w.heap.size (w2.setCell ⟨w.heap.size + 1 + 1, 1, none⟩ (.slice A f.len cap)) := World.block_lt_of_cell? _ _ d0
      have ie : InHeap (w.heap.size + 1) (w2.setCell ⟨w.heap.size + 1 + 1, 1, none⟩ (.slice A f.len cap)) := World.block_lt_of_cell? _ _ d1
      clear hq
      refine leaves_cons (f := 22) (args := #[.pointer (some ⟨w.heap.size, 0, none⟩), .pointer (some ⟨w.heap.size + 1, 0, none⟩)]) (by simp) (by simp [go_sem]) ?_
      refine (catch_none w.heap.size (w.heap.size + 1) [] _ _ _ (by omega) d0 z0 d1 z1).mono ?_
      rintro e u' w3 ⟨rfl, rfl, o, rfl⟩
      have g3 : Grows w ((((w2.setCell ⟨w.heap.size + 1 + 1, 1, none⟩ (.slice A f.len cap)).setCell ⟨w.heap.size, 0, none⟩ (.pointer none)).setCell ⟨w.heap.size + 1, 0, none⟩ (.int .i64 90)).alloc o) := ((hGW.setCell (p := ⟨w.heap.size, 0, none⟩) (Nat.le_refl _) _).setCell (p := ⟨w.heap.size + 1, 0, none⟩) (Nat.le_succ _) _).alloc o
      simp [Leaves, settle, results, Tryd.results9, go_sem, ParsedPost, d0, d1, ir, ie, g3]
end Go.Proofs.YtpdlmknbpggohaaDoor
