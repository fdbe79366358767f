/-
  Several texts of the proof: CoreNil, CoreNone.
-/
import Derived.Test.YthanghgfakibnaaPk34
import Derived.Test.YthanghgfakibnaaPk36
import Derived.Test.YthanghgfakibnaaPk39
/-
  Core: a buffer that is none: walks.
-/
namespace Go.Proofs.Ythanghgfakibnaa
open Go.RowKit

/-- v is no buffer, here and later. -/
def NoneAt (v : Value) (w : World) : Prop := ∀ w', Grows w w' → Calls Try.prog 36 #[v] w' fun e w'' => e = .returned (.bool true) ∧ w' = w''
set_option maxRecDepth 3000 in
theorem NoneAt.use {v : Value} {w w' : World} (h : NoneAt v w) (hg : Grows w w') : Calls Try.prog 36 #[v] w' fun e w'' => e = .returned (.bool true) ∧ w' = w'' := h w' hg
set_option maxRecDepth 3000 in
theorem NoneAt.grows {v : Value} {w w' : World} (h : NoneAt v w) (hg : Grows w w') : NoneAt v w' := fun w2 h2 => h w2 (hg.trans h2)
set_option maxRecDepth 3000 in
theorem noneAt_nil (w : World) : NoneAt (.pointer none) w := fun w' _ => coNone_nil w'
set_option maxRecDepth 3000 in
theorem noneAt_zero (g : Nat) (w : World) (q0 : w.cell? ⟨g, 0, none⟩ = some (.pointer none)) : NoneAt (.pointer (some ⟨g, 0, none⟩)) w := fun w' hg => coNone_zero g w' (cell_grows q0 hg)
def bldView0 (x : Array (Nat × Value)) : Sem Value := Instr.build 38 x
set_option maxRecDepth 3000 in
theorem bldView0_eq (x : Array (Nat × Value)) : Instr.build 38 x = bldView0 x := rfl
set_option maxRecDepth 3000 in
theorem bldView0_run (w : World) : (bldView0 #[]).run Try.prog w = .ok (.agg (viC (.slice none 0 0) 0 zeros (.string ⟨#[]⟩))) w := by kernel_rfl
attribute [local go_sem ↓] zeroView bldView0_eq
attribute [local go_sem] viC_size viC_one bldView0_run
set_option maxRecDepth 3000 in
set_option maxHeartbeats 400000 in
theorem nilUndo {v : Value} (w : World) (hN : NoneAt v w) : Calls Try.prog 9 #[v] w fun e w' => e = .returned (.tuple #[.slice none 0 0, .int .i64 1]) ∧ Grows w w' := by
  have HN := Lib.hid hN
  clear hN
  go_enter Try.func9, Try.ntmps9
  go_wp2_with fail
  (with_reducible refine (HN.out.use (by repeat' first | exact Grows.refl _ | refine Grows.more ?_ _ | refine Grows.alloc ?_ _ | refine Grows.drew ?_)).mono ?_)
  rintro e w1 ⟨rfl, rfl⟩
  go_wp2_with fail
  go_ret2
  exact ⟨rfl, (by repeat' first | exact Grows.refl _ | refine Grows.more ?_ _ | refine Grows.alloc ?_ _ | refine Grows.drew ?_)⟩
set_option maxRecDepth 3000 in
set_option maxHeartbeats 400000 in
theorem nilView {v : Value} (w : World) (hN : NoneAt v w) : Calls Try.prog 10 #[v] w fun e w' => e = .returned (.agg (viC (.slice none 0 0) 0 zeros (.string ⟨#[]⟩))) ∧ Grows w w' := by
  have HN := Lib.hid hN
  clear hN
  go_enter Try.func10, Try.ntmps10
  go_wp2_with fail
  (with_reducible refine (HN.out.use (by repeat' first | exact Grows.refl _ | refine Grows.more ?_ _ | refine Grows.alloc ?_ _ | refine Grows.drew ?_)).mono ?_)
  rintro e w1 ⟨rfl, rfl⟩
  go_wp2_with fail
  exact bodyPost_ret (v := .agg (viC (.slice none 0 0) 0 zeros (.string ⟨#[]⟩))) (by simp [results, Try.results10, go_sem]) rfl ⟨rfl, (by repeat' first | exact Grows.refl _ | refine Grows.more ?_ _ | refine Grows.alloc ?_ _ | refine Grows.drew ?_)⟩
set_option maxRecDepth 3000 in
set_option maxHeartbeats 400000 in
theorem nilLast {v : Value} (s : ByteArray) (w : World) (hN : NoneAt v w) : Calls Try.prog 11 #[v, .string s] w fun e w' => e = .returned (.tuple #[]) ∧ Grows w w' := by
  have HN := Lib.hid hN
  clear hN
  go_enter Try.func11, Try.ntmps11
  go_wp2_with fail
  (with_reducible refine (HN.out.use (by repeat' first | exact Grows.refl _ | refine Grows.more ?_ _ | refine Grows.alloc ?_ _ | refine Grows.drew ?_)).mono ?_)
  rintro e w1 ⟨rfl, rfl⟩
  go_wp2_with fail
  go_end0
  exact ⟨rfl, (by repeat' first | exact Grows.refl _ | refine Grows.more ?_ _ | refine Grows.alloc ?_ _ | refine Grows.drew ?_)⟩
set_option maxRecDepth 3000 in
set_option maxHeartbeats 400000 in
theorem nilClean {v : Value} (w : World) (hN : NoneAt v w) : Calls Try.prog 12 #[v] w fun e w' => e = .returned (.tuple #[]) ∧ Grows w w' := by
  have HN := Lib.hid hN
  clear hN
  go_enter Try.func12, Try.ntmps12
  go_wp2_with fail
  (with_reducible refine (HN.out.use (by repeat' first | exact Grows.refl _ | refine Grows.more ?_ _ | refine Grows.alloc ?_ _ | refine Grows.drew ?_)).mono ?_)
  rintro e w1 ⟨rfl, rfl⟩
  go_wp2_with fail
  go_end0
  exact ⟨rfl, (by repeat' first | exact Grows.refl _ | refine Grows.more ?_ _ | refine Grows.alloc ?_ _ | refine Grows.drew ?_)⟩
set_option maxRecDepth 3000 in
set_option maxHeartbeats 400000 in
theorem nilAbort {v : Value} (w : World) (hN : NoneAt v w) : Calls Try.prog 13 #[v] w fun e w' => e = .returned (.tuple #[]) ∧ Grows w w' := by
  have HN := Lib.hid hN
  clear hN
  go_enter Try.func13, Try.ntmps13
  go_wp2_with fail
  (with_reducible refine (HN.out.use (by repeat' first | exact Grows.refl _ | refine Grows.more ?_ _ | refine Grows.alloc ?_ _ | refine Grows.drew ?_)).mono ?_)
  rintro e w1 ⟨rfl, rfl⟩
  go_wp2_with fail
  exact bodyPost_ret (v := .tuple #[]) (results_none rfl _ _ _) rfl ⟨rfl, (by repeat' first | exact Grows.refl _ | refine Grows.more ?_ _ | refine Grows.alloc ?_ _ | refine Grows.drew ?_)⟩
set_option maxRecDepth 3000 in
set_option maxHeartbeats 400000 in
theorem nilN {v : Value} (w : World) (hN : NoneAt v w) : Calls Try.prog 14 #[v] w fun e w' => e = .returned (.int .i64 0) ∧ Grows w w' := by
  have HN := Lib.hid hN
  clear hN
  go_enter Try.func14, Try.ntmps14
  go_wp2_with fail
  (with_reducible refine (HN.out.use (by repeat' first | exact Grows.refl _ | refine Grows.more ?_ _ | refine Grows.alloc ?_ _ | refine Grows.drew ?_)).mono ?_)
  rintro e w1 ⟨rfl, rfl⟩
  go_wp2_with fail
  go_ret
  exact ⟨rfl, (by repeat' first | exact Grows.refl _ | refine Grows.more ?_ _ | refine Grows.alloc ?_ _ | refine Grows.drew ?_)⟩
set_option maxRecDepth 3000 in
set_option maxHeartbeats 400000 in
theorem nilLine {v : Value} (i : Int) (w : World) (hN : NoneAt v w) : Calls Try.prog 15 #[v, .int .i64 i] w fun e w' => e = .returned (.string ⟨#[]⟩) ∧ Grows w w' := by
  have HN := Lib.hid hN
  clear hN
  go_enter Try.func15, Try.ntmps15
  go_wp2_with fail
  (with_reducible refine (HN.out.use (by repeat' first | exact Grows.refl _ | refine Grows.more ?_ _ | refine Grows.alloc ?_ _ | refine Grows.drew ?_)).mono ?_)
  rintro e w1 ⟨rfl, rfl⟩
  go_wp2_with fail
  go_ret
  exact ⟨rfl, (by repeat' first | exact Grows.refl _ | refine Grows.more ?_ _ | refine Grows.alloc ?_ _ | refine Grows.drew ?_)⟩
set_option maxRecDepth 3000 in
set_option maxHeartbeats 400000 in
theorem nilLines {v : Value} (a b : Int) (w : World) (hN : NoneAt v w) : Calls Try.prog 16 #[v, .int .i64 a, .int .i64 b] w fun e w' => e = .returned (.slice none 0 0) ∧ Grows w w' := by
  have HN := Lib.hid hN
  clear hN
  go_enter Try.func16, Try.ntmps16
  go_wp2_with fail
  (with_reducible refine (HN.out.use (by repeat' first | exact Grows.refl _ | refine Grows.more ?_ _ | refine Grows.alloc ?_ _ | refine Grows.drew ?_)).mono ?_)
  rintro e w1 ⟨rfl, rfl⟩
  go_wp2_with fail
  go_ret
  exact ⟨rfl, (by repeat' first | exact Grows.refl _ | refine Grows.more ?_ _ | refine Grows.alloc ?_ _ | refine Grows.drew ?_)⟩
set_option maxRecDepth 3000 in
set_option maxHeartbeats 400000 in
theorem nilCur {v : Value} (w : World) (hN : NoneAt v w) : Calls Try.prog 17 #[v] w fun e w' => e = .returned (.int .i64 0) ∧ Grows w w' := by
  have HN := Lib.hid hN
  clear hN
  go_enter Try.func17, Try.ntmps17
  go_wp2_with fail
  (with_reducible refine (HN.out.use (by repeat' first | exact Grows.refl _ | refine Grows.more ?_ _ | refine Grows.alloc ?_ _ | refine Grows.drew ?_)).mono ?_)
  rintro e w1 ⟨rfl, rfl⟩
  go_wp2_with fail
  go_ret
  exact ⟨rfl, (by repeat' first | exact Grows.refl _ | refine Grows.more ?_ _ | refine Grows.alloc ?_ _ | refine Grows.drew ?_)⟩
set_option maxRecDepth 3000 in
set_option maxHeartbeats 400000 in
theorem nilGo {v : Value} (i : Int) (w : World) (hN : NoneAt v w) : Calls Try.prog 18 #[v, .int .i64 i] w fun e w' => e = .returned (.int .i64 1) ∧ Grows w w' := by
  have HN := Lib.hid hN
  clear hN
  go_enter Try.func18, Try.ntmps18
  go_wp2_with fail
  (with_reducible refine (HN.out.use (by repeat' first | exact Grows.refl _ | refine Grows.more ?_ _ | refine Grows.alloc ?_ _ | refine Grows.drew ?_)).mono ?_)
  rintro e w1 ⟨rfl, rfl⟩
  go_wp2_with fail
  go_ret
  exact ⟨rfl, (by repeat' first | exact Grows.refl _ | refine Grows.more ?_ _ | refine Grows.alloc ?_ _ | refine Grows.drew ?_)⟩
set_option maxRecDepth 3000 in
set_option maxHeartbeats 400000 in
theorem nilMark {v : Value} (c i : Int) (w : World) (hN : NoneAt v w) : Calls Try.prog 19 #[v, .int .u8 c, .int .i64 i] w fun e w' => e = .returned (.int .i64 1) ∧ Grows w w' := by
  have HN := Lib.hid hN
  clear hN
  go_enter Try.func19, Try.ntmps19
  go_wp2_with fail
  (with_reducible refine (HN.out.use (by repeat' first | exact Grows.refl _ | refine Grows.more ?_ _ | refine Grows.alloc ?_ _ | refine Grows.drew ?_)).mono ?_)
  rintro e w1 ⟨rfl, rfl⟩
  go_wp2_with fail
  go_ret
  exact ⟨rfl, (by repeat' first | exact Grows.refl _ | refine Grows.more ?_ _ | refine Grows.alloc ?_ _ | refine Grows.drew ?_)⟩
set_option maxRecDepth 3000 in
set_option maxHeartbeats 400000 in
theorem nilRegs {v : Value} (w : World) (hN : NoneAt v w) : Calls Try.prog 20 #[v] w fun e w' => e = .returned (.pointer none) ∧ Grows w w' := by
  have HN := Lib.hid hN
  clear hN
  go_enter Try.func20, Try.ntmps20
  go_wp2_with fail
  (with_reducible refine (HN.out.use (by repeat' first | exact Grows.refl _ | refine Grows.more ?_ _ | refine Grows.alloc ?_ _ | refine Grows.drew ?_)).mono ?_)
  rintro e w1 ⟨rfl, rfl⟩
  go_wp2_with fail
  go_ret
  exact ⟨rfl, (by repeat' first | exact Grows.refl _ | refine Grows.more ?_ _ | refine Grows.alloc ?_ _ | refine Grows.drew ?_)⟩
set_option maxRecDepth 3000 in
set_option maxHeartbeats 400000 in
theorem nilDirty {v : Value} (w : World) (hN : NoneAt v w) : Calls Try.prog 21 #[v] w fun e w' => e = .returned (.bool false) ∧ Grows w w' := by
  have HN := Lib.hid hN
  clear hN
  go_enter Try.func21, Try.ntmps21
  go_wp2_with fail
  (with_reducible refine (HN.out.use (by repeat' first | exact Grows.refl _ | refine Grows.more ?_ _ | refine Grows.alloc ?_ _ | refine Grows.drew ?_)).mono ?_)
  rintro e w1 ⟨rfl, rfl⟩
  go_wp2_with fail
  go_ret
  exact ⟨rfl, (by repeat' first | exact Grows.refl _ | refine Grows.more ?_ _ | refine Grows.alloc ?_ _ | refine Grows.drew ?_)⟩
set_option maxRecDepth 3000 in
set_option maxHeartbeats 400000 in
theorem nilBegin {v : Value} (w : World) (hN : NoneAt v w) : Calls Try.prog 22 #[v] w fun e w' => e = .returned (.int .i64 1) ∧ Grows w w' := by
  have HN := Lib.hid hN
  clear hN
  go_enter Try.func22, Try.ntmps22
  go_wp2_with fail
  (with_reducible refine (HN.out.use (by repeat' first | exact Grows.refl _ | refine Grows.more ?_ _ | refine Grows.alloc ?_ _ | refine Grows.drew ?_)).mono ?_)
  rintro e w1 ⟨rfl, rfl⟩
  go_wp2_with fail
  go_ret
  exact ⟨rfl, (by repeat' first | exact Grows.refl _ | refine Grows.more ?_ _ | refine Grows.alloc ?_ _ | refine Grows.drew ?_)⟩
set_option maxRecDepth 3000 in
set_option maxHeartbeats 400000 in
theorem nilSplice {v : Value} (a d : Int) (A : Option Addr) (n c : Nat) (w : World) (hN : NoneAt v w) : Calls Try.prog 23 #[v, .agg #[.int .i64 a, .int .i64 d, .slice A n c]] w fun e w' => e = .returned (.int .i64 1) ∧ Grows w w' := by
  have HN := Lib.hid hN
  clear hN
  go_enter Try.func23, Try.ntmps23
  go_wp2_with fail
  (with_reducible refine (HN.out.use (by repeat' first | exact Grows.refl _ | refine Grows.more ?_ _ | refine Grows.alloc ?_ _ | refine Grows.drew ?_)).mono ?_)
  rintro e w1 ⟨rfl, rfl⟩
  go_wp2_with fail
  go_ret
  exact ⟨rfl, (by repeat' first | exact Grows.refl _ | refine Grows.more ?_ _ | refine Grows.alloc ?_ _ | refine Grows.drew ?_)⟩
set_option maxRecDepth 3000 in
set_option maxHeartbeats 400000 in
theorem nilEnd {v : Value} (w : World) (hN : NoneAt v w) : Calls Try.prog 24 #[v] w fun e w' => e = .returned (.slice none 0 0) ∧ Grows w w' := by
  have HN := Lib.hid hN
  clear hN
  go_enter Try.func24, Try.ntmps24
  go_wp2_with fail
  (with_reducible refine (HN.out.use (by repeat' first | exact Grows.refl _ | refine Grows.more ?_ _ | refine Grows.alloc ?_ _ | refine Grows.drew ?_)).mono ?_)
  rintro e w1 ⟨rfl, rfl⟩
  go_wp2_with fail
  go_ret
  exact ⟨rfl, (by repeat' first | exact Grows.refl _ | refine Grows.more ?_ _ | refine Grows.alloc ?_ _ | refine Grows.drew ?_)⟩
end Go.Proofs.Ythanghgfakibnaa

/-
  The law CoreNone.
-/
namespace Go.Proofs.Ythanghgfakibnaa
open Go.RowKit

def zv : Array Value := viC (.slice none 0 0) 0 zeros (.string ⟨#[]⟩)
set_option maxRecDepth 3000 in
theorem zv_0 : zv[0]? = some (.slice none 0 0) := by kernel_rfl
set_option maxRecDepth 3000 in
theorem zv_1 : zv[1]? = some (.int .i64 0) := by kernel_rfl
set_option maxRecDepth 3000 in
theorem zv_28 : zv[28]? = some (.string ⟨#[]⟩) := by kernel_rfl
set_option maxRecDepth 3000 in
theorem zv_size : zv.size = 29 := by kernel_rfl
set_option maxRecDepth 3000 in
theorem zv_one : OneCells zv := viC_one _ _ _ _ _ _
set_option maxRecDepth 3000 in
theorem zv_g0 (h : 0 < zv.size) : zv[0]'h = .slice none 0 0 := by have := zv_0; rw [Array.getElem?_eq_getElem h] at this; exact Option.some.inj this
set_option maxRecDepth 3000 in
theorem zv_g1 (h : 1 < zv.size) : zv[1]'h = .int .i64 0 := by have := zv_1; rw [Array.getElem?_eq_getElem h] at this; exact Option.some.inj this
set_option maxRecDepth 3000 in
theorem zv_g28 (h : 28 < zv.size) : zv[28]'h = .string ⟨#[]⟩ := by have := zv_28; rw [Array.getElem?_eq_getElem h] at this; exact Option.some.inj this
set_option maxRecDepth 3000 in
theorem zeroView2 (w : World) : (zeroValue 38).run Try.prog w = .ok (.agg zv) w := zeroView w
set_option maxRecDepth 3000 in
theorem nilView2 {v : Value} (w : World) (hN : NoneAt v w) : Calls Try.prog 10 #[v] w fun e w' => e = .returned (.agg zv) ∧ Grows w w' := nilView w hN
def zc : Array Value := coC (.pointer none) 0 zeros (.string ⟨#[]⟩) (.pointer none) (.bool false) (.pointer none) (.pointer none) (.pointer none) (.slice none 0 0)
set_option maxRecDepth 3000 in
theorem zc_0 : zc[0]? = some (.pointer none) := by kernel_rfl
set_option maxRecDepth 3000 in
theorem zc_g0 (h : 0 < zc.size) : zc[0]'h = .pointer none := by have := zc_0; rw [Array.getElem?_eq_getElem h] at this; exact Option.some.inj this
set_option maxRecDepth 3000 in
theorem zc_size : zc.size = 35 := by kernel_rfl
def bldC0 (x : Array (Nat × Value)) : Sem Value := Instr.build 56 x
set_option maxRecDepth 3000 in
theorem bldC0_eq (x : Array (Nat × Value)) : Instr.build 56 x = bldC0 x := rfl
set_option maxRecDepth 3000 in
theorem bldC0_run (w : World) : (bldC0 #[]).run Try.prog w = .ok (.agg zc) w := by kernel_rfl
attribute [local go_sem ↓] zeroView2 bldC0_eq
attribute [local go_sem] zv_0 zv_1 zv_28 zv_size zv_one zv_g0 zv_g1 zv_g28 zc_0 zc_g0 zc_size bldC0_run
set_option maxRecDepth 3000 in
theorem beyondAc1 (A : Option Addr) (s : AcC) (w : World) (h : AcsIn w A [s]) : Calls Try.prog 7 #[.slice A 1 1, .int .i64 1] w fun e w' => e = .returned (.bool (bigAcs [s] 1)) ∧ w = w' := beyondAc A 1 [s] 1 1 rfl w h (by omega)
set_option maxRecDepth 3000 in
set_option maxHeartbeats 8000000 in
theorem coreNone_law (s : AcC) (w : World) (hs : s.ok w) :
    Calls Try.prog 3 #[.agg s.cells.toArray] w fun e w' => e = .returned (.bool true) ∧ Grows w w' := by
  have hS := Lib.hid hs
  have hT : (tx s.text).size = s.text.length := tx_size _
  have hx := hs.text
  clear hs
  have hAc : ∀ (W : World) (t : TypeId), Grows w W → AcsIn (W.alloc (.cells #[.int .u8 s.kind, .int .i64 s.at_, .int .i64 s.del, .slice s.A s.ins.length s.cap, .int .i64 s.line, .int .u8 s.letter, .string (tx s.text)] t)) (some ⟨W.heap.size, 0, none⟩) [s] := fun W t hg => by
    refine ⟨⟨rfl, fun _ => ⟨W.heap.size, 0, rfl, by simp, fun j u hj => ?_⟩⟩, by simp, fun x hx => ?_⟩
    · rw [Nat.zero_add]
      have h2 : (#[.int .u8 s.kind, .int .i64 s.at_, .int .i64 s.del, .slice s.A s.ins.length s.cap, .int .i64 s.line, .int .u8 s.letter, .string (tx s.text)] : Array Value)[j]? = some u := by
        rw [← hj]
        simp [AcC.cells]
      rw [cell_of_row _ _ j _ t (0, 0) (World.alloc_heap_new _ _)]
      exact h2
    · simp at hx; subst hx; exact hS.out.grows (hg.alloc _)
  have HAc : Hid (AcsIn ((w.alloc (.cells #[.int .u8 s.kind, .int .i64 s.at_, .int .i64 s.del, .slice s.A s.ins.length s.cap, .int .i64 s.line, .int .u8 s.letter, .string (tx s.text)] 26)).alloc (.cells #[.int .u8 s.kind, .int .i64 s.at_, .int .i64 s.del, .slice s.A s.ins.length s.cap, .int .i64 s.line, .int .u8 s.letter, .string (tx s.text)] 26)) (some ⟨w.heap.size + 1, 0, none⟩) [s]) := Lib.hid (by simpa using hAc (w.alloc _) _ ((Grows.refl _).alloc _))
  clear hAc
  show Calls Try.prog 3 #[.agg #[.int .u8 s.kind, .int .i64 s.at_, .int .i64 s.del, .slice s.A s.ins.length s.cap, .int .i64 s.line, .int .u8 s.letter, .string (tx s.text)]] w _
  cases h1 : bigAcs [s] 1 with
  | true =>
    have H1 := Lib.hid h1
    clear h1
    go_enter Try.func3, Try.ntmps3
    go_wp2_with fail
    (with_reducible refine (beyondAc1 _ s _ HAc.out).mono ?_)
    rw [H1.out]
    rintro e w1 ⟨rfl, rfl⟩
    go_wp2_with fail
    (with_reducible refine (lives19 _).mono ?_)
    rintro e w1 ⟨rfl, m1, rfl⟩
    go_wp2_with fail
    go_ret
    exact ⟨rfl, (by repeat' first | exact Grows.refl _ | refine Grows.more ?_ _ | refine Grows.alloc ?_ _ | refine Grows.drew ?_)⟩
  | false =>
    have H1 := Lib.hid h1
    clear h1
    go_enter Try.func3, Try.ntmps3
    go_wp2_with fail
    (with_reducible refine (beyondAc1 _ s _ HAc.out).mono ?_)
    rw [H1.out]
    rintro e w1 ⟨rfl, rfl⟩
    go_wp2_with fail
    obtain ⟨W2, hW2⟩ : ∃ W, W = ((w.alloc (.cells #[.int .u8 s.kind, .int .i64 s.at_, .int .i64 s.del, .slice s.A s.ins.length s.cap, .int .i64 s.line, .int .u8 s.letter, .string (tx s.text)] 26)).alloc (.cells #[.int .u8 s.kind, .int .i64 s.at_, .int .i64 s.del, .slice s.A s.ins.length s.cap, .int .i64 s.line, .int .u8 s.letter, .string (tx s.text)] 26)) := ⟨_, rfl⟩
    have hG2 : Hid (Grows w W2) := Lib.hid (by rw [hW2]; exact (by repeat' first | exact Grows.refl _ | refine Grows.more ?_ _ | refine Grows.alloc ?_ _ | refine Grows.drew ?_))
    have c1 : W2.cell? ⟨w.heap.size, 1, none⟩ = some (.int .i64 s.at_) := by rw [hW2]; simp [go_sem]
    have c2 : W2.cell? ⟨w.heap.size, 2, none⟩ = some (.int .i64 s.del) := by rw [hW2]; simp [go_sem]
    have c3 : W2.cell? ⟨w.heap.size, 3, none⟩ = some (.slice s.A s.ins.length s.cap) := by rw [hW2]; simp [go_sem]
    have c4 : W2.cell? ⟨w.heap.size, 4, none⟩ = some (.int .i64 s.line) := by rw [hW2]; simp [go_sem]
    have c5 : W2.cell? ⟨w.heap.size, 5, none⟩ = some (.int .u8 s.letter) := by rw [hW2]; simp [go_sem]
    have c6 : W2.cell? ⟨w.heap.size, 6, none⟩ = some (.string (tx s.text)) := by rw [hW2]; simp [go_sem]
    rw [← hW2]
    clear hW2
    go_loopg [3, 4] 2 (fun q v i wr => ∃ k : Nat, q + k = 2 ∧ i = .int .i64 k ∧ NoneAt v wr ∧ Grows W2 wr)
    case atStart => exact ⟨0, rfl, rfl, noneAt_nil _, Grows.refl _⟩
    case round =>
      obtain ⟨k, hq, rfl, hN, hg⟩ := hrel
      have HQ := Lib.hid hq
      have HN := Lib.hid hN
      have HG := Lib.hid hg
      have d1 := cell_grows c1 hg
      have d2 := cell_grows c2 hg
      have d3 := cell_grows c3 hg
      have d4 := cell_grows c4 hg
      have d5 := cell_grows c5 hg
      have d6 := cell_grows c6 hg
      have iw : InHeap w.heap.size wr := World.block_lt_of_cell? wr _ d1
      have hk2 : k ≤ 2 := by omega
      clear hq hN hg
      by_cases h2 : k < 2
      · have h2' : (k : Int) < 2 := by omega
        go_wp2_with fail
        (with_reducible refine (nilUndo _ (HN.out.grows (by repeat' first | exact Grows.refl _ | refine Grows.more ?_ _ | refine Grows.alloc ?_ _ | refine Grows.drew ?_))).mono ?_)
        rintro e w1 ⟨rfl, m20, rfl⟩
        go_wp2_with fail
        (with_reducible refine (nilView2 _ (HN.out.grows (by repeat' first | exact Grows.refl _ | refine Grows.more ?_ _ | refine Grows.alloc ?_ _ | refine Grows.drew ?_))).mono ?_)
        rintro e w1 ⟨rfl, m21, rfl⟩
        go_wp2_with fail
        (with_reducible refine (nilLast _ _ (HN.out.grows (by repeat' first | exact Grows.refl _ | refine Grows.more ?_ _ | refine Grows.alloc ?_ _ | refine Grows.drew ?_))).mono ?_)
        rintro e w1 ⟨rfl, m22, rfl⟩
        go_wp2_with fail
        (with_reducible refine (nilClean _ (HN.out.grows (by repeat' first | exact Grows.refl _ | refine Grows.more ?_ _ | refine Grows.alloc ?_ _ | refine Grows.drew ?_))).mono ?_)
        rintro e w1 ⟨rfl, m23, rfl⟩
        go_wp2_with fail
        (with_reducible refine (nilAbort _ (HN.out.grows (by repeat' first | exact Grows.refl _ | refine Grows.more ?_ _ | refine Grows.alloc ?_ _ | refine Grows.drew ?_))).mono ?_)
        rintro e w1 ⟨rfl, m24, rfl⟩
        go_wp2_with fail
        (with_reducible refine (nilN _ (HN.out.grows (by repeat' first | exact Grows.refl _ | refine Grows.more ?_ _ | refine Grows.alloc ?_ _ | refine Grows.drew ?_))).mono ?_)
        rintro e w1 ⟨rfl, m25, rfl⟩
        go_wp2_with fail
        (with_reducible refine (nilLine _ _ (HN.out.grows (by repeat' first | exact Grows.refl _ | refine Grows.more ?_ _ | refine Grows.alloc ?_ _ | refine Grows.drew ?_))).mono ?_)
        rintro e w1 ⟨rfl, m26, rfl⟩
        go_wp2_with fail
        (with_reducible refine (nilLines _ _ _ (HN.out.grows (by repeat' first | exact Grows.refl _ | refine Grows.more ?_ _ | refine Grows.alloc ?_ _ | refine Grows.drew ?_))).mono ?_)
        rintro e w1 ⟨rfl, m27, rfl⟩
        go_wp2_with fail
        (with_reducible refine (nilCur _ (HN.out.grows (by repeat' first | exact Grows.refl _ | refine Grows.more ?_ _ | refine Grows.alloc ?_ _ | refine Grows.drew ?_))).mono ?_)
        rintro e w1 ⟨rfl, m28, rfl⟩
        go_wp2_with fail
        (with_reducible refine (nilGo _ _ (HN.out.grows (by repeat' first | exact Grows.refl _ | refine Grows.more ?_ _ | refine Grows.alloc ?_ _ | refine Grows.drew ?_))).mono ?_)
        rintro e w1 ⟨rfl, m29, rfl⟩
        go_wp2_with fail
        (with_reducible refine (nilMark _ _ _ (HN.out.grows (by repeat' first | exact Grows.refl _ | refine Grows.more ?_ _ | refine Grows.alloc ?_ _ | refine Grows.drew ?_))).mono ?_)
        rintro e w1 ⟨rfl, m30, rfl⟩
        go_wp2_with fail
        (with_reducible refine (nilRegs _ (HN.out.grows (by repeat' first | exact Grows.refl _ | refine Grows.more ?_ _ | refine Grows.alloc ?_ _ | refine Grows.drew ?_))).mono ?_)
        rintro e w1 ⟨rfl, m31, rfl⟩
        go_wp2_with fail
        (with_reducible refine (nilDirty _ (HN.out.grows (by repeat' first | exact Grows.refl _ | refine Grows.more ?_ _ | refine Grows.alloc ?_ _ | refine Grows.drew ?_))).mono ?_)
        rintro e w1 ⟨rfl, m32, rfl⟩
        go_wp2_with fail
        (with_reducible refine (nilBegin _ (HN.out.grows (by repeat' first | exact Grows.refl _ | refine Grows.more ?_ _ | refine Grows.alloc ?_ _ | refine Grows.drew ?_))).mono ?_)
        rintro e w1 ⟨rfl, m33, rfl⟩
        go_wp2_with fail
        (with_reducible refine (nilSplice _ _ _ _ _ _ (HN.out.grows (by repeat' first | exact Grows.refl _ | refine Grows.more ?_ _ | refine Grows.alloc ?_ _ | refine Grows.drew ?_))).mono ?_)
        rintro e w1 ⟨rfl, m34, rfl⟩
        go_wp2_with fail
        (with_reducible refine (nilEnd _ (HN.out.grows (by repeat' first | exact Grows.refl _ | refine Grows.more ?_ _ | refine Grows.alloc ?_ _ | refine Grows.drew ?_))).mono ?_)
        rintro e w1 ⟨rfl, m35, rfl⟩
        go_wp2_with fail
        go_roundg (gk - 1)
        case measure => have := HQ.out; omega
        case rel => exact ⟨k + 1, by have := HQ.out; omega, by go_num, noneAt_zero _ _ (by simp [go_sem]), HG.out.trans (by repeat' first | exact Grows.refl _ | refine Grows.more ?_ _ | refine Grows.alloc ?_ _ | refine Grows.drew ?_)⟩
      · have h2' : ¬ (k : Int) < 2 := by omega
        go_wp2_with fail
        (with_reducible refine (lives19 _).mono ?_)
        rintro e w1 ⟨rfl, m1, rfl⟩
        go_wp2_with fail
        go_ret
        exact ⟨rfl, (hG2.out.trans HG.out).trans (by repeat' first | exact Grows.refl _ | refine Grows.more ?_ _ | refine Grows.alloc ?_ _ | refine Grows.drew ?_)⟩
end Go.Proofs.Ythanghgfakibnaa
