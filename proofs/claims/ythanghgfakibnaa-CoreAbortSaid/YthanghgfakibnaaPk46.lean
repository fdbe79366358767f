/-
  Core: a buffer that is none: walks.
-/
import Derived.Test.YthanghgfakibnaaPk39
namespace Go.Proofs.Ythanghgfakibnaa
open Go.RowKit

/-- v is no buffer, here and later. -/
def NoneAt (v : Value) (w : World) : Prop := ∀ w', Grows w w' → Calls Try.prog 36 #[v] w' fun e w'' => e = .returned (.bool true) ∧ w' = w''
set_option maxRecDepth 3000 in
theorem NoneAt.use {v : Value} {w w' : World} (h : NoneAt v w) (hg : Grows w w') : Calls Try.prog 36 #[v] w' fun e w'' => e = .returned (.bool true) ∧ w' = w'' := h w' hg
set_option maxRecDepth 3000 in
theorem NoneAt.grows {v : Value} {w w' : World} (h : NoneAt v w) (hg : Grows w w') : NoneAt v w' := fun w2 h2 => h w2 (hg.trans h2)
set_option maxRecDepth 3000 in
theorem noneAt_nil (w : World) : NoneAt (.pointer none) w := fun w' _ => coNone_nil w'
set_option maxRecDepth 3000 in
theorem noneAt_zero (g : Nat) (w : World) (q0 : w.cell? ⟨g, 0, none⟩ = some (.pointer none)) : NoneAt (.pointer (some ⟨g, 0, none⟩)) w := fun w' hg => coNone_zero g w' (cell_grows q0 hg)
def bldView0 (x : Array (Nat × Value)) : Sem Value := Instr.build 38 x
set_option maxRecDepth 3000 in
theorem bldView0_eq (x : Array (Nat × Value)) : Instr.build 38 x = bldView0 x := rfl
set_option maxRecDepth 3000 in
theorem bldView0_run (w : World) : (bldView0 #[]).run Try.prog w = .ok (.agg (viC (.slice none 0 0) 0 zeros (.string ⟨#[]⟩))) w := by kernel_rfl
attribute [local go_sem ↓] zeroView bldView0_eq
attribute [local go_sem] viC_size viC_one bldView0_run
set_option maxRecDepth 3000 in
set_option maxHeartbeats 400000 in
theorem nilUndo {v : Value} (w : World) (hN : NoneAt v w) : Calls Try.prog 9 #[v] w fun e w' => e = .returned (.tuple #[.slice none 0 0, .int .i64 1]) ∧ Grows w w' := by
  have HN := Lib.hid hN
  clear hN
  go_enter Try.func9, Try.ntmps9
  go_wp2_with fail
  (with_reducible refine (HN.out.use (by repeat' first | exact Grows.refl _ | refine Grows.more ?_ _ | refine Grows.alloc ?_ _ | refine Grows.drew ?_)).mono ?_)
  rintro e w1 ⟨rfl, rfl⟩
  go_wp2_with fail
  go_ret2
  exact ⟨rfl, (by repeat' first | exact Grows.refl _ | refine Grows.more ?_ _ | refine Grows.alloc ?_ _ | refine Grows.drew ?_)⟩
set_option maxRecDepth 3000 in
set_option maxHeartbeats 400000 in
theorem nilView {v : Value} (w : World) (hN : NoneAt v w) : Calls Try.prog 10 #[v] w fun e w' => e = .returned (.agg (viC (.slice none 0 0) 0 zeros (.string ⟨#[]⟩))) ∧ Grows w w' := by
  have HN := Lib.hid hN
  clear hN
  go_enter Try.func10, Try.ntmps10
  go_wp2_with fail
  (with_reducible refine (HN.out.use (by repeat' first | exact Grows.refl _ | refine Grows.more ?_ _ | refine Grows.alloc ?_ _ | refine Grows.drew ?_)).mono ?_)
  rintro e w1 ⟨rfl, rfl⟩
  go_wp2_with fail
  exact bodyPost_ret (v := .agg (viC (.slice none 0 0) 0 zeros (.string ⟨#[]⟩))) (by simp [results, Try.results10, go_sem]) rfl ⟨rfl, (by repeat' first | exact Grows.refl _ | refine Grows.more ?_ _ | refine Grows.alloc ?_ _ | refine Grows.drew ?_)⟩
set_option maxRecDepth 3000 in
set_option maxHeartbeats 400000 in
theorem nilLast {v : Value} (s : ByteArray) (w : World) (hN : NoneAt v w) : Calls Try.prog 11 #[v, .string s] w fun e w' => e = .returned (.tuple #[]) ∧ Grows w w' := by
  have HN := Lib.hid hN
  clear hN
  go_enter Try.func11, Try.ntmps11
  go_wp2_with fail
  (with_reducible refine (HN.out.use (by repeat' first | exact Grows.refl _ | refine Grows.more ?_ _ | refine Grows.alloc ?_ _ | refine Grows.drew ?_)).mono ?_)
  rintro e w1 ⟨rfl, rfl⟩
  go_wp2_with fail
  go_end0
  exact ⟨rfl, (by repeat' first | exact Grows.refl _ | refine Grows.more ?_ _ | refine Grows.alloc ?_ _ | refine Grows.drew ?_)⟩
set_option maxRecDepth 3000 in
set_option maxHeartbeats 400000 in
theorem nilClean {v : Value} (w : World) (hN : NoneAt v w) : Calls Try.prog 12 #[v] w fun e w' => e = .returned (.tuple #[]) ∧ Grows w w' := by
  have HN := Lib.hid hN
  clear hN
  go_enter Try.func12, Try.ntmps12
  go_wp2_with fail
  (with_reducible refine (HN.out.use (by repeat' first | exact Grows.refl _ | refine Grows.more ?_ _ | refine Grows.alloc ?_ _ | refine Grows.drew ?_)).mono ?_)
  rintro e w1 ⟨rfl, rfl⟩
  go_wp2_with fail
  go_end0
  exact ⟨rfl, (by repeat' first | exact Grows.refl _ | refine Grows.more ?_ _ | refine Grows.alloc ?_ _ | refine Grows.drew ?_)⟩
set_option maxRecDepth 3000 in
set_option maxHeartbeats 400000 in
theorem nilAbort {v : Value} (w : World) (hN : NoneAt v w) : Calls Try.prog 13 #[v] w fun e w' => e = .returned (.tuple #[]) ∧ Grows w w' := by
  have HN := Lib.hid hN
  clear hN
  go_enter Try.func13, Try.ntmps13
  go_wp2_with fail
  (with_reducible refine (HN.out.use (by repeat' first | exact Grows.refl _ | refine Grows.more ?_ _ | refine Grows.alloc ?_ _ | refine Grows.drew ?_)).mono ?_)
  rintro e w1 ⟨rfl, rfl⟩
  go_wp2_with fail
  exact bodyPost_ret (v := .tuple #[]) (results_none rfl _ _ _) rfl ⟨rfl, (by repeat' first | exact Grows.refl _ | refine Grows.more ?_ _ | refine Grows.alloc ?_ _ | refine Grows.drew ?_)⟩
set_option maxRecDepth 3000 in
set_option maxHeartbeats 400000 in
theorem nilN {v : Value} (w : World) (hN : NoneAt v w) : Calls Try.prog 14 #[v] w fun e w' => e = .returned (.int .i64 0) ∧ Grows w w' := by
  have HN := Lib.hid hN
  clear hN
  go_enter Try.func14, Try.ntmps14
  go_wp2_with fail
  (with_reducible refine (HN.out.use (by repeat' first | exact Grows.refl _ | refine Grows.more ?_ _ | refine Grows.alloc ?_ _ | refine Grows.drew ?_)).mono ?_)
  rintro e w1 ⟨rfl, rfl⟩
  go_wp2_with fail
  go_ret
  exact ⟨rfl, (by repeat' first | exact Grows.refl _ | refine Grows.more ?_ _ | refine Grows.alloc ?_ _ | refine Grows.drew ?_)⟩
set_option maxRecDepth 3000 in
set_option maxHeartbeats 400000 in
theorem nilLine {v : Value} (i : Int) (w : World) (hN : NoneAt v w) : Calls Try.prog 15 #[v, .int .i64 i] w fun e w' => e = .returned (.string ⟨#[]⟩) ∧ Grows w w' := by
  have HN := Lib.hid hN
  clear hN
  go_enter Try.func15, Try.ntmps15
  go_wp2_with fail
  (with_reducible refine (HN.out.use (by repeat' first | exact Grows.refl _ | refine Grows.more ?_ _ | refine Grows.alloc ?_ _ | refine Grows.drew ?_)).mono ?_)
  rintro e w1 ⟨rfl, rfl⟩
  go_wp2_with fail
  go_ret
  exact ⟨rfl, (by repeat' first | exact Grows.refl _ | refine Grows.more ?_ _ | refine Grows.alloc ?_ _ | refine Grows.drew ?_)⟩
set_option maxRecDepth 3000 in
set_option maxHeartbeats 400000 in
theorem nilLines {v : Value} (a b : Int) (w : World) (hN : NoneAt v w) : Calls Try.prog 16 #[v, .int .i64 a, .int .i64 b] w fun e w' => e = .returned (.slice none 0 0) ∧ Grows w w' := by
  have HN := Lib.hid hN
  clear hN
  go_enter Try.func16, Try.ntmps16
  go_wp2_with fail
  (with_reducible refine (HN.out.use (by repeat' first | exact Grows.refl _ | refine Grows.more ?_ _ | refine Grows.alloc ?_ _ | refine Grows.drew ?_)).mono ?_)
  rintro e w1 ⟨rfl, rfl⟩
  go_wp2_with fail
  go_ret
  exact ⟨rfl, (by repeat' first | exact Grows.refl _ | refine Grows.more ?_ _ | refine Grows.alloc ?_ _ | refine Grows.drew ?_)⟩
set_option maxRecDepth 3000 in
set_option maxHeartbeats 400000 in
theorem nilCur {v : Value} (w : World) (hN : NoneAt v w) : Calls Try.prog 17 #[v] w fun e w' => e = .returned (.int .i64 0) ∧ Grows w w' := by
  have HN := Lib.hid hN
  clear hN
  go_enter Try.func17, Try.ntmps17
  go_wp2_with fail
  (with_reducible refine (HN.out.use (by repeat' first | exact Grows.refl _ | refine Grows.more ?_ _ | refine Grows.alloc ?_ _ | refine Grows.drew ?_)).mono ?_)
  rintro e w1 ⟨rfl, rfl⟩
  go_wp2_with fail
  go_ret
  exact ⟨rfl, (by repeat' first | exact Grows.refl _ | refine Grows.more ?_ _ | refine Grows.alloc ?_ _ | refine Grows.drew ?_)⟩
set_option maxRecDepth 3000 in
set_option maxHeartbeats 400000 in
theorem nilGo {v : Value} (i : Int) (w : World) (hN : NoneAt v w) : Calls Try.prog 18 #[v, .int .i64 i] w fun e w' => e = .returned (.int .i64 1) ∧ Grows w w' := by
  have HN := Lib.hid hN
  clear hN
  go_enter Try.func18, Try.ntmps18
  go_wp2_with fail
  (with_reducible refine (HN.out.use (by repeat' first | exact Grows.refl _ | refine Grows.more ?_ _ | refine Grows.alloc ?_ _ | refine Grows.drew ?_)).mono ?_)
  rintro e w1 ⟨rfl, rfl⟩
  go_wp2_with fail
  go_ret
  exact ⟨rfl, (by repeat' first | exact Grows.refl _ | refine Grows.more ?_ _ | refine Grows.alloc ?_ _ | refine Grows.drew ?_)⟩
set_option maxRecDepth 3000 in
set_option maxHeartbeats 400000 in
theorem nilMark {v : Value} (c i : Int) (w : World) (hN : NoneAt v w) : Calls Try.prog 19 #[v, .int .u8 c, .int .i64 i] w fun e w' => e = .returned (.int .i64 1) ∧ Grows w w' := by
  have HN := Lib.hid hN
  clear hN
  go_enter Try.func19, Try.ntmps19
  go_wp2_with fail
  (with_reducible refine (HN.out.use (by repeat' first | exact Grows.refl _ | refine Grows.more ?_ _ | refine Grows.alloc ?_ _ | refine Grows.drew ?_)).mono ?_)
  rintro e w1 ⟨rfl, rfl⟩
  go_wp2_with fail
  go_ret
  exact ⟨rfl, (by repeat' first | exact Grows.refl _ | refine Grows.more ?_ _ | refine Grows.alloc ?_ _ | refine Grows.drew ?_)⟩
set_option maxRecDepth 3000 in
set_option maxHeartbeats 400000 in
theorem nilRegs {v : Value} (w : World) (hN : NoneAt v w) : Calls Try.prog 20 #[v] w fun e w' => e = .returned (.pointer none) ∧ Grows w w' := by
  have HN := Lib.hid hN
  clear hN
  go_enter Try.func20, Try.ntmps20
  go_wp2_with fail
  (with_reducible refine (HN.out.use (by repeat' first | exact Grows.refl _ | refine Grows.more ?_ _ | refine Grows.alloc ?_ _ | refine Grows.drew ?_)).mono ?_)
  rintro e w1 ⟨rfl, rfl⟩
  go_wp2_with fail
  go_ret
  exact ⟨rfl, (by repeat' first | exact Grows.refl _ | refine Grows.more ?_ _ | refine Grows.alloc ?_ _ | refine Grows.drew ?_)⟩
set_option maxRecDepth 3000 in
set_option maxHeartbeats 400000 in
theorem nilDirty {v : Value} (w : World) (hN : NoneAt v w) : Calls Try.prog 21 #[v] w fun e w' => e = .returned (.bool false) ∧ Grows w w' := by
  have HN := Lib.hid hN
  clear hN
  go_enter Try.func21, Try.ntmps21
  go_wp2_with fail
  (with_reducible refine (HN.out.use (by repeat' first | exact Grows.refl _ | refine Grows.more ?_ _ | refine Grows.alloc ?_ _ | refine Grows.drew ?_)).mono ?_)
  rintro e w1 ⟨rfl, rfl⟩
  go_wp2_with fail
  go_ret
  exact ⟨rfl, (by repeat' first | exact Grows.refl _ | refine Grows.more ?_ _ | refine Grows.alloc ?_ _ | refine Grows.drew ?_)⟩
set_option maxRecDepth 3000 in
set_option maxHeartbeats 400000 in
theorem nilBegin {v : Value} (w : World) (hN : NoneAt v w) : Calls Try.prog 22 #[v] w fun e w' => e = .returned (.int .i64 1) ∧ Grows w w' := by
  have HN := Lib.hid hN
  clear hN
  go_enter Try.func22, Try.ntmps22
  go_wp2_with fail
  (with_reducible refine (HN.out.use (by repeat' first | exact Grows.refl _ | refine Grows.more ?_ _ | refine Grows.alloc ?_ _ | refine Grows.drew ?_)).mono ?_)
  rintro e w1 ⟨rfl, rfl⟩
  go_wp2_with fail
  go_ret
  exact ⟨rfl, (by repeat' first | exact Grows.refl _ | refine Grows.more ?_ _ | refine Grows.alloc ?_ _ | refine Grows.drew ?_)⟩
set_option maxRecDepth 3000 in
set_option maxHeartbeats 400000 in
theorem nilSplice {v : Value} (a d : Int) (A : Option Addr) (n c : Nat) (w : World) (hN : NoneAt v w) : Calls Try.prog 23 #[v, .agg #[.int .i64 a, .int .i64 d, .slice A n c]] w fun e w' => e = .returned (.int .i64 1) ∧ Grows w w' := by
  have HN := Lib.hid hN
  clear hN
  go_enter Try.func23, Try.ntmps23
  go_wp2_with fail
  (with_reducible refine (HN.out.use (by repeat' first | exact Grows.refl _ | refine Grows.more ?_ _ | refine Grows.alloc ?_ _ | refine Grows.drew ?_)).mono ?_)
  rintro e w1 ⟨rfl, rfl⟩
  go_wp2_with fail
  go_ret
  exact ⟨rfl, (by repeat' first | exact Grows.refl _ | refine Grows.more ?_ _ | refine Grows.alloc ?_ _ | refine Grows.drew ?_)⟩
set_option maxRecDepth 3000 in
set_option maxHeartbeats 400000 in
theorem nilEnd {v : Value} (w : World) (hN : NoneAt v w) : Calls Try.prog 24 #[v] w fun e w' => e = .returned (.slice none 0 0) ∧ Grows w w' := by
  have HN := Lib.hid hN
  clear hN
  go_enter Try.func24, Try.ntmps24
  go_wp2_with fail
  (with_reducible refine (HN.out.use (by repeat' first | exact Grows.refl _ | refine Grows.more ?_ _ | refine Grows.alloc ?_ _ | refine Grows.drew ?_)).mono ?_)
  rintro e w1 ⟨rfl, rfl⟩
  go_wp2_with fail
  go_ret
  exact ⟨rfl, (by repeat' first | exact Grows.refl _ | refine Grows.more ?_ _ | refine Grows.alloc ?_ _ | refine Grows.drew ?_)⟩
end Go.Proofs.Ythanghgfakibnaa
