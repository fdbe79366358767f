/-
  Pieces: the walk of Splice, where it may not be; all together.
-/
import Derived.Test.YtblcggmbaofflaaPiecesSplice
namespace Go.Proofs.Ytblcggmbaofflaa
open Go.RowKit

set_option maxHeartbeats 2000000 in
theorem splice_bad (T : Tbl) (at_ del : Int) (I : Option Addr) (ci : Nat) (ins : List (List UInt8)) (w : World) (hT : T.ok w) (hI : Rd w 1 I ins.length (lv ins)) (hi : ins.length ≤ 1000000) (hl : ∀ s ∈ ins, s.length ≤ 9223372036854775807) (ha : I64 at_) (hd : I64 del) (h : at_ < 0 ∨ del < 0 ∨ (T.L.length : Int) < at_ ∨ (T.L.length : Int) - at_ < del ∨ lcheckV ins = 2) :
    Calls Try.prog 17 #[T.val, .int .i64 at_, .int .i64 del, .slice I ins.length ci] w fun e w' => e = .returned (.tuple #[.pointer none, .int .i64 2]) ∧ w = w' := by
  have HL := Lib.hid hl
  have HH := Lib.hid h
  have hs : T.L.length ≤ 1000000 := hT.small
  have hc := hT.cells
  have hx1 := Blk.cell hc (by simp) 1
  have hi1 := Blk.inHeap hc (by simp)
  simp only [List.size_toArray, List.length_cons, List.length_nil, Nat.zero_add, Nat.reduceAdd, Nat.reduceLT, getElem?_pos, List.getElem_toArray, List.getElem_cons_succ, List.getElem_cons_zero] at hx1
  rw [show partsL T.ps = T.L from rfl] at hx1
  clear hl hc hT h
  rw [show T.val = .pointer (some ⟨T.g, 0, none⟩) from rfl]
  unfold I64 at ha hd
  by_cases h1 : at_ < 0
  · go_enter Try.func17, Try.ntmps17
    go_wp2_with fail
    (with_reducible refine (lcheck_any I ci ins _ hI (by omega) HL.out).mono ?_)
    rintro e w1 ⟨rfl, rfl⟩
    go_wp2_with fail
    go_ret2
    exact ⟨rfl, rfl⟩
  · by_cases h2 : del < 0
    · go_enter Try.func17, Try.ntmps17
      go_wp2_with fail
      (with_reducible refine (lcheck_any I ci ins _ hI (by omega) HL.out).mono ?_)
      rintro e w1 ⟨rfl, rfl⟩
      go_wp2_with fail
      go_ret2
      exact ⟨rfl, rfl⟩
    · by_cases h3 : (T.L.length : Int) < at_
      · go_enter Try.func17, Try.ntmps17
        go_wp2_with fail
        (with_reducible refine (lcheck_any I ci ins _ hI (by omega) HL.out).mono ?_)
        rintro e w1 ⟨rfl, rfl⟩
        go_wp2_with fail
        go_ret2
        exact ⟨rfl, rfl⟩
      · by_cases h4 : (T.L.length : Int) - at_ < del
        · go_enter Try.func17, Try.ntmps17
          go_wp2_with fail
          (with_reducible refine (lcheck_any I ci ins _ hI (by omega) HL.out).mono ?_)
          rintro e w1 ⟨rfl, rfl⟩
          go_wp2_with fail
          go_ret2
          exact ⟨rfl, rfl⟩
        · have HC : Hid (lcheckV ins = 2) := Lib.hid (by have := HH.out; omega)
          go_enter Try.func17, Try.ntmps17
          go_wp2_with fail
          (with_reducible refine (lcheck_any I ci ins _ hI (by omega) HL.out).mono ?_)
          rw [HC.out]
          rintro e w1 ⟨rfl, rfl⟩
          go_wp2_with fail
          go_ret2
          exact ⟨rfl, rfl⟩
set_option maxHeartbeats 2000000 in
theorem splice_long (T : Tbl) (at_ del : Int) (I : Option Addr) (ci : Nat) (ins : List (List UInt8)) (w : World) (hT : T.ok w) (hI : Rd w 1 I ins.length (lv ins)) (hi : ins.length ≤ 1000000) (hl : ∀ s ∈ ins, s.length ≤ 9223372036854775807) (ha : I64 at_) (hd : I64 del) (h : ¬ (at_ < 0 ∨ del < 0 ∨ (T.L.length : Int) < at_ ∨ (T.L.length : Int) - at_ < del ∨ lcheckV ins = 2)) (hh : lcheckV ins ≠ 0 ∨ 2000 < (T.L.length : Int) - del + ins.length) :
    Calls Try.prog 17 #[T.val, .int .i64 at_, .int .i64 del, .slice I ins.length ci] w fun e w' => e = .returned (.tuple #[.pointer none, .int .i64 3]) ∧ w = w' := by
  have HL := Lib.hid hl
  have HH := Lib.hid h
  have hs : T.L.length ≤ 1000000 := hT.small
  have hc := hT.cells
  have hx1 := Blk.cell hc (by simp) 1
  have hi1 := Blk.inHeap hc (by simp)
  simp only [List.size_toArray, List.length_cons, List.length_nil, Nat.zero_add, Nat.reduceAdd, Nat.reduceLT, getElem?_pos, List.getElem_toArray, List.getElem_cons_succ, List.getElem_cons_zero] at hx1
  rw [show partsL T.ps = T.L from rfl] at hx1
  have h1 : 0 ≤ at_ := by omega
  have h2 : 0 ≤ del := by omega
  have h3 : at_ ≤ (T.L.length : Int) := by omega
  have h4 : del ≤ (T.L.length : Int) - at_ := by omega
  have h5 : (lcheckV ins == 2) = false := by simp; omega
  clear hl hc hT h
  rw [show T.val = .pointer (some ⟨T.g, 0, none⟩) from rfl]
  unfold I64 at ha hd
  by_cases hz : lcheckV ins = 0
  · have HC := Lib.hid hz
    have h6 : 2000 < (T.L.length : Int) - del + ins.length := by omega
    clear hh h5 hz
    go_enter Try.func17, Try.ntmps17
    go_wp2_with fail
    (with_reducible refine (lcheck_any I ci ins _ hI (by omega) HL.out).mono ?_)
    rw [HC.out]
    rintro e w1 ⟨rfl, rfl⟩
    go_wp2_with fail
    go_ret2
    exact ⟨rfl, rfl⟩
  · have h6 : (lcheckV ins != 0) = true := by simpa using hz
    clear hh hz
    go_enter Try.func17, Try.ntmps17
    go_wp2_with fail
    (with_reducible refine (lcheck_any I ci ins _ hI (by omega) HL.out).mono ?_)
    rintro e w1 ⟨rfl, rfl⟩
    go_wp2_with fail
    go_ret2
    exact ⟨rfl, rfl⟩
theorem splice_nil (at_ del : Int) (I : Option Addr) (n ci : Nat) (w : World) :
    Calls Try.prog 17 #[.pointer none, .int .i64 at_, .int .i64 del, .slice I n ci] w fun e w' => e = .returned (.tuple #[.pointer none, .int .i64 1]) ∧ w = w' := by
  go_enter Try.func17, Try.ntmps17
  go_wp2_with fail
  go_ret2
  exact ⟨rfl, rfl⟩
theorem splice_any (T : Tbl) (at_ del : Int) (I : Option Addr) (ci : Nat) (ins : List (List UInt8)) (w : World) (hT : T.ok w) (hI : Rd w 1 I ins.length (lv ins)) (hnI : I = none → ins.length = 0 ∧ ci = 0) (hi : ins.length ≤ 1000000) (hl : ∀ s ∈ ins, s.length ≤ 9223372036854775807) (ha : I64 at_) (hd : I64 del) :
    Calls Try.prog 17 #[T.val, .int .i64 at_, .int .i64 del, .slice I ins.length ci] w (SpliceOut T (spliceV T.L at_ del ins) w) := by
  by_cases h : at_ < 0 ∨ del < 0 ∨ (T.L.length : Int) < at_ ∨ (T.L.length : Int) - at_ < del ∨ lcheckV ins = 2
  · refine (splice_bad T at_ del I ci ins w hT hI hi hl ha hd h).mono ?_
    rintro e w' ⟨rfl, rfl⟩
    have e : spliceV T.L at_ del ins = ([], 2) := by unfold spliceV; rw [if_pos h]
    rw [e]
    exact .inl ⟨by simp, rfl, Grows.refl _⟩
  · by_cases hh : lcheckV ins ≠ 0 ∨ 2000 < (T.L.length : Int) - del + ins.length
    · refine (splice_long T at_ del I ci ins w hT hI hi hl ha hd h hh).mono ?_
      rintro e w' ⟨rfl, rfl⟩
      have e : spliceV T.L at_ del ins = ([], 3) := by unfold spliceV; rw [if_neg h, if_pos hh]
      rw [e]
      exact .inl ⟨by simp, rfl, Grows.refl _⟩
    · have hck : lcheckV ins = 0 := by
        apply Classical.byContradiction; intro k; exact hh (.inl k)
      obtain ⟨a, rfl⟩ : ∃ a : Nat, at_ = a := ⟨at_.toNat, by omega⟩
      obtain ⟨d, rfl⟩ : ∃ d : Nat, del = d := ⟨del.toNat, by omega⟩
      have e : spliceV T.L a d ins = (T.L.take a ++ (ins ++ T.L.drop (a + d)), 0) := by unfold spliceV; rw [if_neg h, if_neg hh]; rfl
      rw [e]
      exact splice_yes T a d I ci ins w hT hI hnI hi hl hck (by omega) (by omega)
end Go.Proofs.Ytblcggmbaofflaa
