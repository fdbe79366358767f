/-
  Pieces: the law PiecesNone.
-/
import Derived.Test.YtblcggmbaofflaaPiecesDoes
namespace Go.Proofs.Ytblcggmbaofflaa
open Go.RowKit

theorem empty_ok (w : World) (ty : TypeId) : (Tbl.mk w.heap.size none 0 []).ok (w.alloc (.cells #[.slice none 0 0, .int .i64 0] ty)) :=
  ⟨by simp [go_sem, partsL], Rd.nil_, by simp, by simp [partsL]⟩
theorem empty_len (g : Nat) (w : World) (h : (Tbl.mk g none 0 []).ok w) : Calls Try.prog 21 #[.pointer (some ⟨g, 0, none⟩)] w fun e w' => e = .returned (.int .i64 0) ∧ w = w' := len_any _ w h
theorem empty_text (g : Nat) (w : World) (h : (Tbl.mk g none 0 []).ok w) : Calls Try.prog 22 #[.pointer (some ⟨g, 0, none⟩)] w fun e w' => e = .returned (.string ⟨#[]⟩) ∧ Grows w w' := text_any _ w h (by simp [Tbl.L, partsL, joinL])
set_option maxHeartbeats 4000000 in
theorem piecesNone_law (at_ del : Int) (ha : I64 at_) (hd : I64 del) (I : Option Addr) (ci : Nat) (ins : List (List UInt8)) (w : World) (hI : Came w I ci ins) :
    Calls Try.prog 5 #[.int .i64 at_, .int .i64 del, .slice I ins.length ci] w fun e w' => e = .returned (.bool true) ∧ Grows w w' := by
  have hi := hI.len
  go_enter Try.func5, Try.ntmps5
  go_wp2_with fail
  (with_reducible refine (great_any I ci ins 100 5000 _ hI.rd hi hI.each (by decide) (by decide) (by decide) (by decide)).mono ?_)
  rintro e w1 ⟨ga, rfl, hga, rfl⟩
  cases ga with
  | true =>
    go_wp2_with fail
    go_ret
    exact ⟨rfl, Grows.refl _⟩
  | false =>
    clear hga
    go_wp2_with fail
    (with_reducible refine (splice_nil at_ del I ins.length ci _).mono ?_)
    rintro e w1 ⟨rfl, rfl⟩
    go_wp2_with fail
    (with_reducible refine (line_nil at_ _ ha).mono ?_)
    rintro e w1 ⟨rfl, m1, rfl⟩
    have hE := empty_ok (more w m1) 52
    go_wp2_with fail
    (with_reducible refine (len_nil _).mono ?_)
    rintro e w1 ⟨rfl, rfl⟩
    go_wp2_with fail
    (with_reducible refine (lines_nil at_ del _ ha hd).mono ?_)
    rintro e w1 ⟨rfl, rfl⟩
    go_wp2_with fail
    (with_reducible refine (text_nil _).mono ?_)
    rintro e w1 ⟨rfl, m2, rfl⟩
    go_wp2_with fail
    (with_reducible refine (compact_nil _).mono ?_)
    rintro e w1 ⟨rfl, rfl⟩
    go_wp2_with fail
    (with_reducible refine (pieces_nil _).mono ?_)
    rintro e w1 ⟨rfl, rfl⟩
    go_wp2_with fail
    rw [size_more] at hE
    (with_reducible refine (empty_len _ _ (hE.grows (Grows.of _ m2))).mono ?_)
    rintro e w1 ⟨rfl, rfl⟩
    go_wp2_with fail
    (with_reducible refine (empty_text _ _ (hE.grows (Grows.of _ m2))).mono ?_)
    rintro e w1 ⟨rfl, m3, rfl⟩
    go_wp2_with fail
    (with_reducible refine (does_any _).mono ?_)
    rintro e w1 ⟨rfl, m4, rfl⟩
    go_wp2_with fail
    go_ret
    exact ⟨rfl, by repeat' first | exact Grows.refl _ | refine Grows.more ?_ _ | refine Grows.alloc ?_ _ | refine Grows.drew ?_⟩
end Go.Proofs.Ytblcggmbaofflaa
