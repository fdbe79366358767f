/-
  Classes: the laws ClassesNamed and ClassesParse.
-/
import Derived.Test.YtcfkniejpeakdaaClsDoes
import Derived.Test.YtcfkniejpeakdaaClsRefParse
import Derived.Shelf.Vars
namespace Go.Proofs.Ytcfkniejpeakdaa
open Go.RowKit

attribute [local go_sem] tx_bt tx_from SA_getElem
attribute [local go_sem ↓] zero22
attribute [local go_sem] equal22
theorem sane_of_shaped {w : World} (h : w.ShapedOpen Try.prog) : Sane w :=
  Go.Proofs.cell_of_shapedOpen_int (zero := #[.int .i64 0]) (t := 3) h (of_decide_eq_true (by kernel_rfl)) (by kernel_rfl) rfl (by kernel_rfl) (by kernel_rfl) Try.underlying3
set_option maxRecDepth 100000 in
set_option maxHeartbeats 4000000 in
theorem classesNamed_law (k : ByteArray) (w : World) (hs : Sane w) : Calls Try.prog 4 #[.string k] w fun e w' => e = .returned (.bool true) ∧ Grows w w' := by
  have HS := Lib.hid hs
  clear hs
  go_enter Try.func4, Try.ntmps4
  by_cases h1 : 1000 < k.size
  · have c1 : (1000 : Int) < (k.size : Int) := by omega
    go_wp2_with fail
    go_ret
    exact ⟨rfl, Grows.refl _⟩
  · have c1 : ¬(1000 : Int) < (k.size : Int) := by omega
    go_wp2_with fail
    (with_reducible refine (class_any k _).mono ?_)
    rintro e w1 ⟨rfl, m1, rfl⟩
    go_wp2_with fail
    (with_reducible refine (refClass_any k _).mono ?_)
    rintro e w2 ⟨rfl, m2, rfl⟩
    generalize classP k = P
    generalize (clsOf k).isSome = b
    cases b
    all_goals
      go_wp2_with fail
      (with_reducible refine (does_any _ (HS.out.grows (by repeat' first | exact Grows.refl _ | refine Grows.more ?_ _ | refine Grows.alloc ?_ _ | refine Grows.drew ?_))).mono ?_)
      rintro e w3 ⟨rfl, m3, rfl⟩
      go_wp2_with fail
      go_ret
      exact ⟨rfl, (by repeat' first | exact Grows.refl _ | refine Grows.more ?_ _ | refine Grows.alloc ?_ _ | refine Grows.drew ?_)⟩
set_option maxRecDepth 100000 in
set_option maxHeartbeats 4000000 in
theorem classesParse_law (s : List UInt8) (at_ : Int) (w : World) (hs : Sane w) (ha : I64 at_) : Calls Try.prog 3 #[.string (tx s), .int .i64 at_] w fun e w' => e = .returned (.bool true) ∧ Grows w w' := by
  have HS := Lib.hid hs
  clear hs
  go_enter Try.func3, Try.ntmps3
  by_cases h1 : 1000 < s.length
  · have c1 : (1000 : Int) < (s.length : Int) := by omega
    go_wp2_with fail
    go_ret
    exact ⟨rfl, Grows.refl _⟩
  · have c1 : ¬(1000 : Int) < (s.length : Int) := by omega
    go_wp2_with fail
    (with_reducible refine (parse_any s at_ _ (by omega) HS.out ha).mono ?_)
    rintro e w1 ⟨rfl, m1, rfl⟩
    go_wp2_with fail
    (with_reducible refine (refParse_any s at_ _ (by omega) ha).mono ?_)
    rintro e w2 ⟨rfl, m2, rfl⟩
    generalize (parseA s at_).1 = P
    generalize (parseA s at_).2.1 = n
    generalize (parseA s at_).2.2 = z
    go_wp2_with fail
    (with_reducible refine (does_any _ (HS.out.grows (by repeat' first | exact Grows.refl _ | refine Grows.more ?_ _ | refine Grows.alloc ?_ _ | refine Grows.drew ?_))).mono ?_)
    rintro e w3 ⟨rfl, m3, rfl⟩
    go_wp2_with fail
    go_ret
    exact ⟨rfl, (by repeat' first | exact Grows.refl _ | refine Grows.more ?_ _ | refine Grows.alloc ?_ _ | refine Grows.drew ?_)⟩
end Go.Proofs.Ytcfkniejpeakdaa
