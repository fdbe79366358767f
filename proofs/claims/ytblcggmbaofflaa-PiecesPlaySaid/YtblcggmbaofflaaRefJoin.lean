/-
  inkhornref01.Join, walked: for every seat whose code calls it.
-/
import Derived.Test.YtblcggmbaofflaaJoins
namespace Go.Proofs.Ytblcggmbaofflaa
open Go.RowKit

set_option maxHeartbeats 1000000 in
theorem refJoin_any (A : Option Addr) (cap : Nat) (d : List (List UInt8)) (w : World) (hA : Rd w 1 A d.length (lv d)) (hj : (joinL d).length ≤ 140737488355000) (hd : d.length ≤ 9223372036854775807) :
    Calls Try.prog 23 #[.slice A d.length cap] w fun e w' => e = .returned (.string (tx (joinL d))) ∧ w = w' := by
  go_enter Try.func23, Try.ntmps23
  go_wp2_with fail
  go_loopg [3, 4] d.length (fun q v i wr => ∃ k : Nat, q + k = d.length ∧ i = .int .i64 k ∧ v = .string (tx (joinL (d.take k))) ∧ wr = w)
  case atStart => exact ⟨0, by omega, rfl, rfl, rfl⟩
  case round =>
    obtain ⟨k, hq, rfl, rfl, rfl⟩ := hrel
    have HQ := Lib.hid hq
    have hkl : k ≤ d.length := by omega
    clear hq
    by_cases h1 : k < d.length
    · obtain ⟨b, o, rfl, hb, ec⟩ := hA.line k h1
      have hjk := join_take_le d (k + 1)
      have hjt := join_take d k h1
      have hjl : (joinL (d.take k)).length + (d[k].length + 1) ≤ 140737488355000 := by
        rw [hjt] at hjk; simp at hjk; omega
      have HJ := Lib.hid hjt
      clear hjt
      go_wp2_with fail
      go_roundg (gk - 1)
      case measure => have := HQ.out; omega
      case rel =>
        refine ⟨k + 1, by have := HQ.out; omega, by go_num, ?_, rfl⟩
        rw [HJ.out, ← tx_append, ← tx_append, ← append_assoc_bytes]
        rfl
    · have hk : d.take k = d := List.take_of_length_le (by omega)
      rw [hk]
      clear hk
      go_wp2_with fail
      go_ret
      exact ⟨rfl, rfl⟩
end Go.Proofs.Ytblcggmbaofflaa
