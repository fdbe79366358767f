/-
  The patterns' laws: a number's digits.
-/
import Derived.Test.YtnjagecmhdagkaaDoorPk21
set_option linter.unusedSimpArgs false
set_option linter.unusedVariables false
namespace Go.Proofs.YtnjagecmhdagkaaDoor
open Go.RowKit

set_option maxRecDepth 3000 in
theorem run_conv9 (l : List UInt8) (w : World) (g n cap : Nat) (hn : n = l.length) (hc : ∀ j (hj : j < l.length), w.cell? ⟨g, j, none⟩ = some (.int .u8 (l[j].toNat : Int))) :
    (convert 33 9 (.slice (some ⟨g, 0, none⟩) n cap)).run Tryd.prog w = .ok (.string (tx l)) w := by
  subst hn
  have := run_convert_bytes_back (P := Tryd.prog) w 33 9 5 ⟨g, 0, none⟩ cap l Tryd.underlying33 Tryd.underlying5 Tryd.underlying9
  exact this (fun j hj => by rw [show (⟨g, 0, none⟩ : Addr).add j = ⟨g, j, none⟩ by unfold Addr.add; split <;> simp_all]; exact hc j hj)
def dig8 (n : Nat) : UInt8 := UInt8.ofNat (48 + n % 10)
set_option maxRecDepth 3000 in
theorem dig8_nat (n : Nat) : (dig8 n).toNat = 48 + n % 10 := by
  unfold dig8
  rw [UInt8.toNat_ofNat']
  omega
/-- The digits of a number ahead of a text; of none for 0. -/
def digL : Nat → List UInt8 → List UInt8
  | 0, s => s
  | n + 1, s => digL ((n + 1) / 10) (dig8 (n + 1) :: s)
termination_by n => n
decreasing_by omega
def digitsV (n : Nat) : List UInt8 := digL (n / 10) [dig8 n]
set_option maxRecDepth 3000 in
theorem conv_dig (n : Nat) (W : World) : (convert 33 9 (.slice (some ⟨W.heap.size, 0, none⟩) 1 1)).run Tryd.prog (W.alloc (.cells #[.int .u8 (48 + (n : Int) % 10)] 5)) = .ok (.string (tx [dig8 n])) (W.alloc (.cells #[.int .u8 (48 + (n : Int) % 10)] 5)) := by
  have h8 : ((dig8 n).toNat : Int) = 48 + (n : Int) % 10 := by rw [dig8_nat]; omega
  rw [← h8]
  exact run_conv9 [dig8 n] _ _ _ _ rfl (fun j hj => by
        have : j = 0 := by simp at hj; omega
        subst this
        simp [go_sem])
set_option maxRecDepth 3000 in
theorem digL_pos (n : Nat) (s : List UInt8) (h : 0 < n) : digL n s = digL (n / 10) (dig8 n :: s) := by
  cases n with
  | zero => omega
  | succ n => rw [digL]
set_option maxRecDepth 3000 in
theorem digL_zero (s : List UInt8) : digL 0 s = s := by rw [digL]
end Go.Proofs.YtnjagecmhdagkaaDoor
