/-
  Bytes of a text by number, without a proof at hand.
-/
import Derived.Test.YtpignlkojlbhkaaDoorPk03
namespace Go.Proofs.YtpignlkojlbhkaaDoor
open Go.RowKit

/-- The byte at a place; 0 where there is none. -/
def bt (s : List UInt8) (k : Nat) : Nat := (s.getD k 0).toNat
set_option maxRecDepth 3000 in
theorem bt_lt (s : List UInt8) (k : Nat) : bt s k < 256 := by unfold bt; exact UInt8.toNat_lt _
set_option maxRecDepth 3000 in
theorem tx_bt (s : List UInt8) (k : Nat) (h : k < (tx s).size) : ((tx s)[k]'h).toNat = bt s k := by
  rw [tx_get]
  have h2 : k < s.length := by simpa using h
  simp [bt, h2]
set_option maxRecDepth 3000 in
theorem bt_drop (s : List UInt8) (n k : Nat) : bt (s.drop n) k = bt s (n + k) := by
  unfold bt; simp [List.getD_eq_getElem?_getD, List.getElem?_drop]
set_option maxRecDepth 3000 in
theorem bt_append_left (a b : List UInt8) (k : Nat) (h : k < a.length) : bt (a ++ b) k = bt a k := by
  unfold bt; simp [List.getD_eq_getElem?_getD, List.getElem?_append_left h]
set_option maxRecDepth 3000 in
theorem bt_append_right (a b : List UInt8) (k : Nat) (h : a.length ≤ k) : bt (a ++ b) k = bt b (k - a.length) := by
  unfold bt; simp [List.getD_eq_getElem?_getD, List.getElem?_append_right h]
set_option maxRecDepth 3000 in
theorem bt_get (s : List UInt8) (k : Nat) (h : k < s.length) : bt s k = s[k].toNat := by simp [bt, h]
set_option maxRecDepth 3000 in
@[simp] theorem bt_cons_zero (a : UInt8) (s : List UInt8) : bt (a :: s) 0 = a.toNat := by simp [bt]
set_option maxRecDepth 3000 in
@[simp] theorem bt_cons_succ (a : UInt8) (s : List UInt8) (k : Nat) : bt (a :: s) (k + 1) = bt s k := by simp [bt]
set_option maxRecDepth 3000 in
theorem tx_from (s : List UInt8) (k : Nat) : (tx s).extract k s.length = tx (s.drop k) := by
  rw [tx_mid]
  congr 1
  exact List.take_of_length_le (by simp)
set_option maxRecDepth 3000 in
theorem tx_nil : tx [] = ⟨#[]⟩ := rfl
set_option maxRecDepth 3000 in
/-- A code of a byte, as a byte. -/
theorem code_byte (c : UInt8) : (c.toNat : Int).toNat.toUInt8 = c := by simp
set_option maxRecDepth 3000 in
theorem bt_byte (s : List UInt8) (k : Nat) : ((bt s k : Nat) : Int).toNat.toUInt8 = s.getD k 0 := by simp [bt]
end Go.Proofs.YtpignlkojlbhkaaDoor
