/-
  Classes: the law ClassesParts.
-/
import Derived.Test.YtcfkniejpeakdaaClsLaws
namespace Go.Proofs.Ytcfkniejpeakdaa
open Go.RowKit

attribute [local go_sem] SA_getElem
attribute [local go_sem ↓] zero22
set_option maxRecDepth 100000 in
set_option maxHeartbeats 1000000 in
/-- The closure: is the byte in a class? -/
theorem isIn_any (k : ByteArray) (c g : Nat) (w : World) (b : Bool) (hc : c < 256) (hk : (clsOf k).isSome = true) (hb : classP k c = b) (hg : w.cell? ⟨g, 0, none⟩ = some (.int .u8 c)) : Calls Try.prog 16 #[.string k, .pointer (some ⟨g, 0, none⟩)] w fun e w' => e = .returned (.bool b) ∧ Grows w w' := by
  have hgi : InHeap g w := World.block_lt_of_cell? w _ hg
  have c0 : (0 : Int) ≤ (c : Int) := by omega
  have c1 : (c : Int) < 256 := by omega
  go_enter Try.func16, Try.ntmps16
  go_wp2_with fail
  (with_reducible refine (class_any k _).mono ?_)
  rw [hk]
  rintro e w1 ⟨rfl, m1, rfl⟩
  generalize hP : classP k = p at *
  go_wp2_with fail
  go_ret
  exact ⟨by rw [← hb]; rfl, (by repeat' first | exact Grows.refl _ | refine Grows.more ?_ _ | refine Grows.alloc ?_ _ | refine Grows.drewN ?_ _ | refine Grows.drew ?_)⟩
theorem cell_grow {w w' : World} {g : Nat} {v : Value} (hc : w.cell? ⟨g, 0, none⟩ = some v) (hg : Grows w w') : w'.cell? ⟨g, 0, none⟩ = some v := by
  obtain ⟨m, rfl⟩ := hg
  rw [cell_more w m _ (World.block_lt_of_cell? w _ hc)]; exact hc
theorem zones2 (c : Nat) (h : c < 256) : ((0 ≤ c ∧ c ≤ 8) ∨ (14 ≤ c ∧ c ≤ 31) ∨ (127 ≤ c ∧ c ≤ 127)) ∨ ((9 ≤ c ∧ c ≤ 9)) ∨ ((10 ≤ c ∧ c ≤ 13)) ∨ ((32 ≤ c ∧ c ≤ 32)) ∨ ((33 ≤ c ∧ c ≤ 47) ∨ (58 ≤ c ∧ c ≤ 64) ∨ (91 ≤ c ∧ c ≤ 96) ∨ (123 ≤ c ∧ c ≤ 126)) ∨ ((48 ≤ c ∧ c ≤ 57)) ∨ ((65 ≤ c ∧ c ≤ 70)) ∨ ((71 ≤ c ∧ c ≤ 90)) ∨ ((97 ≤ c ∧ c ≤ 102)) ∨ ((103 ≤ c ∧ c ≤ 122)) ∨ ((128 ≤ c ∧ c ≤ 255)) := by omega
/-- What a class says of a byte. -/
theorem says_of {k : ByteArray} {i : Nat} {p : Int → Bool} (h : clsOf k = some (i, p)) (c : Nat) (b : Bool) (hp : p c = b) : (clsOf k).isSome = true ∧ classP k c = b := by
  unfold classP; rw [h]; exact ⟨rfl, hp⟩
theorem says_lower (c : Nat) (b : Bool) (h : b = decide (97 ≤ c ∧ c ≤ 122)) : (clsOf (⟨#[108, 111, 119, 101, 114]⟩ : ByteArray)).isSome = true ∧ classP (⟨#[108, 111, 119, 101, 114]⟩ : ByteArray) c = b := says_of cls_lower c b (by
  subst h
  rw [Bool.eq_iff_iff]
  simp only [spanP, Bool.and_eq_true, decide_eq_true_eq]
  omega)
theorem says_upper (c : Nat) (b : Bool) (h : b = decide (65 ≤ c ∧ c ≤ 90)) : (clsOf (⟨#[117, 112, 112, 101, 114]⟩ : ByteArray)).isSome = true ∧ classP (⟨#[117, 112, 112, 101, 114]⟩ : ByteArray) c = b := says_of cls_upper c b (by
  subst h
  rw [Bool.eq_iff_iff]
  simp only [spanP, Bool.and_eq_true, decide_eq_true_eq]
  omega)
theorem says_alpha (c : Nat) (b : Bool) (h : b = decide ((97 ≤ c ∧ c ≤ 122) ∨ (65 ≤ c ∧ c ≤ 90))) : (clsOf (⟨#[97, 108, 112, 104, 97]⟩ : ByteArray)).isSome = true ∧ classP (⟨#[97, 108, 112, 104, 97]⟩ : ByteArray) c = b := says_of cls_alpha c b (by
  subst h
  rw [Bool.eq_iff_iff]
  simp only [spanP, someP, List.any_cons, List.any_nil, Bool.or_false, Bool.or_eq_true, Bool.and_eq_true, decide_eq_true_eq]
  omega)
theorem says_digit (c : Nat) (b : Bool) (h : b = decide (48 ≤ c ∧ c ≤ 57)) : (clsOf (⟨#[100, 105, 103, 105, 116]⟩ : ByteArray)).isSome = true ∧ classP (⟨#[100, 105, 103, 105, 116]⟩ : ByteArray) c = b := says_of cls_digit c b (by
  subst h
  rw [Bool.eq_iff_iff]
  simp only [spanP, Bool.and_eq_true, decide_eq_true_eq]
  omega)
theorem says_alnum (c : Nat) (b : Bool) (h : b = decide ((97 ≤ c ∧ c ≤ 122) ∨ (65 ≤ c ∧ c ≤ 90) ∨ (48 ≤ c ∧ c ≤ 57))) : (clsOf (⟨#[97, 108, 110, 117, 109]⟩ : ByteArray)).isSome = true ∧ classP (⟨#[97, 108, 110, 117, 109]⟩ : ByteArray) c = b := says_of cls_alnum c b (by
  subst h
  rw [Bool.eq_iff_iff]
  simp only [spanP, someP, List.any_cons, List.any_nil, Bool.or_false, Bool.or_eq_true, Bool.and_eq_true, decide_eq_true_eq]
  omega)
theorem says_xdigit (c : Nat) (b : Bool) (h : b = decide ((48 ≤ c ∧ c ≤ 57) ∨ (97 ≤ c ∧ c ≤ 102) ∨ (65 ≤ c ∧ c ≤ 70))) : (clsOf (⟨#[120, 100, 105, 103, 105, 116]⟩ : ByteArray)).isSome = true ∧ classP (⟨#[120, 100, 105, 103, 105, 116]⟩ : ByteArray) c = b := says_of cls_xdigit c b (by
  subst h
  rw [Bool.eq_iff_iff]
  simp only [spanP, someP, List.any_cons, List.any_nil, Bool.or_false, Bool.or_eq_true, Bool.and_eq_true, decide_eq_true_eq]
  omega)
theorem says_space (c : Nat) (b : Bool) (h : b = decide ((9 ≤ c ∧ c ≤ 13) ∨ c = 32)) : (clsOf (⟨#[115, 112, 97, 99, 101]⟩ : ByteArray)).isSome = true ∧ classP (⟨#[115, 112, 97, 99, 101]⟩ : ByteArray) c = b := says_of cls_space c b (by
  subst h
  rw [Bool.eq_iff_iff]
  simp only [spanP, someP, List.any_cons, List.any_nil, Bool.or_false, Bool.or_eq_true, Bool.and_eq_true, decide_eq_true_eq]
  omega)
theorem says_blank (c : Nat) (b : Bool) (h : b = decide (c = 9 ∨ c = 32)) : (clsOf (⟨#[98, 108, 97, 110, 107]⟩ : ByteArray)).isSome = true ∧ classP (⟨#[98, 108, 97, 110, 107]⟩ : ByteArray) c = b := says_of cls_blank c b (by
  subst h
  rw [Bool.eq_iff_iff]
  simp only [spanP, someP, List.any_cons, List.any_nil, Bool.or_false, Bool.or_eq_true, Bool.and_eq_true, decide_eq_true_eq]
  omega)
theorem says_cntrl (c : Nat) (b : Bool) (h : b = decide (c ≤ 31 ∨ c = 127)) : (clsOf (⟨#[99, 110, 116, 114, 108]⟩ : ByteArray)).isSome = true ∧ classP (⟨#[99, 110, 116, 114, 108]⟩ : ByteArray) c = b := says_of cls_cntrl c b (by
  subst h
  rw [Bool.eq_iff_iff]
  simp only [spanP, someP, List.any_cons, List.any_nil, Bool.or_false, Bool.or_eq_true, Bool.and_eq_true, decide_eq_true_eq]
  omega)
theorem says_graph (c : Nat) (b : Bool) (h : b = decide (33 ≤ c ∧ c ≤ 126)) : (clsOf (⟨#[103, 114, 97, 112, 104]⟩ : ByteArray)).isSome = true ∧ classP (⟨#[103, 114, 97, 112, 104]⟩ : ByteArray) c = b := says_of cls_graph c b (by
  subst h
  rw [Bool.eq_iff_iff]
  simp only [spanP, Bool.and_eq_true, decide_eq_true_eq]
  omega)
theorem says_print (c : Nat) (b : Bool) (h : b = decide (32 ≤ c ∧ c ≤ 126)) : (clsOf (⟨#[112, 114, 105, 110, 116]⟩ : ByteArray)).isSome = true ∧ classP (⟨#[112, 114, 105, 110, 116]⟩ : ByteArray) c = b := says_of cls_print c b (by
  subst h
  rw [Bool.eq_iff_iff]
  simp only [spanP, Bool.and_eq_true, decide_eq_true_eq]
  omega)
theorem says_punct (c : Nat) (b : Bool) (h : b = decide ((33 ≤ c ∧ c ≤ 126) ∧ ¬((97 ≤ c ∧ c ≤ 122) ∨ (65 ≤ c ∧ c ≤ 90) ∨ (48 ≤ c ∧ c ≤ 57)))) : (clsOf (⟨#[112, 117, 110, 99, 116]⟩ : ByteArray)).isSome = true ∧ classP (⟨#[112, 117, 110, 99, 116]⟩ : ByteArray) c = b := says_of cls_punct c b (by
  subst h
  rw [Bool.eq_iff_iff]
  simp only [spanP, someP, List.any_cons, List.any_nil, Bool.or_false, Bool.and_eq_true, decide_eq_true_eq, Bool.not_eq_true', Bool.or_eq_false_iff, Bool.and_eq_false_iff, decide_eq_false_iff_not]
  omega)
end Go.Proofs.Ytcfkniejpeakdaa
