/-
  Classes: the law ClassesParts, zones of the byte.
-/
import Derived.Test.YtcfkniejpeakdaaPartsIn
namespace Go.Proofs.Ytcfkniejpeakdaa
open Go.RowKit

attribute [local go_sem] SA_getElem
attribute [local go_sem ↓] zero22
set_option maxRecDepth 100000 in
set_option maxHeartbeats 4000000 in
theorem parts_zone4 (c : Nat) (w : World) (hs : Sane w) (h : (33 ≤ c ∧ c ≤ 47) ∨ (58 ≤ c ∧ c ≤ 64) ∨ (91 ≤ c ∧ c ≤ 96) ∨ (123 ≤ c ∧ c ≤ 126)) : Calls Try.prog 8 #[.int .u8 c] w fun e w' => e = .returned (.bool true) ∧ Grows w w' := by
  have HS := Lib.hid hs
  clear hs
  have hc255 : c ≤ 255 := by omega
  have Slower := Lib.hid (says_lower c false (by first | (simp; done) | (simp; omega)))
  have Supper := Lib.hid (says_upper c false (by first | (simp; done) | (simp; omega)))
  have Salpha := Lib.hid (says_alpha c false (by first | (simp; done) | (simp; omega)))
  have Sdigit := Lib.hid (says_digit c false (by first | (simp; done) | (simp; omega)))
  have Salnum := Lib.hid (says_alnum c false (by first | (simp; done) | (simp; omega)))
  have Sxdigit := Lib.hid (says_xdigit c false (by first | (simp; done) | (simp; omega)))
  have Sspace := Lib.hid (says_space c false (by first | (simp; done) | (simp; omega)))
  have Sblank := Lib.hid (says_blank c false (by first | (simp; done) | (simp; omega)))
  have Scntrl := Lib.hid (says_cntrl c false (by first | (simp; done) | (simp; omega)))
  have Sgraph := Lib.hid (says_graph c true (by first | (simp; done) | (simp; omega)))
  have Sprint := Lib.hid (says_print c true (by first | (simp; done) | (simp; omega)))
  have Spunct := Lib.hid (says_punct c true (by first | (simp; done) | (simp; omega)))
  have c32 : ((c : Int) == 32) = false := by rw [beq_eq_false_iff_ne]; omega
  have c128 : decide ((c : Int) < 128) = true := by simp; omega
  have c127 : decide ((127 : Int) < (c : Int)) = false := by simp; omega
  go_enter Try.func8, Try.ntmps8
  go_upto_region 2 with fail
  have hc : (w.alloc (.cells #[.int .u8 c] 5)).cell? ⟨w.heap.size, 0, none⟩ = some (.int .u8 c) := by simp [go_sem]
  have HG : Hid (Grows w (w.alloc (.cells #[.int .u8 c] 5))) := Lib.hid ((Grows.refl _).alloc _)
  generalize w.alloc (.cells #[.int .u8 c] 5) = W at *
  generalize w.heap.size = g at *
  have hgi : InHeap g W := World.block_lt_of_cell? W _ hc
  repeat
    (go_wp2_with fail
     first
       | (with_reducible refine (isIn_any (⟨#[108, 111, 119, 101, 114]⟩ : ByteArray) c g _ false (by omega) Slower.out.1 Slower.out.2 hc).mono ?_)
       | (with_reducible refine (isIn_any (⟨#[117, 112, 112, 101, 114]⟩ : ByteArray) c g _ false (by omega) Supper.out.1 Supper.out.2 hc).mono ?_)
       | (with_reducible refine (isIn_any (⟨#[97, 108, 112, 104, 97]⟩ : ByteArray) c g _ false (by omega) Salpha.out.1 Salpha.out.2 hc).mono ?_)
       | (with_reducible refine (isIn_any (⟨#[100, 105, 103, 105, 116]⟩ : ByteArray) c g _ false (by omega) Sdigit.out.1 Sdigit.out.2 hc).mono ?_)
       | (with_reducible refine (isIn_any (⟨#[97, 108, 110, 117, 109]⟩ : ByteArray) c g _ false (by omega) Salnum.out.1 Salnum.out.2 hc).mono ?_)
       | (with_reducible refine (isIn_any (⟨#[120, 100, 105, 103, 105, 116]⟩ : ByteArray) c g _ false (by omega) Sxdigit.out.1 Sxdigit.out.2 hc).mono ?_)
       | (with_reducible refine (isIn_any (⟨#[115, 112, 97, 99, 101]⟩ : ByteArray) c g _ false (by omega) Sspace.out.1 Sspace.out.2 hc).mono ?_)
       | (with_reducible refine (isIn_any (⟨#[98, 108, 97, 110, 107]⟩ : ByteArray) c g _ false (by omega) Sblank.out.1 Sblank.out.2 hc).mono ?_)
       | (with_reducible refine (isIn_any (⟨#[99, 110, 116, 114, 108]⟩ : ByteArray) c g _ false (by omega) Scntrl.out.1 Scntrl.out.2 hc).mono ?_)
       | (with_reducible refine (isIn_any (⟨#[103, 114, 97, 112, 104]⟩ : ByteArray) c g _ true (by omega) Sgraph.out.1 Sgraph.out.2 hc).mono ?_)
       | (with_reducible refine (isIn_any (⟨#[112, 114, 105, 110, 116]⟩ : ByteArray) c g _ true (by omega) Sprint.out.1 Sprint.out.2 hc).mono ?_)
       | (with_reducible refine (isIn_any (⟨#[112, 117, 110, 99, 116]⟩ : ByteArray) c g _ true (by omega) Spunct.out.1 Spunct.out.2 hc).mono ?_)
     clear hgi
     rintro e W' ⟨rfl, hg⟩
     replace hc := cell_grow hc hg
     replace HG := Lib.hid (HG.out.trans hg)
     have hgi : InHeap g W' := World.block_lt_of_cell? W' _ hc
     clear hg)
  go_wp2_with fail
  (with_reducible refine (does_any _ (HS.out.grows HG.out)).mono ?_)
  rintro e w3 ⟨rfl, hg⟩
  go_wp2_with fail
  go_ret
  exact ⟨rfl, HG.out.trans hg⟩
set_option maxRecDepth 100000 in
set_option maxHeartbeats 4000000 in
theorem parts_zone5 (c : Nat) (w : World) (hs : Sane w) (h : (48 ≤ c ∧ c ≤ 57)) : Calls Try.prog 8 #[.int .u8 c] w fun e w' => e = .returned (.bool true) ∧ Grows w w' := by
  have HS := Lib.hid hs
  clear hs
  have hc255 : c ≤ 255 := by omega
  have Slower := Lib.hid (says_lower c false (by first | (simp; done) | (simp; omega)))
  have Supper := Lib.hid (says_upper c false (by first | (simp; done) | (simp; omega)))
  have Salpha := Lib.hid (says_alpha c false (by first | (simp; done) | (simp; omega)))
  have Sdigit := Lib.hid (says_digit c true (by first | (simp; done) | (simp; omega)))
  have Salnum := Lib.hid (says_alnum c true (by first | (simp; done) | (simp; omega)))
  have Sxdigit := Lib.hid (says_xdigit c true (by first | (simp; done) | (simp; omega)))
  have Sspace := Lib.hid (says_space c false (by first | (simp; done) | (simp; omega)))
  have Sblank := Lib.hid (says_blank c false (by first | (simp; done) | (simp; omega)))
  have Scntrl := Lib.hid (says_cntrl c false (by first | (simp; done) | (simp; omega)))
  have Sgraph := Lib.hid (says_graph c true (by first | (simp; done) | (simp; omega)))
  have Sprint := Lib.hid (says_print c true (by first | (simp; done) | (simp; omega)))
  have Spunct := Lib.hid (says_punct c false (by first | (simp; done) | (simp; omega)))
  have c32 : ((c : Int) == 32) = false := by rw [beq_eq_false_iff_ne]; omega
  have c128 : decide ((c : Int) < 128) = true := by simp; omega
  have c127 : decide ((127 : Int) < (c : Int)) = false := by simp; omega
  go_enter Try.func8, Try.ntmps8
  go_upto_region 2 with fail
  have hc : (w.alloc (.cells #[.int .u8 c] 5)).cell? ⟨w.heap.size, 0, none⟩ = some (.int .u8 c) := by simp [go_sem]
  have HG : Hid (Grows w (w.alloc (.cells #[.int .u8 c] 5))) := Lib.hid ((Grows.refl _).alloc _)
  generalize w.alloc (.cells #[.int .u8 c] 5) = W at *
  generalize w.heap.size = g at *
  have hgi : InHeap g W := World.block_lt_of_cell? W _ hc
  repeat
    (go_wp2_with fail
     first
       | (with_reducible refine (isIn_any (⟨#[108, 111, 119, 101, 114]⟩ : ByteArray) c g _ false (by omega) Slower.out.1 Slower.out.2 hc).mono ?_)
       | (with_reducible refine (isIn_any (⟨#[117, 112, 112, 101, 114]⟩ : ByteArray) c g _ false (by omega) Supper.out.1 Supper.out.2 hc).mono ?_)
       | (with_reducible refine (isIn_any (⟨#[97, 108, 112, 104, 97]⟩ : ByteArray) c g _ false (by omega) Salpha.out.1 Salpha.out.2 hc).mono ?_)
       | (with_reducible refine (isIn_any (⟨#[100, 105, 103, 105, 116]⟩ : ByteArray) c g _ true (by omega) Sdigit.out.1 Sdigit.out.2 hc).mono ?_)
       | (with_reducible refine (isIn_any (⟨#[97, 108, 110, 117, 109]⟩ : ByteArray) c g _ true (by omega) Salnum.out.1 Salnum.out.2 hc).mono ?_)
       | (with_reducible refine (isIn_any (⟨#[120, 100, 105, 103, 105, 116]⟩ : ByteArray) c g _ true (by omega) Sxdigit.out.1 Sxdigit.out.2 hc).mono ?_)
       | (with_reducible refine (isIn_any (⟨#[115, 112, 97, 99, 101]⟩ : ByteArray) c g _ false (by omega) Sspace.out.1 Sspace.out.2 hc).mono ?_)
       | (with_reducible refine (isIn_any (⟨#[98, 108, 97, 110, 107]⟩ : ByteArray) c g _ false (by omega) Sblank.out.1 Sblank.out.2 hc).mono ?_)
       | (with_reducible refine (isIn_any (⟨#[99, 110, 116, 114, 108]⟩ : ByteArray) c g _ false (by omega) Scntrl.out.1 Scntrl.out.2 hc).mono ?_)
       | (with_reducible refine (isIn_any (⟨#[103, 114, 97, 112, 104]⟩ : ByteArray) c g _ true (by omega) Sgraph.out.1 Sgraph.out.2 hc).mono ?_)
       | (with_reducible refine (isIn_any (⟨#[112, 114, 105, 110, 116]⟩ : ByteArray) c g _ true (by omega) Sprint.out.1 Sprint.out.2 hc).mono ?_)
       | (with_reducible refine (isIn_any (⟨#[112, 117, 110, 99, 116]⟩ : ByteArray) c g _ false (by omega) Spunct.out.1 Spunct.out.2 hc).mono ?_)
     clear hgi
     rintro e W' ⟨rfl, hg⟩
     replace hc := cell_grow hc hg
     replace HG := Lib.hid (HG.out.trans hg)
     have hgi : InHeap g W' := World.block_lt_of_cell? W' _ hc
     clear hg)
  go_wp2_with fail
  (with_reducible refine (does_any _ (HS.out.grows HG.out)).mono ?_)
  rintro e w3 ⟨rfl, hg⟩
  go_wp2_with fail
  go_ret
  exact ⟨rfl, HG.out.trans hg⟩
set_option maxRecDepth 100000 in
set_option maxHeartbeats 4000000 in
theorem parts_zone6 (c : Nat) (w : World) (hs : Sane w) (h : (65 ≤ c ∧ c ≤ 70)) : Calls Try.prog 8 #[.int .u8 c] w fun e w' => e = .returned (.bool true) ∧ Grows w w' := by
  have HS := Lib.hid hs
  clear hs
  have hc255 : c ≤ 255 := by omega
  have Slower := Lib.hid (says_lower c false (by first | (simp; done) | (simp; omega)))
  have Supper := Lib.hid (says_upper c true (by first | (simp; done) | (simp; omega)))
  have Salpha := Lib.hid (says_alpha c true (by first | (simp; done) | (simp; omega)))
  have Sdigit := Lib.hid (says_digit c false (by first | (simp; done) | (simp; omega)))
  have Salnum := Lib.hid (says_alnum c true (by first | (simp; done) | (simp; omega)))
  have Sxdigit := Lib.hid (says_xdigit c true (by first | (simp; done) | (simp; omega)))
  have Sspace := Lib.hid (says_space c false (by first | (simp; done) | (simp; omega)))
  have Sblank := Lib.hid (says_blank c false (by first | (simp; done) | (simp; omega)))
  have Scntrl := Lib.hid (says_cntrl c false (by first | (simp; done) | (simp; omega)))
  have Sgraph := Lib.hid (says_graph c true (by first | (simp; done) | (simp; omega)))
  have Sprint := Lib.hid (says_print c true (by first | (simp; done) | (simp; omega)))
  have Spunct := Lib.hid (says_punct c false (by first | (simp; done) | (simp; omega)))
  have c32 : ((c : Int) == 32) = false := by rw [beq_eq_false_iff_ne]; omega
  have c128 : decide ((c : Int) < 128) = true := by simp; omega
  have c127 : decide ((127 : Int) < (c : Int)) = false := by simp; omega
  go_enter Try.func8, Try.ntmps8
  go_upto_region 2 with fail
  have hc : (w.alloc (.cells #[.int .u8 c] 5)).cell? ⟨w.heap.size, 0, none⟩ = some (.int .u8 c) := by simp [go_sem]
  have HG : Hid (Grows w (w.alloc (.cells #[.int .u8 c] 5))) := Lib.hid ((Grows.refl _).alloc _)
  generalize w.alloc (.cells #[.int .u8 c] 5) = W at *
  generalize w.heap.size = g at *
  have hgi : InHeap g W := World.block_lt_of_cell? W _ hc
  repeat
    (go_wp2_with fail
     first
       | (with_reducible refine (isIn_any (⟨#[108, 111, 119, 101, 114]⟩ : ByteArray) c g _ false (by omega) Slower.out.1 Slower.out.2 hc).mono ?_)
       | (with_reducible refine (isIn_any (⟨#[117, 112, 112, 101, 114]⟩ : ByteArray) c g _ true (by omega) Supper.out.1 Supper.out.2 hc).mono ?_)
       | (with_reducible refine (isIn_any (⟨#[97, 108, 112, 104, 97]⟩ : ByteArray) c g _ true (by omega) Salpha.out.1 Salpha.out.2 hc).mono ?_)
       | (with_reducible refine (isIn_any (⟨#[100, 105, 103, 105, 116]⟩ : ByteArray) c g _ false (by omega) Sdigit.out.1 Sdigit.out.2 hc).mono ?_)
       | (with_reducible refine (isIn_any (⟨#[97, 108, 110, 117, 109]⟩ : ByteArray) c g _ true (by omega) Salnum.out.1 Salnum.out.2 hc).mono ?_)
       | (with_reducible refine (isIn_any (⟨#[120, 100, 105, 103, 105, 116]⟩ : ByteArray) c g _ true (by omega) Sxdigit.out.1 Sxdigit.out.2 hc).mono ?_)
       | (with_reducible refine (isIn_any (⟨#[115, 112, 97, 99, 101]⟩ : ByteArray) c g _ false (by omega) Sspace.out.1 Sspace.out.2 hc).mono ?_)
       | (with_reducible refine (isIn_any (⟨#[98, 108, 97, 110, 107]⟩ : ByteArray) c g _ false (by omega) Sblank.out.1 Sblank.out.2 hc).mono ?_)
       | (with_reducible refine (isIn_any (⟨#[99, 110, 116, 114, 108]⟩ : ByteArray) c g _ false (by omega) Scntrl.out.1 Scntrl.out.2 hc).mono ?_)
       | (with_reducible refine (isIn_any (⟨#[103, 114, 97, 112, 104]⟩ : ByteArray) c g _ true (by omega) Sgraph.out.1 Sgraph.out.2 hc).mono ?_)
       | (with_reducible refine (isIn_any (⟨#[112, 114, 105, 110, 116]⟩ : ByteArray) c g _ true (by omega) Sprint.out.1 Sprint.out.2 hc).mono ?_)
       | (with_reducible refine (isIn_any (⟨#[112, 117, 110, 99, 116]⟩ : ByteArray) c g _ false (by omega) Spunct.out.1 Spunct.out.2 hc).mono ?_)
     clear hgi
     rintro e W' ⟨rfl, hg⟩
     replace hc := cell_grow hc hg
     replace HG := Lib.hid (HG.out.trans hg)
     have hgi : InHeap g W' := World.block_lt_of_cell? W' _ hc
     clear hg)
  go_wp2_with fail
  (with_reducible refine (does_any _ (HS.out.grows HG.out)).mono ?_)
  rintro e w3 ⟨rfl, hg⟩
  go_wp2_with fail
  go_ret
  exact ⟨rfl, HG.out.trans hg⟩
set_option maxRecDepth 100000 in
set_option maxHeartbeats 4000000 in
theorem parts_zone7 (c : Nat) (w : World) (hs : Sane w) (h : (71 ≤ c ∧ c ≤ 90)) : Calls Try.prog 8 #[.int .u8 c] w fun e w' => e = .returned (.bool true) ∧ Grows w w' := by
  have HS := Lib.hid hs
  clear hs
  have hc255 : c ≤ 255 := by omega
  have Slower := Lib.hid (says_lower c false (by first | (simp; done) | (simp; omega)))
  have Supper := Lib.hid (says_upper c true (by first | (simp; done) | (simp; omega)))
  have Salpha := Lib.hid (says_alpha c true (by first | (simp; done) | (simp; omega)))
  have Sdigit := Lib.hid (says_digit c false (by first | (simp; done) | (simp; omega)))
  have Salnum := Lib.hid (says_alnum c true (by first | (simp; done) | (simp; omega)))
  have Sxdigit := Lib.hid (says_xdigit c false (by first | (simp; done) | (simp; omega)))
  have Sspace := Lib.hid (says_space c false (by first | (simp; done) | (simp; omega)))
  have Sblank := Lib.hid (says_blank c false (by first | (simp; done) | (simp; omega)))
  have Scntrl := Lib.hid (says_cntrl c false (by first | (simp; done) | (simp; omega)))
  have Sgraph := Lib.hid (says_graph c true (by first | (simp; done) | (simp; omega)))
  have Sprint := Lib.hid (says_print c true (by first | (simp; done) | (simp; omega)))
  have Spunct := Lib.hid (says_punct c false (by first | (simp; done) | (simp; omega)))
  have c32 : ((c : Int) == 32) = false := by rw [beq_eq_false_iff_ne]; omega
  have c128 : decide ((c : Int) < 128) = true := by simp; omega
  have c127 : decide ((127 : Int) < (c : Int)) = false := by simp; omega
  go_enter Try.func8, Try.ntmps8
  go_upto_region 2 with fail
  have hc : (w.alloc (.cells #[.int .u8 c] 5)).cell? ⟨w.heap.size, 0, none⟩ = some (.int .u8 c) := by simp [go_sem]
  have HG : Hid (Grows w (w.alloc (.cells #[.int .u8 c] 5))) := Lib.hid ((Grows.refl _).alloc _)
  generalize w.alloc (.cells #[.int .u8 c] 5) = W at *
  generalize w.heap.size = g at *
  have hgi : InHeap g W := World.block_lt_of_cell? W _ hc
  repeat
    (go_wp2_with fail
     first
       | (with_reducible refine (isIn_any (⟨#[108, 111, 119, 101, 114]⟩ : ByteArray) c g _ false (by omega) Slower.out.1 Slower.out.2 hc).mono ?_)
       | (with_reducible refine (isIn_any (⟨#[117, 112, 112, 101, 114]⟩ : ByteArray) c g _ true (by omega) Supper.out.1 Supper.out.2 hc).mono ?_)
       | (with_reducible refine (isIn_any (⟨#[97, 108, 112, 104, 97]⟩ : ByteArray) c g _ true (by omega) Salpha.out.1 Salpha.out.2 hc).mono ?_)
       | (with_reducible refine (isIn_any (⟨#[100, 105, 103, 105, 116]⟩ : ByteArray) c g _ false (by omega) Sdigit.out.1 Sdigit.out.2 hc).mono ?_)
       | (with_reducible refine (isIn_any (⟨#[97, 108, 110, 117, 109]⟩ : ByteArray) c g _ true (by omega) Salnum.out.1 Salnum.out.2 hc).mono ?_)
       | (with_reducible refine (isIn_any (⟨#[120, 100, 105, 103, 105, 116]⟩ : ByteArray) c g _ false (by omega) Sxdigit.out.1 Sxdigit.out.2 hc).mono ?_)
       | (with_reducible refine (isIn_any (⟨#[115, 112, 97, 99, 101]⟩ : ByteArray) c g _ false (by omega) Sspace.out.1 Sspace.out.2 hc).mono ?_)
       | (with_reducible refine (isIn_any (⟨#[98, 108, 97, 110, 107]⟩ : ByteArray) c g _ false (by omega) Sblank.out.1 Sblank.out.2 hc).mono ?_)
       | (with_reducible refine (isIn_any (⟨#[99, 110, 116, 114, 108]⟩ : ByteArray) c g _ false (by omega) Scntrl.out.1 Scntrl.out.2 hc).mono ?_)
       | (with_reducible refine (isIn_any (⟨#[103, 114, 97, 112, 104]⟩ : ByteArray) c g _ true (by omega) Sgraph.out.1 Sgraph.out.2 hc).mono ?_)
       | (with_reducible refine (isIn_any (⟨#[112, 114, 105, 110, 116]⟩ : ByteArray) c g _ true (by omega) Sprint.out.1 Sprint.out.2 hc).mono ?_)
       | (with_reducible refine (isIn_any (⟨#[112, 117, 110, 99, 116]⟩ : ByteArray) c g _ false (by omega) Spunct.out.1 Spunct.out.2 hc).mono ?_)
     clear hgi
     rintro e W' ⟨rfl, hg⟩
     replace hc := cell_grow hc hg
     replace HG := Lib.hid (HG.out.trans hg)
     have hgi : InHeap g W' := World.block_lt_of_cell? W' _ hc
     clear hg)
  go_wp2_with fail
  (with_reducible refine (does_any _ (HS.out.grows HG.out)).mono ?_)
  rintro e w3 ⟨rfl, hg⟩
  go_wp2_with fail
  go_ret
  exact ⟨rfl, HG.out.trans hg⟩
end Go.Proofs.Ytcfkniejpeakdaa
