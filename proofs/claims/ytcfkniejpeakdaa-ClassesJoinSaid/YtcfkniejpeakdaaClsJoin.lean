/-
  Classes: the law ClassesJoin.
-/
import Derived.Test.YtcfkniejpeakdaaClsJoinP
import Derived.Test.YtcfkniejpeakdaaClsList
namespace Go.Proofs.Ytcfkniejpeakdaa
open Go.RowKit

attribute [local go_sem] tx_bt SA_getElem
attribute [local go_sem ↓] zero22
attribute [local go_sem] equal22
theorem nm_at (k : Nat) (hk : k < 12) : ∀ h : k < ([.string ⟨#[108, 111, 119, 101, 114]⟩, .string ⟨#[117, 112, 112, 101, 114]⟩, .string ⟨#[97, 108, 112, 104, 97]⟩, .string ⟨#[100, 105, 103, 105, 116]⟩, .string ⟨#[97, 108, 110, 117, 109]⟩, .string ⟨#[120, 100, 105, 103, 105, 116]⟩, .string ⟨#[115, 112, 97, 99, 101]⟩, .string ⟨#[98, 108, 97, 110, 107]⟩, .string ⟨#[99, 110, 116, 114, 108]⟩, .string ⟨#[103, 114, 97, 112, 104]⟩, .string ⟨#[112, 114, 105, 110, 116]⟩, .string ⟨#[112, 117, 110, 99, 116]⟩] : List Value).length, ([.string ⟨#[108, 111, 119, 101, 114]⟩, .string ⟨#[117, 112, 112, 101, 114]⟩, .string ⟨#[97, 108, 112, 104, 97]⟩, .string ⟨#[100, 105, 103, 105, 116]⟩, .string ⟨#[97, 108, 110, 117, 109]⟩, .string ⟨#[120, 100, 105, 103, 105, 116]⟩, .string ⟨#[115, 112, 97, 99, 101]⟩, .string ⟨#[98, 108, 97, 110, 107]⟩, .string ⟨#[99, 110, 116, 114, 108]⟩, .string ⟨#[103, 114, 97, 112, 104]⟩, .string ⟨#[112, 114, 105, 110, 116]⟩, .string ⟨#[112, 117, 110, 99, 116]⟩] : List Value)[k]'h = .string (tx (nmL.getD k [])) := by
  rcases (show k = 0 ∨ k = 1 ∨ k = 2 ∨ k = 3 ∨ k = 4 ∨ k = 5 ∨ k = 6 ∨ k = 7 ∨ k = 8 ∨ k = 9 ∨ k = 10 ∨ k = 11 by omega) with rfl | rfl | rfl | rfl | rfl | rfl | rfl | rfl | rfl | rfl | rfl | rfl
  all_goals exact fun _ => rfl
set_option maxRecDepth 100000 in
set_option maxHeartbeats 4000000 in
theorem classesJoin_law (x : Int) (A : Option Addr) (cap : Nat) (ns : List Int) (w : World) (hs : Sane w) (hx : 0 ≤ x ∧ x ≤ 255) (hn : CameBytes w A cap ns) : Calls Try.prog 9 #[.int .u8 x, .slice A ns.length cap] w fun e w' => e = .returned (.bool true) ∧ Grows w w' := by
  have HS := Lib.hid hs
  have HN := Lib.hid hn
  have i0 : I64 0 := ⟨by omega, by omega⟩
  have hlen := hn.len
  clear hs hn
  go_enter Try.func9, Try.ntmps9
  by_cases h1 : 50 < ns.length
  · have c1 : (50 : Int) < (ns.length : Int) := by omega
    go_wp2_with fail
    (with_reducible refine (does_any _ (HS.out.grows (by repeat' first | exact Grows.refl _ | refine Grows.more ?_ _ | refine Grows.alloc ?_ _ | refine Grows.drewN ?_ _ | refine Grows.drew ?_))).mono ?_)
    rintro e w3 ⟨rfl, m3, rfl⟩
    go_wp2_with fail
    go_ret
    exact ⟨rfl, (by repeat' first | exact Grows.refl _ | refine Grows.more ?_ _ | refine Grows.alloc ?_ _ | refine Grows.drewN ?_ _ | refine Grows.drew ?_)⟩
  have c1 : ¬(50 : Int) < (ns.length : Int) := by omega
  obtain ⟨u, rfl⟩ : ∃ u : Nat, x = u := ⟨x.toNat, by omega⟩
  have hk : u % 12 < 12 := Nat.mod_lt _ (by omega)
  have hmod : Int.tmod (u : Int) 12 = ((u % 12 : Nat) : Int) := by rw [Int.tmod_eq_emod_of_nonneg (by omega)]; rfl
  have hat := nm_at (u % 12) hk
  obtain ⟨n1, n2, n3⟩ := nmL_is (u % 12) hk
  generalize u % 12 = k at *
  generalize nmL.getD k [] = n at *
  have k0 : (0 : Int) ≤ (k : Int) := by omega
  have k1 : (k : Int) < 12 := by omega
  have HN1 := Lib.hid n1
  have HN2 := Lib.hid n2
  have HN3 := Lib.hid n3
  clear n1 n2 n3
  go_wp2_with fail
  have hg1 : Grows w (w.alloc (.cells #[.string ⟨#[108, 111, 119, 101, 114]⟩, .string ⟨#[117, 112, 112, 101, 114]⟩, .string ⟨#[97, 108, 112, 104, 97]⟩, .string ⟨#[100, 105, 103, 105, 116]⟩, .string ⟨#[97, 108, 110, 117, 109]⟩, .string ⟨#[120, 100, 105, 103, 105, 116]⟩, .string ⟨#[115, 112, 97, 99, 101]⟩, .string ⟨#[98, 108, 97, 110, 107]⟩, .string ⟨#[99, 110, 116, 114, 108]⟩, .string ⟨#[103, 114, 97, 112, 104]⟩, .string ⟨#[112, 114, 105, 110, 116]⟩, .string ⟨#[112, 117, 110, 99, 116]⟩] 9)) := (Grows.refl _).alloc _
  have hs1 : (w.alloc (.cells #[.string ⟨#[108, 111, 119, 101, 114]⟩, .string ⟨#[117, 112, 112, 101, 114]⟩, .string ⟨#[97, 108, 112, 104, 97]⟩, .string ⟨#[100, 105, 103, 105, 116]⟩, .string ⟨#[97, 108, 110, 117, 109]⟩, .string ⟨#[120, 100, 105, 103, 105, 116]⟩, .string ⟨#[115, 112, 97, 99, 101]⟩, .string ⟨#[98, 108, 97, 110, 107]⟩, .string ⟨#[99, 110, 116, 114, 108]⟩, .string ⟨#[103, 114, 97, 112, 104]⟩, .string ⟨#[112, 114, 105, 110, 116]⟩, .string ⟨#[112, 117, 110, 99, 116]⟩] 9)).heap.size = w.heap.size + 1 := by simp
  generalize w.alloc (.cells #[.string ⟨#[108, 111, 119, 101, 114]⟩, .string ⟨#[117, 112, 112, 101, 114]⟩, .string ⟨#[97, 108, 112, 104, 97]⟩, .string ⟨#[100, 105, 103, 105, 116]⟩, .string ⟨#[97, 108, 110, 117, 109]⟩, .string ⟨#[120, 100, 105, 103, 105, 116]⟩, .string ⟨#[115, 112, 97, 99, 101]⟩, .string ⟨#[98, 108, 97, 110, 107]⟩, .string ⟨#[99, 110, 116, 114, 108]⟩, .string ⟨#[103, 114, 97, 112, 104]⟩, .string ⟨#[112, 114, 105, 110, 116]⟩, .string ⟨#[112, 117, 110, 99, 116]⟩] 9) = w1 at *
  have HG1 := Lib.hid hg1
  clear hg1 hs1 hat
  (with_reducible refine (class_any _ _).mono ?_)
  rw [HN2.out]
  rintro e w2 ⟨rfl, hg2⟩
  have HG2 := Lib.hid (HG1.out.trans hg2)
  clear hg2 HG1
  rw [← join_nil]
  go_wp2_with fail
  go_loopg [9, 10] ns.length (fun q v9 v10 wr => ∃ (i : Nat) (m : More), q + i = ns.length ∧ v9 = .string (tx (91 :: lets (ns.take i))) ∧ v10 = .int .i64 i ∧ wr = more (w2.alloc (.cells (SA (joinP (classP (tx n)) (lets (ns.take i)))) 22)) m)
  case atStart => exact ⟨0, _, by omega, rfl, rfl, more_self _⟩
  case round =>
    obtain ⟨i, m, hq, rfl, rfl, rfl⟩ := hrel
    have HQ := Lib.hid hq
    have hib : i ≤ 50 := by omega
    clear hq
    have hll : (lets (ns.take i)).length ≤ 50 := by simp [lets]; omega
    by_cases h3 : i < ns.length
    · have i1 : (i : Int) < (ns.length : Int) := by omega
      have i2 : (0 : Int) ≤ (i : Int) := by omega
      obtain ⟨b, o, rfl, hb, hc⟩ := (HN.out.grows HG2.out).at_ i h3
      have hb : InHeap b w2 := hb
      have he := HN.out.each ns[i] (List.getElem_mem h3)
      obtain ⟨z, hz⟩ : ∃ z : Nat, ns[i] = z := ⟨ns[i].toNat, by omega⟩
      have hts : lets (ns.take (i + 1)) = lets (ns.take i) ++ [let8 z] := by
        unfold lets
        rw [List.take_add_one, List.getElem?_eq_getElem h3, List.map_append, hz]
        simp
      have HTS := Lib.hid hts
      rw [hz] at hc he
      have hL := letN_is z
      have hL8 := let8_nat z
      have hL1 : letN z < 256 := by omega
      have hL2 : (letN z : Int) < 256 := by omega
      have hL3 : (0 : Int) ≤ (letN z : Int) := by omega
      have hput := join_put (classP (tx n)) (lets (ns.take i)) (let8 z) (letN z) hL8.symm
      generalize hl : lets (ns.take i) = l at *
      have hcat : tx (91 :: l) ++ tx [let8 z] = tx (91 :: (l ++ [let8 z])) := tx_append _ _
      have hcv : ∀ (W : World) (n : Nat), (convert 32 9 (.slice (some ⟨W.heap.size, 0, none⟩) 1 n)).run Try.prog (W.alloc (.cells #[.int .u8 (letN z : Nat)] 5)) = .ok (.string (tx [let8 z])) (W.alloc (.cells #[.int .u8 (letN z : Nat)] 5)) := fun W n => run_conv [let8 z] _ _ _ _ rfl (fun j hj => by
        have : j = 0 := by simp at hj; omega
        subst this
        simp [go_sem, hL8])
      have hcv2 := hcv (more (w2.alloc (.cells (SA (joinP (classP (tx n)) l)) 22)) m) 1
      have hWs : (more (w2.alloc (.cells (SA (joinP (classP (tx n)) l)) 22)) m).heap.size = w2.heap.size + 1 + m.bs.size := by simp
      rw [hWs] at hcv2
      clear hts hz h1 hcv hWs hL8 hl
      go_wp2_with fail
      (with_reducible refine (letter_any z _ (by omega)).mono ?_)
      rintro e w3 ⟨rfl, rfl⟩
      go_wp2_with fail
      (with_reducible refine (letter_any z _ (by omega)).mono ?_)
      rintro e w3 ⟨rfl, rfl⟩
      go_wp2_with fail
      go_roundg (gk - 1)
      case measure => have := HQ.out; omega
      case rel => exact ⟨i + 1, _, by have := HQ.out; omega, by rw [HTS.out], by go_num, by rw [HTS.out, alloc_more]⟩
    · have i1 : ¬(i : Int) < (ns.length : Int) := by omega
      have hti : ns.take i = ns := List.take_of_length_le (by omega)
      rw [hti]
      rw [hti] at hll
      obtain ⟨p1, p2⟩ := join_first n (lets ns) HN1.out HN2.out (lets_is ns)
      obtain ⟨p3, p4⟩ := join_second n (lets ns) HN1.out HN2.out (lets_is ns)
      have hnl : (lets ns).length = ns.length := by simp [lets]
      have hn6 := HN3.out
      generalize hl : lets ns = l at *
      have a1 : tx (91 :: l) ++ ⟨#[91, 58]⟩ = tx (91 :: (l ++ [91, 58])) := tx_append _ [91, 58]
      have a2 : tx (91 :: (l ++ [91, 58])) ++ tx n = tx (91 :: (l ++ (91 :: 58 :: n))) := by rw [tx_append]; simp
      have a3 : tx (91 :: (l ++ (91 :: 58 :: n))) ++ ⟨#[58, 93, 93]⟩ = tx (91 :: (l ++ (91 :: 58 :: (n ++ [58, 93, 93])))) := by rw [show (⟨#[58, 93, 93]⟩ : ByteArray) = tx [58, 93, 93] from rfl, tx_append]; simp
      have b1 : (⟨#[91, 91, 58]⟩ : ByteArray) ++ tx n = tx (91 :: 91 :: 58 :: n) := tx_append [91, 91, 58] n
      have b2 : tx (91 :: 91 :: 58 :: n) ++ ⟨#[58, 93]⟩ = tx (91 :: 91 :: 58 :: (n ++ [58, 93])) := tx_append _ [58, 93]
      have b3 : tx (91 :: 91 :: 58 :: (n ++ [58, 93])) ++ tx l = tx (91 :: 91 :: 58 :: (n ++ (58 :: 93 :: l))) := by rw [tx_append]; simp
      have b4 : tx (91 :: 91 :: 58 :: (n ++ (58 :: 93 :: l))) ++ ⟨#[93]⟩ = tx (91 :: 91 :: 58 :: (n ++ (58 :: 93 :: (l ++ [93])))) := by rw [show (⟨#[93]⟩ : ByteArray) = tx [93] from rfl, tx_append]; simp
      have b5 : (tx (91 :: l)).extract 1 (ns.length + 1) = tx l := by rw [← hnl]; exact tx_from (91 :: l) 1
      have ho1 : (91 :: (l ++ (91 :: 58 :: (n ++ [58, 93, 93]))) : List UInt8).length ≤ 1000000 := by simp; omega
      have ho2 : (91 :: 91 :: 58 :: (n ++ (58 :: 93 :: (l ++ [93]))) : List UInt8).length ≤ 1000000 := by simp; omega
      have P1 := Lib.hid p1
      have P2 := Lib.hid p2
      have P3 := Lib.hid p3
      have P4 := Lib.hid p4
      have HN2' := HN2.out
      clear hti p1 p2 p3 p4 hl
      go_wp2_with fail
      (with_reducible refine (parse_any _ 0 _ ho1 (HS.out.grows (by repeat' first | exact Grows.refl _ | exact HG2.out | refine Grows.more ?_ _ | refine Grows.alloc ?_ _ | refine Grows.drewN ?_ _ | refine Grows.drew ?_)) i0).mono ?_)
      unfold ParsePost
      rw [P1.out, P2.out]
      rintro e w3 ⟨rfl, m3, rfl⟩
      go_wp2_with fail
      (with_reducible refine (parse_any _ 0 _ ho2 (HS.out.grows (by repeat' first | exact Grows.refl _ | exact HG2.out | refine Grows.more ?_ _ | refine Grows.alloc ?_ _ | refine Grows.drewN ?_ _ | refine Grows.drew ?_)) i0).mono ?_)
      unfold ParsePost
      rw [P3.out, P4.out]
      rintro e w3 ⟨rfl, m4, rfl⟩
      go_wp2_with fail
      (with_reducible refine (does_any _ (HS.out.grows (by repeat' first | exact Grows.refl _ | exact HG2.out | refine Grows.more ?_ _ | refine Grows.alloc ?_ _ | refine Grows.drewN ?_ _ | refine Grows.drew ?_))).mono ?_)
      rintro e w3 ⟨rfl, m5, rfl⟩
      go_wp2_with fail
      go_ret
      exact ⟨rfl, (by repeat' first | exact Grows.refl _ | exact HG2.out | refine Grows.more ?_ _ | refine Grows.alloc ?_ _ | refine Grows.drewN ?_ _ | refine Grows.drew ?_)⟩
end Go.Proofs.Ytcfkniejpeakdaa
