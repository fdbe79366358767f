/-
  Classes: the law ClassesList.
-/
import Derived.Test.YtcfkniejpeakdaaClsLetters
import Derived.Test.YtcfkniejpeakdaaOpenBytes
import Derived.Test.YtcfkniejpeakdaaClsRefParse
import Derived.Laws.IdiomStrings
namespace Go.Proofs.Ytcfkniejpeakdaa
open Go.RowKit

attribute [local go_sem] tx_bt SA_getElem
attribute [local go_sem ↓] zero22
attribute [local go_sem] equal22
theorem run_conv (l : List UInt8) (w : World) (g n cap : Nat) (hn : n = l.length) (hc : ∀ j (hj : j < l.length), w.cell? ⟨g, j, none⟩ = some (.int .u8 (l[j].toNat : Int))) :
    (convert 32 9 (.slice (some ⟨g, 0, none⟩) n cap)).run Try.prog w = .ok (.string (tx l)) w := by
  subst hn
  have := run_convert_bytes_back (P := Try.prog) w 32 9 5 ⟨g, 0, none⟩ cap l Try.underlying32 Try.underlying5 Try.underlying9
  exact this (fun j hj => by rw [show (⟨g, 0, none⟩ : Addr).add j = ⟨g, j, none⟩ by unfold Addr.add; split <;> simp_all]; exact hc j hj)
theorem any_put (l : List UInt8) (c : UInt8) (n : Nat) (hn : n = c.toNat) : (SA (anyIs l)).setIfInBounds n (.bool true) = SA (anyIs (l ++ [c])) := by
  subst hn
  rw [set_SA]
  refine SA_ext fun d _ => ?_
  by_cases h : d = c.toNat
  · subst h; simp [anyIs]
  · have h2 : ¬c.toNat = d := fun e => h e.symm
    simp [anyIs, h, h2]
/-- From a up to below j. -/
def rng (a j : Nat) : Nat → Bool := fun c => decide (a ≤ c) && decide (c < j)
theorem rng_start (a : Nat) : SA (rng a a) = SA fun _ => false := SA_ext fun c _ => by
  unfold rng
  by_cases h : a ≤ c
  · have h2 : ¬c < a := by omega
    simp [h, h2]
  · simp [h]
theorem rng_put (a j : Nat) (h : a ≤ j) : (SA (rng a j)).setIfInBounds j (.bool true) = SA (rng a (j + 1)) := by
  rw [set_SA]
  refine SA_ext fun c _ => ?_
  unfold rng
  rw [Bool.eq_iff_iff]
  by_cases h1 : c = j
  · subst h1; simp; omega
  · simp only [if_neg h1, Bool.and_eq_true, decide_eq_true_eq]; omega
theorem rng_end (a b : Nat) : SA (rng a (b + 1)) = SA fun c : Nat => spanP a b c := SA_ext fun c _ => by
  rw [Bool.eq_iff_iff]
  simp only [rng, spanP, Bool.and_eq_true, decide_eq_true_eq]; omega
/-- The letters of numbers. -/
def lets (ns : List Int) : List UInt8 := ns.map fun n => let8 n.toNat
theorem lets_is (ns : List Int) : ∀ c ∈ lets ns, IsLet c := by
  intro c hc
  obtain ⟨n, _, rfl⟩ := List.mem_map.1 hc
  exact let8_is _
set_option maxRecDepth 100000 in
set_option maxHeartbeats 4000000 in
theorem classesList_law (A : Option Addr) (cap : Nat) (ns : List Int) (x y : Int) (w : World) (hs : Sane w) (hn : CameBytes w A cap ns) (hx : 0 ≤ x ∧ x ≤ 255) (hy : 0 ≤ y ∧ y ≤ 255) : Calls Try.prog 7 #[.slice A ns.length cap, .int .u8 x, .int .u8 y] w fun e w' => e = .returned (.bool true) ∧ Grows w w' := by
  have HS := Lib.hid hs
  have HN := Lib.hid hn
  have i0 : I64 0 := ⟨by omega, by omega⟩
  have hlen := hn.len
  clear hs hn
  go_enter Try.func7, Try.ntmps7
  by_cases h1 : 100 < ns.length
  · have c1 : (100 : Int) < (ns.length : Int) := by omega
    go_wp2_with fail
    (with_reducible refine (does_any _ (HS.out.grows (by repeat' first | exact Grows.refl _ | refine Grows.more ?_ _ | refine Grows.alloc ?_ _ | refine Grows.drewN ?_ _ | refine Grows.drew ?_))).mono ?_)
    rintro e w3 ⟨rfl, m3, rfl⟩
    go_wp2_with fail
    go_ret
    exact ⟨rfl, (by repeat' first | exact Grows.refl _ | refine Grows.more ?_ _ | refine Grows.alloc ?_ _ | refine Grows.drewN ?_ _ | refine Grows.drew ?_)⟩
  have c1 : ¬(100 : Int) < (ns.length : Int) := by omega
  by_cases h2 : ns.length = 0
  · have c2 : ((ns.length : Int) == 0) = true := by rw [h2]; rfl
    go_wp2_with fail
    (with_reducible refine (does_any _ (HS.out.grows (by repeat' first | exact Grows.refl _ | refine Grows.more ?_ _ | refine Grows.alloc ?_ _ | refine Grows.drewN ?_ _ | refine Grows.drew ?_))).mono ?_)
    rintro e w3 ⟨rfl, m3, rfl⟩
    go_wp2_with fail
    go_ret
    exact ⟨rfl, (by repeat' first | exact Grows.refl _ | refine Grows.more ?_ _ | refine Grows.alloc ?_ _ | refine Grows.drewN ?_ _ | refine Grows.drew ?_)⟩
  have c2 : ((ns.length : Int) == 0) = false := by rw [beq_eq_false_iff_ne]; omega
  go_wp2_with fail
  go_loopg [7, 10, 11] ns.length (fun q v7 v10 _ wr => ∃ (i : Nat) (m : More), q + i = ns.length ∧ v7 = .string (tx (91 :: lets (ns.take i))) ∧ v10 = .int .i64 i ∧ wr = more ((w.alloc (.cells (SA (anyIs (lets (ns.take i)))) 22)).alloc (.cells (SA fun _ => false) 22)) m)
  case atStart => exact ⟨0, _, by omega, rfl, rfl, more_self _⟩
  case round =>
    obtain ⟨i, m, hq, rfl, rfl, rfl⟩ := hrel
    have HQ := Lib.hid hq
    have hib : i ≤ 100 := by omega
    clear hq
    have hll : (lets (ns.take i)).length ≤ 100 := by simp [lets]; omega
    by_cases h3 : i < ns.length
    · have i1 : (i : Int) < (ns.length : Int) := by omega
      have i2 : (0 : Int) ≤ (i : Int) := by omega
      obtain ⟨b, o, rfl, hb, hc⟩ := HN.out.at_ i h3
      have hb : InHeap b w := hb
      have he := HN.out.each ns[i] (List.getElem_mem h3)
      obtain ⟨z, hz⟩ : ∃ z : Nat, ns[i] = z := ⟨ns[i].toNat, by omega⟩
      have hts : lets (ns.take (i + 1)) = lets (ns.take i) ++ [let8 z] := by
        unfold lets
        rw [List.take_add_one, List.getElem?_eq_getElem h3, List.map_append, hz]
        simp
      have HTS := Lib.hid hts
      rw [hz] at hc he
      have hL := letN_is z
      have hL8 := let8_nat z
      have hL1 : letN z < 256 := by omega
      have hL2 : (letN z : Int) < 256 := by omega
      have hL3 : (0 : Int) ≤ (letN z : Int) := by omega
      have hput := any_put (lets (ns.take i)) (let8 z) (letN z) hL8.symm
      generalize hl : lets (ns.take i) = l at *
      have hcat : tx (91 :: l) ++ tx [let8 z] = tx (91 :: (l ++ [let8 z])) := tx_append _ _
      have hcv : ∀ (W : World) (n : Nat), (convert 32 9 (.slice (some ⟨W.heap.size, 0, none⟩) 1 n)).run Try.prog (W.alloc (.cells #[.int .u8 (letN z : Nat)] 5)) = .ok (.string (tx [let8 z])) (W.alloc (.cells #[.int .u8 (letN z : Nat)] 5)) := fun W n => run_conv [let8 z] _ _ _ _ rfl (fun j hj => by
        have : j = 0 := by simp at hj; omega
        subst this
        simp [go_sem, hL8])
      have hcv2 := hcv (more ((w.alloc (.cells (SA (anyIs l)) 22)).alloc (.cells (SA fun _ => false) 22)) m) 1
      have hWs : (more ((w.alloc (.cells (SA (anyIs l)) 22)).alloc (.cells (SA fun _ => false) 22)) m).heap.size = w.heap.size + 1 + 1 + m.bs.size := by simp
      rw [hWs] at hcv2
      clear hts hz h1 h2 hcv hWs
      go_wp2_with fail
      (with_reducible refine (letter_any z _ (by omega)).mono ?_)
      rintro e w1 ⟨rfl, rfl⟩
      go_wp2_with fail
      go_roundg (gk - 1)
      case measure => have := HQ.out; omega
      case rel => exact ⟨i + 1, _, by have := HQ.out; omega, by rw [HTS.out], by go_num, by rw [HTS.out, alloc_more]⟩
    · have i1 : ¬(i : Int) < (ns.length : Int) := by omega
      have hti : ns.take i = ns := List.take_of_length_le (by omega)
      rw [hti]
      rw [hti] at hll
      have hne : lets ns ≠ [] := by
        intro h
        have := congrArg List.length h
        simp [lets] at this
        rw [this] at h2; simp at h2
      obtain ⟨hp1, hp2⟩ := parse_letters (lets ns) hne (lets_is ns)
      have hnl : (lets ns).length = ns.length := by simp [lets]
      generalize hl : lets ns = l at *
      have hcat : tx (91 :: l) ++ ⟨#[93]⟩ = tx (91 :: (l ++ [93])) := by rw [show (⟨#[93]⟩ : ByteArray) = tx [93] from rfl, tx_append]; rfl
      have hcat2 : tx (91 :: l) ++ tx [93] = tx (91 :: (l ++ [93])) := tx_append _ _
      have hol : (91 :: (l ++ [93]) : List UInt8).length ≤ 1000000 := by simp; omega
      have HP1 := Lib.hid hp1
      have HP2 := Lib.hid hp2
      clear hti hne hp1 hp2 hl h2
      go_wp2_with fail
      (with_reducible refine (parse_any _ 0 _ hol (HS.out.grows (by repeat' first | exact Grows.refl _ | refine Grows.more ?_ _ | refine Grows.alloc ?_ _ | refine Grows.drewN ?_ _ | refine Grows.drew ?_)) i0).mono ?_)
      unfold ParsePost
      rw [HP1.out, HP2.out]
      rintro e w1 ⟨rfl, m1, rfl⟩
      obtain ⟨u, rfl⟩ : ∃ u : Nat, x = u := ⟨x.toNat, by omega⟩
      obtain ⟨v, rfl⟩ : ∃ v : Nat, y = v := ⟨y.toNat, by omega⟩
      go_wp2_with fail
      (with_reducible refine (letter_any u _ (by omega)).mono ?_)
      rintro e w2 ⟨rfl, rfl⟩
      go_wp2_with fail
      (with_reducible refine (letter_any v _ (by omega)).mono ?_)
      rintro e w2 ⟨rfl, rfl⟩
      have hA := let8_nat u
      have hB := let8_nat v
      obtain ⟨hr1, hr2⟩ := parse_range (let8 u) (let8 v) (let8_is u) (let8_is v)
      rw [hA, hB] at hr1 hr2
      have hab := letN_is u
      have hbb := letN_is v
      have hcv : ∀ (W : World) (n : Nat), (convert 32 9 (.slice (some ⟨W.heap.size, 0, none⟩) 3 n)).run Try.prog (W.alloc (.cells #[.int .u8 (letN u : Nat), .int .u8 45, .int .u8 (letN v : Nat)] 5)) = .ok (.string (tx [let8 u, 45, let8 v])) (W.alloc (.cells #[.int .u8 (letN u : Nat), .int .u8 45, .int .u8 (letN v : Nat)] 5)) := fun W n => run_conv [let8 u, 45, let8 v] _ _ _ _ rfl (fun j hj => by
        rcases (show j = 0 ∨ j = 1 ∨ j = 2 by simp at hj; omega) with rfl | rfl | rfl <;> simp [go_sem, hA, hB])
      have hcv2 := hcv ((more (more ((w.alloc (.cells (SA (anyIs l)) 22)).alloc (.cells (SA fun _ => false) 22)) m) m1).alloc (.cells (SA (anyIs l)) 22)) 3
      have hWs : ((more (more ((w.alloc (.cells (SA (anyIs l)) 22)).alloc (.cells (SA fun _ => false) 22)) m) m1).alloc (.cells (SA (anyIs l)) 22)).heap.size = w.heap.size + 1 + 1 + m.bs.size + m1.bs.size + 1 := by simp
      rw [hWs] at hcv2
      have hc3 : (⟨#[91]⟩ : ByteArray) ++ tx [let8 u, 45, let8 v] = tx [91, let8 u, 45, let8 v] := by rw [show (⟨#[91]⟩ : ByteArray) = tx [91] from rfl, tx_append]; rfl
      have hc4 : tx [91, let8 u, 45, let8 v] ++ ⟨#[93]⟩ = tx [91, let8 u, 45, let8 v, 93] := by rw [show (⟨#[93]⟩ : ByteArray) = tx [93] from rfl, tx_append]; rfl
      have hc5 : tx [91, let8 u, 45, let8 v] ++ tx [93] = tx [91, let8 u, 45, let8 v, 93] := tx_append _ _
      have hc6 : tx [91] ++ tx [let8 u, 45, let8 v] = tx [91, let8 u, 45, let8 v] := tx_append _ _
      clear hcv hWs hA hB
      have HR1 := Lib.hid hr1
      have HR2 := Lib.hid hr2
      clear hr1 hr2
      go_wp2_with fail
      (with_reducible refine (parse_any [91, let8 u, 45, let8 v, 93] 0 _ (by simp) (HS.out.grows (by repeat' first | exact Grows.refl _ | refine Grows.more ?_ _ | refine Grows.alloc ?_ _ | refine Grows.drewN ?_ _ | refine Grows.drew ?_)) i0).mono ?_)
      unfold ParsePost
      generalize letN u = a at *
      generalize letN v = b at *
      by_cases hle : a ≤ b
      · obtain ⟨q1, q2⟩ := HR1.out hle
        rw [q1, q2]
        rintro e w2 ⟨rfl, m2, rfl⟩
        have HEND := Lib.hid (rng_end a b)
        clear q1 q2 HR1 HR2
        go_wp2_with fail
        go_loopg [20] 400 (fun q v20 wr => ∃ j : Nat, q + j = 400 + a ∧ a ≤ j ∧ j ≤ b + 1 ∧ v20 = .int .i64 j ∧ wr = (more (((more (more ((w.alloc (.cells (SA (anyIs l)) 22)).alloc (.cells (SA (rng a j)) 22)) m) m1).alloc (.cells (SA (anyIs l)) 22)).alloc (.cells #[.int .u8 (a : Nat), .int .u8 45, .int .u8 (b : Nat)] 5)) m2).alloc (.cells (SA (fun c : Nat => spanP a b c)) 22))
        case atStart => exact ⟨a, by omega, by omega, by omega, rfl, by rw [rng_start]⟩
        case round =>
          obtain ⟨j, hq, hj1, hj2, rfl, rfl⟩ := hrel
          have HQ := Lib.hid hq
          clear hq
          have j0 : (0 : Int) ≤ (j : Int) := by omega
          by_cases h5 : j ≤ b
          · have j1 : (j : Int) ≤ (b : Int) := by omega
            have j2 : j < 256 := by omega
            have j3 : (j : Int) < 256 := by omega
            have hput := rng_put a j hj1
            go_wp2_with fail
            go_roundg (gk - 1)
            case measure => have := HQ.out; omega
            case rel => exact ⟨j + 1, by have := HQ.out; omega, by omega, by omega, by go_num, rfl⟩
          · have j1 : ¬(j : Int) ≤ (b : Int) := by omega
            have hjb : j = b + 1 := by omega
            subst hjb
            rw [HEND.out]
            have d1 : ¬(b : Int) < (a : Int) := by omega
            have d2 : decide ((b : Int) < (a : Int)) = false := by simp; omega
            go_wp2_with fail
            (with_reducible refine (does_any _ (HS.out.grows (by repeat' first | exact Grows.refl _ | refine Grows.more ?_ _ | refine Grows.alloc ?_ _ | refine Grows.drewN ?_ _ | refine Grows.drew ?_))).mono ?_)
            rintro e w3 ⟨rfl, m3, rfl⟩
            go_wp2_with fail
            go_ret
            exact ⟨rfl, (by repeat' first | exact Grows.refl _ | refine Grows.more ?_ _ | refine Grows.alloc ?_ _ | refine Grows.drewN ?_ _ | refine Grows.drew ?_)⟩
      · rw [HR2.out hle]
        rintro e w2 ⟨rfl, m2, rfl⟩
        clear HR1 HR2
        go_wp2_with fail
        go_loopg [20] 1 (fun q v20 wr => v20 = .int .i64 a ∧ wr = (more (((more (more ((w.alloc (.cells (SA (anyIs l)) 22)).alloc (.cells (SA fun _ => false) 22)) m) m1).alloc (.cells (SA (anyIs l)) 22)).alloc (.cells #[.int .u8 (a : Nat), .int .u8 45, .int .u8 (b : Nat)] 5)) m2).alloc (.cells (SA fun _ => false) 22))
        case atStart => exact ⟨rfl, rfl⟩
        case round =>
          obtain ⟨rfl, rfl⟩ := hrel
          have j1 : ¬(a : Int) ≤ (b : Int) := by omega
          have d1 : (b : Int) < (a : Int) := by omega
          go_wp2_with fail
          (with_reducible refine (does_any _ (HS.out.grows (by repeat' first | exact Grows.refl _ | refine Grows.more ?_ _ | refine Grows.alloc ?_ _ | refine Grows.drewN ?_ _ | refine Grows.drew ?_))).mono ?_)
          rintro e w3 ⟨rfl, m3, rfl⟩
          go_wp2_with fail
          go_ret
          exact ⟨rfl, (by repeat' first | exact Grows.refl _ | refine Grows.more ?_ _ | refine Grows.alloc ?_ _ | refine Grows.drewN ?_ _ | refine Grows.drew ?_)⟩
end Go.Proofs.Ytcfkniejpeakdaa
