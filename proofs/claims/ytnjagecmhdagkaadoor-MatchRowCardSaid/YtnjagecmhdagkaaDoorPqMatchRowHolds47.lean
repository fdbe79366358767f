/-
  Matches: letters, texts and patterns by numbers, walked.
-/
import Derived.Test.YtnjagecmhdagkaaDoorPk38
import Derived.Test.YtnjagecmhdagkaaDoorPqMatchRowHolds44
import Derived.Test.YtnjagecmhdagkaaDoorPqMatchRowHolds45
import Derived.Test.YtnjagecmhdagkaaDoorPqMatchRowHolds46
set_option linter.unusedSimpArgs false
set_option linter.unusedVariables false
namespace Go.Proofs.YtnjagecmhdagkaaDoor
open Go.RowKit

/-- One of three letters, by a number. -/
def abc (n : Nat) : UInt8 := UInt8.ofNat (97 + n % 3)
set_option maxRecDepth 3000 in
theorem abc_nat (n : Nat) : (abc n).toNat = 97 + n % 3 := by unfold abc; simp; omega
set_option maxRecDepth 3000 in
theorem abc_plain (n : Nat) : PlainB (abc n) := by unfold PlainB; rw [abc_nat]; omega
def txtV (ns : List Int) : List UInt8 := ns.map fun n => abc n.toNat
set_option maxRecDepth 3000 in
theorem txtV_len (ns : List Int) : (txtV ns).length = ns.length := by simp [txtV]
def rowV3 (l : List Atom3) : List Atm := l.map fun x => ⟨abc x.c, x.any, x.star⟩
set_option maxRecDepth 3000 in
theorem rowV3_plain (l : List Atom3) : PlainA (rowV3 l) := by
  intro x hx
  obtain ⟨y, _, rfl⟩ := List.mem_map.1 hx
  exact abc_plain y.c
set_option maxRecDepth 3000 in
theorem rowV3_len (l : List Atom3) : (rowV3 l).length = l.length := by simp [rowV3]
set_option maxRecDepth 3000 in
theorem run_conv1 (c : UInt8) (n : Nat) (hn : n = c.toNat) (W : World) (cap : Nat) : (convert 33 9 (.slice (some ⟨W.heap.size, 0, none⟩) 1 cap)).run Tryd.prog (W.alloc (.cells #[.int .u8 (n : Nat)] 5)) = .ok (.string (tx [c])) (W.alloc (.cells #[.int .u8 (n : Nat)] 5)) := by
  have := run_convert_bytes_back (P := Tryd.prog) (W.alloc (.cells #[.int .u8 (n : Nat)] 5)) 33 9 5 ⟨W.heap.size, 0, none⟩ cap [c] Tryd.underlying33 Tryd.underlying5 Tryd.underlying9
  refine this (fun j hj => ?_)
  have : j = 0 := by simp at hj; omega
  subst this
  rw [show (⟨W.heap.size, 0, none⟩ : Addr).add 0 = ⟨W.heap.size, 0, none⟩ by unfold Addr.add; simp]
  simp [go_sem, hn]
set_option maxRecDepth 3000 in
set_option maxHeartbeats 1000000 in
theorem abc_any (n : Nat) (w : World) (hn : n ≤ 255) : Calls Tryd.prog 26 #[.int .u8 n] w fun e w' => e = .returned (.int .u8 ((97 + n % 3 : Nat) : Int)) ∧ w = w' := by
  have hm : Int.tmod (n : Int) 3 = ((n % 3 : Nat) : Int) := by rw [Int.tmod_eq_emod_of_nonneg (by omega)]; rfl
  go_enter Tryd.func26, Tryd.ntmps26
  go_wp2_with fail
  go_ret
  refine ⟨congrArg (fun z => Ending.returned (.int .u8 z)) ?_, rfl⟩
  omega
set_option maxRecDepth 100000 in
set_option maxHeartbeats 4000000 in
theorem txt_any (A : Option Addr) (cap : Nat) (ns : List Int) (w : World) (hn : CameBytes w A cap ns) (hlen : ns.length ≤ 1000) :
    Calls Tryd.prog 12 #[.slice A ns.length cap] w fun e w' => e = .returned (.string (tx (txtV ns))) ∧ Grows w w' := by
  have HN := Lib.hid hn
  clear hn
  go_enter Tryd.func12, Tryd.ntmps12
  go_wp2_with fail
  go_loopg [3, 4] ns.length (fun q v3 v4 wr => ∃ i : Nat, i ≤ ns.length ∧ q + i = ns.length ∧ v3 = .string (tx (txtV (ns.take i))) ∧ v4 = .int .i64 i ∧ Grows w wr)
  case atStart => exact ⟨0, by omega, by omega, rfl, rfl, Grows.refl _⟩
  case round =>
    obtain ⟨i, hi, hq, rfl, rfl, hg⟩ := hrel
    have HQ := Lib.hid hq
    have HG := Lib.hid hg
    clear hq hg
    by_cases hlt : i < ns.length
    · have i1 : (i : Int) < (ns.length : Int) := by omega
      obtain ⟨b, o, rfl, hb, hc⟩ := (HN.out.grows HG.out).at_ i hlt
      have he := HN.out.each _ (List.getElem_mem hlt)
      obtain ⟨z, hz⟩ : ∃ z : Nat, ns[i] = z := ⟨ns[i].toNat, by omega⟩
      rw [hz] at hc he
      have hts : txtV (ns.take (i + 1)) = txtV (ns.take i) ++ [abc z] := by
        unfold txtV
        rw [List.take_add_one, List.getElem?_eq_getElem hlt, List.map_append, hz]
        simp
      have hll : (txtV (ns.take i)).length ≤ 1000 := by rw [txtV_len, List.length_take]; omega
      have HTS := Lib.hid hts
      have hcv := run_conv1 (abc z) (97 + z % 3) (abc_nat z).symm wr 1
      have hz3 : 97 + z % 3 < 256 := by omega
      generalize hl : txtV (ns.take i) = l at *
      have hcat : tx l ++ tx [abc z] = tx (l ++ [abc z]) := tx_append _ _
      have hcall := abc_any z wr (by omega)
      clear hts hz hl
      generalize 97 + z % 3 = y at *
      obtain ⟨wx, hwx⟩ : ∃ wx, wx = wr := ⟨_, rfl⟩
      subst hwx
      go_wp2_with fail
      (with_reducible refine hcall.mono ?_)
      rintro e w1 ⟨rfl, rfl⟩
      go_wp2_with fail
      go_roundg (gk - 1)
      case measure => have := HQ.out; omega
      case rel => exact ⟨i + 1, by omega, by have := HQ.out; omega, by rw [HTS.out], by go_num, HG.out.alloc _⟩
    · have i1 : ¬(i : Int) < (ns.length : Int) := by omega
      have hti : ns.take i = ns := List.take_of_length_le (by omega)
      rw [hti]
      go_wp2_with fail
      go_ret
      exact ⟨rfl, HG.out⟩
set_option maxRecDepth 100000 in
set_option maxHeartbeats 4000000 in
theorem patT_any (A : Option Addr) (cap : Nat) (l : List Atom3) (w : World) (hn : CameAtoms w A cap l) (hlen : l.length ≤ 1000) :
    Calls Tryd.prog 14 #[.slice A l.length cap] w fun e w' => e = .returned (.string (tx (patA (rowV3 l)))) ∧ Grows w w' := by
  have HN := Lib.hid hn
  clear hn
  go_enter Tryd.func14, Tryd.ntmps14
  go_wp2_with fail
  go_loopg [3, 4] l.length (fun q v3 v4 wr => ∃ i : Nat, i ≤ l.length ∧ q + i = l.length ∧ v3 = .string (tx (patA (rowV3 (l.take i)))) ∧ v4 = .int .i64 i ∧ Grows w wr)
  case atStart => exact ⟨0, by omega, by omega, rfl, rfl, Grows.refl _⟩
  case round =>
    obtain ⟨i, hi, hq, rfl, rfl, hg⟩ := hrel
    have HQ := Lib.hid hq
    have HG := Lib.hid hg
    clear hq hg
    by_cases hlt : i < l.length
    · have i1 : (i : Int) < (l.length : Int) := by omega
      obtain ⟨b, o, rfl, hb, hc0, hc1, hc2⟩ := (HN.out.grows HG.out).at_ i hlt
      have he := HN.out.each _ (List.getElem_mem hlt)
      have hts : patA (rowV3 (l.take (i + 1))) = patA (rowV3 (l.take i)) ++ oneA ⟨abc l[i].c, l[i].any, l[i].star⟩ := by
        unfold rowV3
        rw [List.take_add_one, List.getElem?_eq_getElem hlt, List.map_append, patA_app]
        simp [patA]
      have hll : (patA (rowV3 (l.take i))).length ≤ 2000 := by have := patA_len (rowV3 (l.take i)); rw [rowV3_len, List.length_take] at this; omega
      have HTS := Lib.hid hts
      clear hts
      generalize l[i] = x at *
      obtain ⟨c, any, star⟩ := x
      simp only [] at hc0 hc1 hc2 he HTS
      generalize hl : patA (rowV3 (l.take i)) = u at *
      clear hl
      obtain ⟨wx, hwx⟩ : ∃ wx, wx = wr := ⟨_, rfl⟩
      subst hwx
      cases any with
      | true =>
        have k1 : tx u ++ (⟨#[46]⟩ : ByteArray) = tx (u ++ [46]) := tx_append _ [46]
        have k2 : tx (u ++ [46]) ++ (⟨#[42]⟩ : ByteArray) = tx (u ++ [46] ++ [42]) := tx_append _ [42]
        have l2 : (u ++ [46]).length ≤ 2001 := by simp; omega
        cases star with
        | true =>
          go_wp2_with fail
          go_roundg (gk - 1)
          case measure => have := HQ.out; omega
          case rel => exact ⟨i + 1, by omega, by have := HQ.out; omega, by rw [HTS.out]; simp [oneA], by go_num, HG.out⟩
        | false =>
          go_wp2_with fail
          go_roundg (gk - 1)
          case measure => have := HQ.out; omega
          case rel => exact ⟨i + 1, by omega, by have := HQ.out; omega, by rw [HTS.out]; simp [oneA], by go_num, HG.out⟩
      | false =>
        have hcv := run_conv1 (abc c) (97 + c % 3) (abc_nat c).symm wx 1
        have hz3 : 97 + c % 3 < 256 := by omega
        have k1 : tx u ++ tx [abc c] = tx (u ++ [abc c]) := tx_append _ _
        have k2 : tx (u ++ [abc c]) ++ (⟨#[42]⟩ : ByteArray) = tx (u ++ [abc c] ++ [42]) := tx_append _ [42]
        have l2 : (u ++ [abc c]).length ≤ 2001 := by simp; omega
        have hcall := abc_any c wx (by omega)
        have hc3 : (wx.alloc (.cells #[.int .u8 ((97 + c % 3 : Nat) : Int)] 5)).cell? ⟨b, o + i * 3 + 2, none⟩ = some (.bool star) := cellG hc2 ((Grows.refl _).alloc _)
        generalize 97 + c % 3 = y at *
        cases star with
        | true =>
          go_wp2_with fail
          (with_reducible refine hcall.mono ?_)
          rintro e w1 ⟨rfl, rfl⟩
          go_wp2_with fail
          go_roundg (gk - 1)
          case measure => have := HQ.out; omega
          case rel => exact ⟨i + 1, by omega, by have := HQ.out; omega, by rw [HTS.out]; simp [oneA], by go_num, HG.out.alloc _⟩
        | false =>
          go_wp2_with fail
          (with_reducible refine hcall.mono ?_)
          rintro e w1 ⟨rfl, rfl⟩
          go_wp2_with fail
          go_roundg (gk - 1)
          case measure => have := HQ.out; omega
          case rel => exact ⟨i + 1, by omega, by have := HQ.out; omega, by rw [HTS.out]; simp [oneA], by go_num, HG.out.alloc _⟩
    · have i1 : ¬(i : Int) < (l.length : Int) := by omega
      have hti : l.take i = l := List.take_of_length_le (by omega)
      rw [hti]
      go_wp2_with fail
      go_ret
      exact ⟨rfl, HG.out⟩
end Go.Proofs.YtnjagecmhdagkaaDoor
