/-
  Keys: the law KeysFirst.
-/
import Derived.Test.YtljahcdnleefbaaKeysFirstPlain
namespace Go.Proofs.Ytljahcdnleefbaa
open Go.RowKit

/-- The ends that are tried. -/
def endB (k : Nat) : ByteArray :=
  if k = 0 then ⟨#[120]⟩ else if k = 1 then ⟨#[119]⟩ else if k = 2 then ⟨#[49, 119]⟩ else if k = 3 then ⟨#[97, 119]⟩ else if k = 4 then ⟨#[100, 100]⟩ else if k = 5 then ⟨#[121, 121]⟩ else if k = 6 then ⟨#[99, 99]⟩ else if k = 7 then ⟨#[60, 60]⟩ else ⟨#[62, 62]⟩
def endsC : Array Value := #[.string ⟨#[120]⟩, .string ⟨#[119]⟩, .string ⟨#[49, 119]⟩, .string ⟨#[97, 119]⟩, .string ⟨#[100, 100]⟩, .string ⟨#[121, 121]⟩, .string ⟨#[99, 99]⟩, .string ⟨#[60, 60]⟩, .string ⟨#[62, 62]⟩]
theorem endsC_at (k : Nat) (h : k < 9) : endsC[k]? = some (.string (endB k)) ∧ (endB k).size ≤ 2 := by
  match k, h with
  | 0, _ => exact ⟨rfl, by decide⟩
  | 1, _ => exact ⟨rfl, by decide⟩
  | 2, _ => exact ⟨rfl, by decide⟩
  | 3, _ => exact ⟨rfl, by decide⟩
  | 4, _ => exact ⟨rfl, by decide⟩
  | 5, _ => exact ⟨rfl, by decide⟩
  | 6, _ => exact ⟨rfl, by decide⟩
  | 7, _ => exact ⟨rfl, by decide⟩
  | 8, _ => exact ⟨rfl, by decide⟩
/-- Has one of the first k ends made a command? -/
def hits (s : ByteArray) : Nat → Bool
  | 0 => false
  | k + 1 => hits s k || (parseV (codes s ++ codes (endB k))).2.2 == 1
theorem hits_all (s : ByteArray) (h : (parseV (codes s ++ [120])).2.2 = 1 ∨ (parseV (codes s ++ [119])).2.2 = 1 ∨ (parseV (codes s ++ [97, 119])).2.2 = 1) : hits s 9 = true := by
  have e0 : codes (endB 0) = [120] := rfl
  have e1 : codes (endB 1) = [119] := rfl
  have e3 : codes (endB 3) = [97, 119] := rfl
  simp only [hits, e0, e1, e3]
  rcases h with h | h | h <;> simp [h]
theorem codes_append (a b : ByteArray) : codes (a ++ b) = codes a ++ codes b := by simp [codes]
theorem alloc_more (w : World) (m : More) (o : Obj) : (more w m).alloc o = more w ⟨m.1.push o, m.2⟩ := by simp [more, World.alloc]

theorem codes_take (s : ByteArray) (k : Nat) : codes (s.extract 0 k) = (codes s).take k := by
  simp [codes, ByteArray.data_extract, Array.toList_extract, List.map_take]
/-- A text of one byte. -/
def one (n : Int) : ByteArray := strOfNums [n]
theorem size_one (n : Int) : (one n).size = 1 := rfl
theorem conv_one (W : World) (n : Int) (g : Nat) (h : g = W.heap.size) : (convert 28 9 (.slice (some ⟨g, 0, none⟩) 1 1)).run Try.prog (W.alloc (.cells #[.int .u8 n] 5)) = .ok (.string (one n)) (W.alloc (.cells #[.int .u8 n] 5)) := by
  subst h
  exact run_convert_bytes_arg _ 28 5 Try.underlying28 Try.underlying5 _ 0 1 1 [n] rfl (fun i hi => by
    obtain rfl : i = 0 := by omega
    simp [World.cell?_alloc_new]) 9 Try.underlying9
attribute [local go_sem] conv_one
set_option maxHeartbeats 1000000 in
set_option maxRecDepth 100000 in
theorem keysFirst_any (s t : ByteArray) (w : World) (hs : s.size ≤ 9223372036854775807) (ht : t.size ≤ 9223372036854775807) : Calls Try.prog 3 #[.string s, .string t] w fun e w' => e = .returned (.bool true) ∧ Grows w w' := by
  by_cases h40 : 40 < s.size ∨ 40 < t.size
  · rcases h40 with h40 | h40
    · go_enter Try.func3, Try.ntmps3
      go_wp2_with fail
      (with_reducible refine (lives_any _).mono ?_); rintro e w' ⟨rfl, m', rfl⟩
      go_wp2_with fail
      go_ret
      exact ⟨rfl, (Grows.refl _).more _⟩
    · by_cases h41 : 40 < s.size
      all_goals
        go_enter Try.func3, Try.ntmps3
        go_wp2_with fail
        (with_reducible refine (lives_any _).mono ?_); rintro e w' ⟨rfl, m', rfl⟩
        go_wp2_with fail
        go_ret
        exact ⟨rfl, (Grows.refl _).more _⟩
  · have h41 : s.size ≤ 40 := by omega
    have h42 : t.size ≤ 40 := by omega
    clear h40
    obtain ⟨⟨a, b, x, d, f⟩, n, z, hp⟩ : ∃ k n z, parseV (codes s) = (k, n, z) := ⟨_, _, _, rfl⟩
    have HP := Lib.hid hp
    clear hp
    by_cases hz : z = 0
    · subst hz
      have hm := parse_more s (by rw [HP.out])
      rw [HP.out] at hm
      obtain ⟨hm1, hm2⟩ := hm
      simp only [key0, Prod.mk.injEq, Key.mk.injEq] at hm1
      obtain ⟨⟨rfl, rfl, rfl, rfl, rfl⟩, rfl, -⟩ := hm1
      have HM := Lib.hid hm2
      clear hm2
      go_enter Try.func3, Try.ntmps3
      go_wp2_with fail
      (with_reducible refine (parse_any s _ (by omega)).mono ?_)
      rw [HP.out]
      simp only [keyC]
      rintro e w1 ⟨rfl, m, rfl⟩
      go_wp2_with fail
      go_loopg [8, 10] 9 (fun q v u wr => ∃ k : Nat, q + k = 9 ∧ v = .bool (hits s k) ∧ u = .int .i64 k ∧ ∃ m', wr = more (((more w m).alloc (.cells #[.int .u8 0, .int .i64 0, .int .u8 0, .int .u8 0, .int .u8 0] 24)).alloc (.cells endsC 9)) m')
      case atStart => exact ⟨0, rfl, rfl, rfl, _, more_self _⟩
      case round =>
        obtain ⟨k, hk, rfl, rfl, m', rfl⟩ := hrel
        have HK := Lib.hid hk
        by_cases hk9 : k < 9
        · obtain ⟨hc1, hc2⟩ := endsC_at k hk9
          clear hk
          obtain ⟨⟨a1, b1, x1, d1, f1⟩, n1, z1, hp1⟩ : ∃ k1 n z, parseV (codes (s ++ endB k)) = (k1, n, z) := ⟨_, _, _, rfl⟩
          have hh : hits s (k + 1) = (hits s k || z1 == 1) := by
            simp only [hits]; rw [← codes_append, hp1]
          have HP1 := Lib.hid hp1
          have HH := Lib.hid hh
          clear hp1 hh
          have hsz : (s ++ endB k).size ≤ 100 := by simp; omega
          cases hb : hits s k
          all_goals
            go_wp2_with fail
            (with_reducible refine (parse_any (s ++ endB k) _ (by omega)).mono ?_)
            rw [HP1.out]
            simp only [keyC]
            rintro e w1 ⟨rfl, m2, rfl⟩
            go_wp2_with fail
            go_roundg (gk - 1)
            case measure => have := HK.out; omega
            case rel => exact ⟨k + 1, by have := HK.out; omega, by rw [HH.out, hb]; rfl, by go_num, _, by rw [more_more, alloc_more]⟩
        · have hk8 : k = 9 := by omega
          subst hk8
          have hh := hits_all s HM.out
          rw [hh]
          clear hk hh
          go_wp2_with fail
          go_loopg [8, 14] 256 (fun q v u wr => ∃ k : Nat, q + k = 256 ∧ v = .bool true ∧ u = .int .i64 k ∧ ∃ m', wr = more (((more w m).alloc (.cells #[.int .u8 0, .int .i64 0, .int .u8 0, .int .u8 0, .int .u8 0] 24)).alloc (.cells endsC 9)) m')
          case atStart => exact ⟨0, rfl, rfl, rfl, _, rfl⟩
          case round =>
            obtain ⟨k, hk, rfl, rfl, m2, rfl⟩ := hrel
            have HK := Lib.hid hk
            by_cases hk9 : k < 256
            · clear hk
              have hsz1 : (one (k : Int)).size ≤ 1 := Nat.le_of_eq (size_one _)
              have hsz : (s ++ one (k : Int)).size ≤ 100 := by simp; omega
              obtain ⟨⟨a1, b1, x1, d1, f1⟩, n1, z1, hp1⟩ : ∃ k1 n z, parseV (codes (s ++ one (k : Int))) = (k1, n, z) := ⟨_, _, _, rfl⟩
              have HP1 := Lib.hid hp1
              clear hp1
              go_wp2_with fail
              (with_reducible refine (parse_any (s ++ one (k : Int)) _ (by omega)).mono ?_)
              rw [HP1.out]
              simp only [keyC]
              rintro e w1 ⟨rfl, m3, rfl⟩
              go_wp2_with fail
              go_roundg (gk - 1)
              case measure => have := HK.out; omega
              case rel => exact ⟨k + 1, by have := HK.out; omega, rfl, by go_num, (((Grows.of _ m2).alloc _).more m3).alloc _⟩
            · go_wp2_with fail
              (with_reducible refine (lives_any _).mono ?_); rintro e w' ⟨rfl, m', rfl⟩
              go_wp2_with fail
              go_ret
              exact ⟨rfl, by repeat' first | exact Grows.refl _ | refine Grows.more ?_ _ | refine Grows.alloc ?_ _⟩
    · have hw := parse_whole s (by rw [HP.out]; exact hz)
      have hl := parse_less s
      rw [HP.out] at hw hl
      obtain ⟨hn1, hn2, hwt⟩ := hw
      simp only at hn1 hn2 hwt hl
      have HW := Lib.hid (hwt (codes t))
      have HL := Lib.hid hl
      have hz0 : (z == 0) = false := by simpa using hz
      clear hwt hl hz
      have d1 : decide ((n : Int) < 1) = false := by simp; omega
      have d2 : decide ((s.size : Int) < (n : Int)) = false := by simp; omega
      have d3 : decide (s.size < n) = false := by simp; omega
      have d4 : decide (n < 1) = false := by simp; omega
      have d5 : decide (n = 0) = false := by simp; omega
      go_enter Try.func3, Try.ntmps3
      go_wp2_with fail
      (with_reducible refine (parse_any s _ (by omega)).mono ?_)
      rw [HP.out]
      simp only [keyC]
      rintro e w1 ⟨rfl, m, rfl⟩
      go_wp2_with fail
      go_loopg [18] n (fun q u wr => ∃ k : Nat, q + k = n ∧ u = .int .i64 k ∧ ∃ m', wr = more ((more w m).alloc (.cells #[.int .u8 a, .int .i64 b, .int .u8 x, .int .u8 d, .int .u8 f] 24)) m')
      case atStart => exact ⟨0, rfl, rfl, _, more_self _⟩
      case round =>
        obtain ⟨k, hk, rfl, m', rfl⟩ := hrel
        have HK := Lib.hid hk
        have hkn : k ≤ n := by omega
        clear hk
        by_cases hk9 : k < n
        · have HZ := Lib.hid (HL.out k hk9)
          have hsz : (s.extract 0 k).size ≤ 100 := by simp; omega
          obtain ⟨⟨a1, b1, x1, d1, f1⟩, n1, z1, hp1⟩ : ∃ k1 n z, parseV (codes (s.extract 0 k)) = (k1, n, z) := ⟨_, _, _, rfl⟩
          obtain rfl : z1 = 0 := by
            have h := HZ.out
            rw [← codes_take, hp1] at h
            exact h
          have HP1 := Lib.hid hp1
          clear hp1
          go_wp2_with fail
          (with_reducible refine (parse_any (s.extract 0 k) _ (by omega)).mono ?_)
          rw [HP1.out]
          simp only [keyC]
          rintro e w1 ⟨rfl, m3, rfl⟩
          go_wp2_with fail
          go_roundg (gk - 1)
          case measure => have := HK.out; omega
          case rel => exact ⟨k + 1, by have := HK.out; omega, by go_num, _, by rw [more_more, alloc_more]⟩
        · have hsz0 : (s.extract 0 n).size ≤ 40 := by simp; omega
          have hsz : (s.extract 0 n ++ t).size ≤ 100 := by simp; omega
          have hp1 : parseV (codes (s.extract 0 n ++ t)) = (⟨a, b, x, d, f⟩, n, z) := by
            rw [codes_append, codes_take]
            exact HW.out
          have HP1 := Lib.hid hp1
          clear hp1
          go_wp2_with fail
          (with_reducible refine (parse_any (s.extract 0 n ++ t) _ (by omega)).mono ?_)
          rw [HP1.out]
          simp only [keyC]
          rintro e w1 ⟨rfl, m3, rfl⟩
          go_wp2_with fail
          (with_reducible refine (lives_any _).mono ?_); rintro e w' ⟨rfl, m', rfl⟩
          go_wp2_with fail
          go_ret
          exact ⟨by simp, by repeat' first | exact Grows.refl _ | refine Grows.more ?_ _ | refine Grows.alloc ?_ _⟩
end Go.Proofs.Ytljahcdnleefbaa
