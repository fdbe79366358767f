/-
  Keys: the walks of the document's answer.
-/
import Derived.Test.YtljahcdnleefbaaKeysLives
namespace Go.Proofs.Ytljahcdnleefbaa
open Go.RowKit

theorem inS_of (c : Int) (s : ByteArray) (k : Nat) (h : k < s.size) (e : (s[k].toNat : Int) = c) : inS c s = true := by
  unfold inS
  rw [List.contains_eq_mem, decide_eq_true_eq]
  rw [← e, ← codes_get s k h]
  exact List.getElem_mem _
theorem inS_not (c : Int) (s : ByteArray) (h : ∀ k (hk : k < s.size), (s[k].toNat : Int) ≠ c) : inS c s = false := by
  unfold inS
  rw [List.contains_eq_mem, decide_eq_false_iff_not]
  intro hm
  obtain ⟨k, hk, e⟩ := List.getElem_of_mem hm
  have hk' : k < s.size := by simpa using hk
  rw [codes_get s k hk'] at e
  exact h k hk' e

set_option maxHeartbeats 400000 in
theorem refIn_any (c : Int) (s : ByteArray) (w : World) (hs : s.size ≤ 9223372036854775806) :
    Calls Try.prog 21 #[.int .u8 c, .string s] w fun e w' => e = .returned (.bool (inS c s)) ∧ w = w' := by
  go_enter Try.func21, Try.ntmps21
  go_wp2_with fail
  go_loopg [5] s.size (fun q i wr => ∃ k : Nat, q + k = s.size ∧ i = .int .i64 k ∧ wr = w ∧ ∀ j (hj : j < s.size), j < k → (s[j].toNat : Int) ≠ c)
  case atStart => exact ⟨0, by omega, rfl, rfl, fun j _ h => absurd h (by omega)⟩
  case round =>
    obtain ⟨k, hk, rfl, rfl, hall⟩ := hrel
    have HA := Lib.hid hall
    have HK := Lib.hid hk
    have hk' : k ≤ s.size := by omega
    clear hall hk
    by_cases h1 : k < s.size
    · by_cases h2 : (s[k].toNat : Int) = c
      · have h2' : ((s[k].toNat : Int) == c) = true := by simpa using h2
        have HI := Lib.hid (inS_of c s k h1 h2)
        have H2 := Lib.hid h2
        clear h2
        go_wp2_with fail
        go_ret
        exact ⟨by rw [HI.out]; rfl, rfl⟩
      · have h2' : ((s[k].toNat : Int) == c) = false := by simpa using h2
        have H2 := Lib.hid h2
        clear h2
        go_wp2_with fail
        go_roundg (gk - 1)
        case measure => have := HK.out; omega
        case rel =>
          refine ⟨k + 1, by have := HK.out; omega, by go_num, rfl, fun j hj h => ?_⟩
          by_cases e : j = k
          · subst e; exact H2.out
          · exact HA.out j hj (by omega)
    · have HI := Lib.hid (inS_not c s fun j hj => HA.out j hj (by omega))
      go_wp2_with fail
      go_ret
      exact ⟨by rw [HI.out]; rfl, rfl⟩

set_option maxHeartbeats 400000 in
theorem refLike_any (c : Int) (w : World) :
    Calls Try.prog 20 #[.int .u8 c] w fun e w' => e = .returned (.int .u8 (like c)) ∧ w = w' := by
  go_enter Try.func20, Try.ntmps20
  go_wp2
  all_goals
    go_ret
    refine ⟨?_, rfl⟩
    unfold like
  all_goals simp_all only [beq_iff_eq, beq_eq_false_iff_ne, ne_eq, if_true, if_false]
  all_goals rfl

theorem inS_motlet (c : Int) : inS c ⟨#[104, 106, 107, 108, 48, 94, 36, 119, 98, 101, 87, 66, 69, 71, 59, 44, 110, 78, 43, 45, 124, 102, 70, 116, 84, 39]⟩ = (isMot c || isLet c) := by
  have : codes ⟨#[104, 106, 107, 108, 48, 94, 36, 119, 98, 101, 87, 66, 69, 71, 59, 44, 110, 78, 43, 45, 124, 102, 70, 116, 84, 39]⟩ = [104, 106, 107, 108, 48, 94, 36, 119, 98, 101, 87, 66, 69, 71, 59, 44, 110, 78, 43, 45, 124] ++ [102, 70, 116, 84, 39] := rfl
  unfold inS isMot isLet
  rw [this, Bool.eq_iff_iff]
  simp only [List.contains_eq_mem, List.mem_append, decide_eq_true_eq, Bool.or_eq_true]
set_option maxHeartbeats 400000 in
theorem refMotion_any (c : Int) (w : World) :
    Calls Try.prog 10 #[.int .u8 c] w fun e w' => e = .returned (.bool (isMot c || isLet c)) ∧ w = w' := by
  go_enter Try.func10, Try.ntmps10
  go_wp2_with fail
  (with_reducible refine (refIn_any c _ _ (by decide)).mono ?_)
  rw [inS_motlet]
  rintro e w' ⟨rfl, rfl⟩
  go_wp2_with fail
  go_ret
  exact ⟨rfl, rfl⟩
set_option maxHeartbeats 400000 in
theorem refLetter_any (c : Int) (w : World) :
    Calls Try.prog 22 #[.int .u8 c] w fun e w' => e = .returned (.bool (isLet c)) ∧ w = w' := by
  go_enter Try.func22, Try.ntmps22
  go_wp2_with fail
  (with_reducible refine (refIn_any c _ _ (by decide)).mono ?_)
  rw [inS_let]
  rintro e w' ⟨rfl, rfl⟩
  go_wp2_with fail
  go_ret
  exact ⟨rfl, rfl⟩

theorem ret_count {a a' b b' : Int} {c c' : Bool} (h1 : a = a') (h2 : b = b') (h3 : c = c') : Ending.returned (.tuple #[.int .i64 a, .int .i64 b, .bool c]) = .returned (.tuple #[.int .i64 a', .int .i64 b', .bool c']) := by rw [h1, h2, h3]
set_option maxHeartbeats 1000000 in
theorem refCount_any (s : ByteArray) (i : Nat) (w : World) (hs : s.size ≤ 9223372036854775806) (hi : i ≤ s.size) :
    Calls Try.prog 19 #[.string s, .int .i64 i] w fun e w' =>
      e = .returned (.tuple #[.int .i64 (digs ((codes s).drop i) 0).1, .int .i64 ((i : Int) + ((digs ((codes s).drop i) 0).2.1 : Int)), .bool (digs ((codes s).drop i) 0).2.2]) ∧ w = w' := by
  go_enter Try.func19, Try.ntmps19
  go_wp2_with fail
  go_loopg [1, 7] (s.size + 1 - i) (fun q a b wr => ∃ (k : Nat) (n : Int), q + i + k = s.size + 1 ∧ i + k ≤ s.size ∧ a = .int .i64 (i + k : Nat) ∧ b = .int .i64 n ∧ wr = w ∧ 0 ≤ n ∧ n ≤ 9999 ∧ digs ((codes s).drop i) 0 = ahead k (digs ((codes s).drop (i + k)) n))
  case atStart => exact ⟨0, 0, by omega, by omega, rfl, rfl, rfl, by omega, by omega, rfl⟩
  case round =>
    obtain ⟨k, n, hq, hik, rfl, rfl, rfl, hn0, hn9, hdig⟩ := hrel
    have HD := Lib.hid hdig
    have HQ := Lib.hid hq
    clear hdig hq
    by_cases h2 : i + k < s.size
    · have hcl := s[i + k].toNat_lt
      have HG := Lib.hid (codes_get s (i + k) h2)
      by_cases hd : 48 ≤ (s[i + k].toNat : Int) ∧ (s[i + k].toNat : Int) ≤ 57 ∧ (0 < n ∨ 48 < (s[i + k].toNat : Int))
      · obtain ⟨hd1, hd2, hd3⟩ := hd
        have HI := Lib.hid (isDig_true n _ hd1 hd2 hd3)
        by_cases h9 : 9999 < 10 * n + ((s[i + k].toNat : Int) - 48)
        · have HO := Lib.hid (digs_great (codes s) (i + k) _ n (by simpa using h2) HG.out HI.out h9)
          have HV := Lib.hid (show digs ((codes s).drop i) 0 = (0, 1 + k, false) by rw [HD.out, HO.out]; rfl)
          rcases hd3 with hd3 | hd3
          all_goals
            go_wp2_with fail
            go_ret3
            rw [HV.out]
            exact ⟨ret_count rfl (by first | rfl | (simp only; omega)) rfl, rfl⟩
        · have HO := Lib.hid (digs_on (codes s) (i + k) _ n (by simpa using h2) HG.out HI.out h9)
          rcases hd3 with hd3 | hd3
          all_goals
            go_wp2_with fail
          all_goals
            go_roundg (gk - 1)
            case measure => have := HQ.out; omega
            case rel => exact ⟨k + 1, 10 * n + ((s[i + k].toNat : Int) - 48), by have := HQ.out; omega, by omega, by go_num, rfl, rfl, by omega, by omega, by rw [HD.out, HO.out, ahead_ahead]; rfl⟩
      · have HI := Lib.hid (isDig_false n _ hd)
        have HO := Lib.hid (digs_not (codes s) (i + k) _ n (by simpa using h2) HG.out HI.out)
        have HV := Lib.hid (show digs ((codes s).drop i) 0 = (n, k, true) by rw [HD.out, HO.out]; simp [ahead])
        have hor : (s[i + k].toNat : Int) < 48 ∨ 57 < (s[i + k].toNat : Int) ∨ (n ≤ 0 ∧ 48 ≤ (s[i + k].toNat : Int) ∧ (s[i + k].toNat : Int) ≤ 48) := by omega
        clear hd
        rcases hor with hor | hor | ⟨hor, hor2, hor3⟩
        all_goals
          go_wp2_with fail
          go_ret3
          rw [HV.out]
          exact ⟨ret_count rfl (by first | rfl | (simp only; omega)) rfl, rfl⟩
    · have HV := Lib.hid (show digs ((codes s).drop i) 0 = (n, k, true) by rw [HD.out, List.drop_eq_nil_of_le (by simp; omega)]; simp [ahead, digs])
      go_wp2_with fail
      go_ret3
      rw [HV.out]
      exact ⟨ret_count rfl (by first | rfl | (simp only; omega)) rfl, rfl⟩
end Go.Proofs.Ytljahcdnleefbaa
