/-
  Templates: the laws, in plain words.
-/
import Derived.Test.YtpdlmknbpggohaaDoorPk12
namespace Go.Proofs.YtpdlmknbpggohaaDoor
open Go.RowKit

/-! ### the laws in plain words -/
set_option maxRecDepth 3000 in
theorem chk_join (a : List UInt8) : ∀ b, chkB a = true → chkB (a ++ b) = chkB b ∧ mostB (a ++ b) = max (mostB a) (mostB b) ∧ ∀ g, expB g (a ++ b) = expB g a ++ expB g b := by
  induction h : a.length using Nat.strongRecOn generalizing a with
  | _ n ih =>
    intro b hc
    match a, h, hc with
    | [], _, _ => exact ⟨rfl, by simp [mostB], fun g => rfl⟩
    | [c], _, hc =>
      have h92 : c.toNat ≠ 92 := by simpa [chkB] using hc
      cases b with
      | nil => simp [mostB, expB, hc, chkB]
      | cons d t =>
        refine ⟨?_, ?_, fun g => ?_⟩
        · show chkB (c :: d :: t) = _
          conv => lhs; unfold chkB; rw [if_neg h92]
        · show mostB (c :: d :: t) = _
          conv => lhs; unfold mostB; rw [if_neg h92]
          simp [mostB]
        · show expB g (c :: d :: t) = _
          conv => lhs; unfold expB; rw [if_neg h92]
          by_cases h38 : c.toNat = 38
          · rw [if_pos h38]; simp [expB, h38]
          · rw [if_neg h38]; simp [expB, h38]
    | c :: d :: t, h, hc =>
      by_cases h92 : c.toNat = 92
      · have hc2 : chkB t = true := by unfold chkB at hc; rw [if_pos h92] at hc; exact hc
        obtain ⟨i1, i2, i3⟩ := ih t.length (by simp at h; omega) t rfl b hc2
        have h38 : ¬c.toNat = 38 := by omega
        refine ⟨?_, ?_, fun g => ?_⟩
        · show chkB (c :: d :: (t ++ b)) = _
          conv => lhs; unfold chkB; rw [if_pos h92]
          exact i1
        · show mostB (c :: d :: (t ++ b)) = max (mostB (c :: d :: t)) _
          rw [mostB, if_pos h92, mostB, if_pos h92, i2]
          exact (Nat.max_assoc _ _ _).symm
        · show expB g (c :: d :: (t ++ b)) = expB g (c :: d :: t) ++ _
          rw [expB, if_neg h38, if_pos h92, expB, if_neg h38, if_pos h92, i3 g, List.append_assoc]
      · have hc2 : chkB (d :: t) = true := by unfold chkB at hc; rw [if_neg h92] at hc; exact hc
        obtain ⟨i1, i2, i3⟩ := ih (d :: t).length (by simp at h ⊢; omega) (d :: t) rfl b hc2
        refine ⟨?_, ?_, fun g => ?_⟩
        · show chkB (c :: d :: (t ++ b)) = _
          conv => lhs; unfold chkB; rw [if_neg h92]
          exact i1
        · show mostB (c :: d :: (t ++ b)) = max (mostB (c :: d :: t)) _
          rw [mostB, if_neg h92, mostB, if_neg h92]
          exact i2
        · show expB g (c :: d :: (t ++ b)) = expB g (c :: d :: t) ++ _
          by_cases h38 : c.toNat = 38
          · rw [expB, if_pos h38, expB, if_pos h38, List.append_assoc, ← i3 g]; rfl
          · rw [expB, if_neg h38, if_neg h92, expB, if_neg h38, if_neg h92, List.cons_append, ← i3 g]; rfl
/-- A text, of which '&' and backslash have a backslash ahead. -/
def escV : List UInt8 → List UInt8
  | [] => []
  | c :: s => (if c.toNat = 38 ∨ c.toNat = 92 then [92, c] else [c]) ++ escV s
set_option maxRecDepth 3000 in
theorem escV_len (s : List UInt8) : (escV s).length ≤ 2 * s.length := by
  induction s with
  | nil => simp [escV]
  | cons c s ih => unfold escV; split <;> simp <;> omega
set_option maxRecDepth 3000 in
theorem escV_append (a b : List UInt8) : escV (a ++ b) = escV a ++ escV b := by
  induction a with
  | nil => rfl
  | cons c a ih => simp only [List.cons_append, escV, ih, List.append_assoc]
set_option maxRecDepth 3000 in
theorem esc_one (c : UInt8) : chkB (if c.toNat = 38 ∨ c.toNat = 92 then [92, c] else [c]) = true ∧ mostB (if c.toNat = 38 ∨ c.toNat = 92 then [92, c] else [c]) = 0 ∧ ∀ g, expB g (if c.toNat = 38 ∨ c.toNat = 92 then [92, c] else [c]) = [c] := by
  by_cases h : c.toNat = 38 ∨ c.toNat = 92
  · rw [if_pos h]
    have h92 : (92 : UInt8).toNat = 92 := rfl
    refine ⟨?_, ?_, fun g => ?_⟩
    · simp [chkB, h92]
    · simp only [mostB, h92, if_true]; rw [if_neg (by omega)]; rfl
    · rw [expB, if_neg (by decide), if_pos h92]
      unfold behindV
      rw [if_neg (by omega), if_neg (by omega)]
      simp [toldV, expB]
  · rw [if_neg h]
    have h1 : ¬c.toNat = 38 := fun e => h (.inl e)
    have h2 : ¬c.toNat = 92 := fun e => h (.inr e)
    exact ⟨by simp [chkB, h2], rfl, fun g => by simp [expB, h1]⟩
set_option maxRecDepth 3000 in
theorem esc_law (s : List UInt8) : chkB (escV s) = true ∧ mostB (escV s) = 0 ∧ ∀ g, expB g (escV s) = s := by
  induction s with
  | nil => exact ⟨rfl, rfl, fun g => rfl⟩
  | cons c s ih =>
    obtain ⟨o1, o2, o3⟩ := esc_one c
    obtain ⟨j1, j2, j3⟩ := chk_join _ (escV s) o1
    unfold escV
    exact ⟨by rw [j1]; exact ih.1, by rw [j2, o2, ih.2.1]; rfl, fun g => by rw [j3 g, o3 g, ih.2.2 g]; rfl⟩
/-- The sign of a group. -/
def sgnV (k : Nat) : List UInt8 := if 0 < k then [92, UInt8.ofNat (48 + k)] else [38]
set_option maxRecDepth 3000 in
theorem sgn_law (k : Nat) (hk : k < 10) : chkB (sgnV k) = true ∧ mostB (sgnV k) = k ∧ ∀ g, expB g (sgnV k) = g k := by
  unfold sgnV
  by_cases h : 0 < k
  · rw [if_pos h]
    have hn : (UInt8.ofNat (48 + k)).toNat = 48 + k := by simp; omega
    refine ⟨rfl, ?_, fun g => ?_⟩
    · rw [mostB, if_pos (show (92 : UInt8).toNat = 92 from rfl), hn, if_pos (by omega)]
      simp [mostB]
    · rw [expB, if_neg (by decide), if_pos (show (92 : UInt8).toNat = 92 from rfl)]
      unfold behindV
      rw [hn, if_pos (by omega)]
      simp [toldV, expB]
  · rw [if_neg h]
    obtain rfl : k = 0 := by omega
    exact ⟨rfl, rfl, fun g => by simp [expB]⟩
set_option maxRecDepth 3000 in
theorem grp_law (a : List UInt8) (k : Nat) (hk : k < 10) (ha : ∀ c ∈ a, c.toNat ≠ 38 ∧ c.toNat ≠ 92) : chkB (a ++ (sgnV k ++ (a ++ sgnV k))) = true ∧ mostB (a ++ (sgnV k ++ (a ++ sgnV k))) = k ∧ ∀ g, expB g (a ++ (sgnV k ++ (a ++ sgnV k))) = a ++ (g k ++ (a ++ g k)) := by
  obtain ⟨s1, s2, s3⟩ := sgn_law k hk
  obtain ⟨j1, j2, j3⟩ := chk_join (sgnV k) (a ++ sgnV k) s1
  refine ⟨?_, ?_, fun g => ?_⟩
  · rw [chk_text a _ ha, j1, chk_text a _ ha, s1]
  · rw [most_text a _ ha, j2, most_text a _ ha, s2]; omega
  · rw [exp_text g a _ ha, j3, exp_text g a _ ha, s3]
set_option maxRecDepth 3000 in
theorem cut_law (a : List UInt8) (c : UInt8) : (chkB a = true → chkB (a ++ [92]) = false) ∧ (chkB a = false → chkB (a ++ [c]) = true ∧ a ≠ [] ∧ a.getLast? = some 92) := by
  refine ⟨fun h => by rw [(chk_join a [92] h).1]; rfl, ?_⟩
  induction h : a.length using Nat.strongRecOn generalizing a with
  | _ n ih =>
    intro hc
    match a, h, hc with
    | [], _, hc => cases hc
    | [x], _, hc =>
      have hx : x.toNat = 92 := by simpa [chkB] using hc
      have : x = 92 := UInt8.toNat_inj.1 (by rw [hx]; rfl)
      subst this
      exact ⟨rfl, by simp, rfl⟩
    | x :: y :: t, h, hc =>
      by_cases h92 : x.toNat = 92
      · have hc2 : chkB t = false := by unfold chkB at hc; rw [if_pos h92] at hc; exact hc
        obtain ⟨i1, i2, i3⟩ := ih t.length (by simp at h; omega) t rfl hc2
        refine ⟨?_, by simp, ?_⟩
        · show chkB (x :: y :: (t ++ [c])) = true
          unfold chkB; rw [if_pos h92]; exact i1
        · cases t with
          | nil => exact absurd rfl i2
          | cons z t => rw [List.getLast?_cons_cons, List.getLast?_cons_cons]; exact i3
      · have hc2 : chkB (y :: t) = false := by unfold chkB at hc; rw [if_neg h92] at hc; exact hc
        obtain ⟨i1, i2, i3⟩ := ih (y :: t).length (by simp at h ⊢; omega) (y :: t) rfl hc2
        refine ⟨?_, by simp, ?_⟩
        · show chkB (x :: y :: (t ++ [c])) = true
          unfold chkB; rw [if_neg h92]; exact i1
        · rw [List.getLast?_cons_cons]; exact i3
end Go.Proofs.YtpdlmknbpggohaaDoor
