/-
  Registers: what is told is what was laid last, in plain words.
-/
import Derived.Test.YtlhdbaaokgdabaaRegsPlain
namespace Go.Proofs.Ytlhdbaaokgdabaa

theorem rshifts_at (S : RS) : ∀ (n : Nat), n ≤ 8 → ∀ j : Int, rshifts S n j = if 57 - (n : Int) < j ∧ j ≤ 57 then (S (j - 1)).or (S j) else S j := by
  intro n
  induction n with
  | zero => intro _ j; rw [if_neg (by omega)]; rfl
  | succ n ih =>
    intro hn j
    have h1 : rshifts S (n + 1) = rshift (rshifts S n) (57 - n) := rfl
    have h2 : rshifts S n ((57 : Int) - n - 1) = S ((57 : Int) - n - 1) := by rw [ih (by omega), if_neg (by omega)]
    have h3 : rshifts S n ((57 : Int) - n) = S ((57 : Int) - n) := by rw [ih (by omega), if_neg (by omega)]
    rw [h1]
    unfold rshift
    rw [h2]
    by_cases hj : j = 57 - n
    · subst hj
      rw [if_pos (by omega)]
      cases hs : S ((57 : Int) - n - 1) with
      | none => simp only [Option.none_or]; exact h3
      | some x => simp only [Option.some_or]; unfold rsSet; rw [if_pos rfl]
    · have e : rshifts S n j = if 57 - ((n + 1 : Nat) : Int) < j ∧ j ≤ 57 then (S (j - 1)).or (S j) else S j := by
        rw [ih (by omega)]
        by_cases h4 : 57 - (n : Int) < j ∧ j ≤ 57
        · rw [if_pos h4, if_pos (by omega)]
        · rw [if_neg h4, if_neg (by omega)]
      rw [← e]
      cases S ((57 : Int) - n - 1) with
      | none => rfl
      | some x => simp only []; unfold rsSet; rw [if_neg hj]
/-- What the registers tell, by what was pushed, what was laid under each letter, and what came last. -/
structure Told (S : RS) (pushed : List Rg) (named : List Rg) (last : Rg) : Prop where
  len : named.length = 26
  named : ∀ (j : Nat) (h : j < 26), (S (97 + (j : Int))).getD rg0 = named[j]'(by omega)
  nums : ∀ k : Nat, 1 ≤ k → k ≤ 9 → S (48 + (k : Int)) = if h : k ≤ pushed.length ∧ 1 ≤ k then some (pushed[pushed.length - k]'(by omega)) else none
  last : (S 0).getD rg0 = last
theorem told0 : Told rs0 [] (List.replicate 26 rg0) rg0 :=
  ⟨List.length_replicate .., fun j h => by rw [List.getElem_replicate]; rfl, fun k h1 h2 => by rw [dif_neg (by first | (simp; done) | (simp; omega))]; rfl, rfl⟩
theorem Told.set {S : RS} {ps nm : List Rg} {l : Rg} (h : Told S ps nm l) (j : Nat) (hj : j < 26) (x : Rg) : Told (rsSet (rsSet S (97 + (j : Int)) x) 0 x) ps (nm.set j x) x := by
  refine ⟨by simp [h.len], fun i hi => ?_, fun k h1 h2 => ?_, ?_⟩
  · unfold rsSet
    rw [if_neg (by omega), List.getElem_set]
    by_cases e : j = i
    · subst e; rw [if_pos rfl, if_pos rfl]; rfl
    · rw [if_neg (by omega), if_neg e]; exact h.named i hi
  · unfold rsSet
    rw [if_neg (by omega), if_neg (by omega)]
    exact h.nums k h1 h2
  · unfold rsSet
    rw [if_pos rfl]; rfl
theorem Told.push {S : RS} {ps nm : List Rg} {l : Rg} (h : Told S ps nm l) (x : Rg) : Told (rsSet (rsSet (rshifts S 8) 49 x) 0 x) (ps ++ [x]) nm x := by
  refine ⟨h.len, fun i hi => ?_, fun k h1 h2 => ?_, ?_⟩
  · unfold rsSet
    rw [if_neg (by omega), if_neg (by omega), rshifts_at S 8 (by omega), if_neg (by omega)]
    exact h.named i hi
  · unfold rsSet
    rw [if_neg (by omega)]
    by_cases e : k = 1
    · subst e
      rw [if_pos (by rfl), dif_pos (by simp)]
      simp
    · rw [if_neg (by omega), rshifts_at S 8 (by omega), if_pos (by omega)]
      have e1 : (48 : Int) + (k : Int) - 1 = 48 + ((k - 1 : Nat) : Int) := by omega
      rw [e1, h.nums (k - 1) (by omega) (by omega), h.nums k h1 h2]
      by_cases e2 : k - 1 ≤ ps.length
      · have l1 : (ps ++ [x]).length = ps.length + 1 := by simp
        rw [dif_pos ⟨e2, by omega⟩, Option.some_or, dif_pos ⟨by omega, h1⟩]
        have l2 : (ps ++ [x]).length - k = ps.length - (k - 1) := by omega
        have l3 : ps.length - (k - 1) < ps.length := by omega
        have : (ps ++ [x])[(ps ++ [x]).length - k]? = some ps[ps.length - (k - 1)] := by rw [l2, List.getElem?_append_left l3, List.getElem?_eq_getElem l3]
        rw [List.getElem?_eq_getElem (by omega)] at this
        exact this.symm
      · have l1 : (ps ++ [x]).length = ps.length + 1 := by simp
        rw [dif_neg (by omega), dif_neg (by omega), dif_neg (by omega)]
        rfl
  · unfold rsSet
    rw [if_pos rfl]; rfl
end Go.Proofs.Ytlhdbaaokgdabaa
