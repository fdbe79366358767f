/-
  Classes: a class beside letters in an expression, in plain words.
-/
import Derived.Test.YtcfkniejpeakdaaClsLetters
import Derived.Test.YtcfkniejpeakdaaClass
namespace Go.Proofs.Ytcfkniejpeakdaa
open Go.RowKit

/-- The names of the classes, as the law has them. -/
def nmL : List (List UInt8) := [[108, 111, 119, 101, 114], [117, 112, 112, 101, 114], [97, 108, 112, 104, 97], [100, 105, 103, 105, 116], [97, 108, 110, 117, 109], [120, 100, 105, 103, 105, 116], [115, 112, 97, 99, 101], [98, 108, 97, 110, 107], [99, 110, 116, 114, 108], [103, 114, 97, 112, 104], [112, 114, 105, 110, 116], [112, 117, 110, 99, 116]]
theorem nmL_is (k : Nat) (hk : k < 12) : 58 ∉ nmL.getD k [] ∧ (clsOf (tx (nmL.getD k []))).isSome = true ∧ (nmL.getD k []).length ≤ 6 := by
  rcases (show k = 0 ∨ k = 1 ∨ k = 2 ∨ k = 3 ∨ k = 4 ∨ k = 5 ∨ k = 6 ∨ k = 7 ∨ k = 8 ∨ k = 9 ∨ k = 10 ∨ k = 11 by omega) with rfl | rfl | rfl | rfl | rfl | rfl | rfl | rfl | rfl | rfl | rfl | rfl
  all_goals exact ⟨by decide, by kernel_rfl, by decide⟩
/-- A class and letters. -/
def joinP (p : Nat → Bool) (l : List UInt8) (d : Nat) : Bool := p d || anyIs l d
theorem join_nil (p : Nat → Bool) : SA (joinP p []) = SA p := SA_ext fun c _ => by simp [joinP, anyIs]
theorem join_put (p : Nat → Bool) (l : List UInt8) (c : UInt8) (n : Nat) (hn : n = c.toNat) : (SA (joinP p l)).setIfInBounds n (.bool true) = SA (joinP p (l ++ [c])) := by
  subst hn
  rw [set_SA]
  refine SA_ext fun d _ => ?_
  by_cases h : d = c.toNat
  · subst h; simp [joinP, anyIs]
  · have h2 : ¬c.toNat = d := fun e => h e.symm
    simp [joinP, anyIs, h, h2]
theorem class_of {k : ByteArray} {i : Nat} {p : Int → Bool} (h : clsOf k = some (i, p)) (c : Nat) : classP k c = p c := by simp [classP, h]
theorem join_first (n l : List UInt8) (hn : 58 ∉ n) (hc : (clsOf (tx n)).isSome = true) (hl : ∀ c ∈ l, IsLet c) :
    SA (parseA (91 :: (l ++ (91 :: 58 :: (n ++ [58, 93, 93])))) 0).1 = SA (joinP (classP (tx n)) l) ∧ (parseA (91 :: (l ++ (91 :: 58 :: (n ++ [58, 93, 93])))) 0).2 = ((l.length : Int) + n.length + 6, 0) := by
  obtain ⟨⟨i, p⟩, hp⟩ := Option.isSome_iff_exists.1 hc
  have hcat : n ++ [58, 93, 93] = n ++ 58 :: 93 :: [93] := rfl
  have h94 : ¬(l ++ (91 :: 58 :: (n ++ [58, 93, 93]))).head? = some 94 := by
    cases l with
    | nil => intro h; simp at h
    | cons c l =>
      have hc := hl c (by simp)
      unfold IsLet at hc
      intro h
      simp at h
      subst h
      revert hc; decide
  have hL : loopF true (fun _ => false) (l ++ (91 :: 58 :: (n ++ [58, 93, 93]))) = some (fun d => joinP (fun c => p c) l d, [93]) := by
    cases l with
    | nil =>
      rw [List.nil_append, loopF_next (fun h => by cases h.1) (by rw [hcat]; exact partV_class n [93] hn i p hp), loopF_end _ _ rfl]
      congr 2
      funext d
      simp [joinP, anyIs]
    | cons c l =>
      rw [loopF_letters (c :: l) true _ _ (by simp) hl (by simp), loopF_next (fun h => by simp at h) (by rw [hcat]; exact partV_class n [93] hn i p hp), loopF_end _ _ rfl]
      congr 2
      funext d
      simp [joinP, Bool.or_comm]
  have hP : parseV (91 :: (l ++ (91 :: 58 :: (n ++ [58, 93, 93])))) = some (fun c => joinP (fun c => p c) l c != false, l.length + n.length + 6) := by
    unfold parseV
    rw [if_pos (show (91 :: (l ++ (91 :: 58 :: (n ++ [58, 93, 93])))).head? = some 91 from rfl), show (91 :: (l ++ (91 :: 58 :: (n ++ [58, 93, 93])))).drop 1 = l ++ (91 :: 58 :: (n ++ [58, 93, 93])) from rfl, if_neg h94, hL]
    simp only [Option.map_some]
    congr 2
    simp; omega
  rw [parseA_zero, hP]
  exact ⟨SA_ext fun c _ => by simp [joinP, class_of hp], by simp⟩
theorem join_second (n l : List UInt8) (hn : 58 ∉ n) (hc : (clsOf (tx n)).isSome = true) (hl : ∀ c ∈ l, IsLet c) :
    SA (parseA (91 :: 91 :: 58 :: (n ++ (58 :: 93 :: (l ++ [93])))) 0).1 = SA (joinP (classP (tx n)) l) ∧ (parseA (91 :: 91 :: 58 :: (n ++ (58 :: 93 :: (l ++ [93])))) 0).2.2 = 0 := by
  obtain ⟨⟨i, p⟩, hp⟩ := Option.isSome_iff_exists.1 hc
  have hL : loopF true (fun _ => false) (91 :: 58 :: (n ++ (58 :: 93 :: (l ++ [93])))) = some (fun d => joinP (fun c => p c) l d, [93]) := by
    rw [loopF_next (fun h => by cases h.1) (partV_class n (l ++ [93]) hn i p hp)]
    simp only []
    cases l with
    | nil =>
      rw [List.nil_append, loopF_end _ _ rfl]
      congr 2
      funext d
      simp [joinP, anyIs]
    | cons c l =>
      rw [loopF_letters (c :: l) false _ _ (by simp) hl (by decide), loopF_end _ _ rfl]
      congr 2
  have hP : ∃ k, parseV (91 :: 91 :: 58 :: (n ++ (58 :: 93 :: (l ++ [93])))) = some (fun c => joinP (fun c => p c) l c != false, k) := by
    unfold parseV
    rw [if_pos (show (91 :: 91 :: 58 :: (n ++ (58 :: 93 :: (l ++ [93])))).head? = some 91 from rfl), show (91 :: 91 :: 58 :: (n ++ (58 :: 93 :: (l ++ [93])))).drop 1 = 91 :: 58 :: (n ++ (58 :: 93 :: (l ++ [93]))) from rfl, if_neg (fun h => by simp at h), hL]
    exact ⟨_, rfl⟩
  obtain ⟨k, hP⟩ := hP
  rw [parseA_zero, hP]
  exact ⟨SA_ext fun c _ => by simp [joinP, class_of hp], rfl⟩
end Go.Proofs.Ytcfkniejpeakdaa
