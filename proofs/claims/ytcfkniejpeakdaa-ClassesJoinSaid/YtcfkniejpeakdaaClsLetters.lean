/-
  Classes: letters, ranges and classes in an expression, in plain words; letter, walked.
-/
import Derived.Test.YtcfkniejpeakdaaClsNot
namespace Go.Proofs.Ytcfkniejpeakdaa
open Go.RowKit

/-- A letter or a digit, by a number. -/
def letN (n : Nat) : Nat := if n % 62 < 10 then 48 + n % 62 else if n % 62 < 36 then 55 + n % 62 else 61 + n % 62
theorem letN_is (n : Nat) : (48 ≤ letN n ∧ letN n ≤ 57) ∨ (65 ≤ letN n ∧ letN n ≤ 90) ∨ (97 ≤ letN n ∧ letN n ≤ 122) := by
  unfold letN; split
  · omega
  · split <;> omega
def let8 (n : Nat) : UInt8 := UInt8.ofNat (letN n)
theorem let8_nat (n : Nat) : (let8 n).toNat = letN n := by
  have := letN_is n
  unfold let8
  simp; omega
/-- A letter or a digit. -/
def IsLet (c : UInt8) : Prop := (48 ≤ c.toNat ∧ c.toNat ≤ 57) ∨ (65 ≤ c.toNat ∧ c.toNat ≤ 90) ∨ (97 ≤ c.toNat ∧ c.toNat ≤ 122)
theorem let8_is (n : Nat) : IsLet (let8 n) := by unfold IsLet; rw [let8_nat]; exact letN_is n
theorem spanP_one (c : UInt8) (d : Nat) : spanP (c.toNat : Nat) (c.toNat : Nat) (d : Nat) = decide (c.toNat = d) := by
  rw [Bool.eq_iff_iff]
  simp only [spanP, Bool.and_eq_true, decide_eq_true_eq]; omega
theorem partV_letter (c : UInt8) (t : List UInt8) (hc : IsLet c) (ht : bt t 0 ≠ 45) : partV (c :: t) = some (spanP (c.toNat : Nat) (c.toNat : Nat), t) := by
  unfold IsLet at hc
  have hk : kindN (c :: t) = 0 := by
    unfold kindN
    rw [if_neg]
    rintro ⟨_, h, _⟩
    rw [bt_cons_zero] at h; omega
  unfold partV
  rw [if_neg (by simp), hk, if_neg (by omega), if_neg (by omega), if_neg]
  · simp
  · rintro ⟨_, h, _⟩
    rw [bt_cons_succ] at h
    exact ht h
def anyIs (l : List UInt8) (d : Nat) : Bool := l.any fun c => decide (c.toNat = d)
theorem loopF_letters (l : List UInt8) : ∀ (first : Bool) (p : Nat → Bool) (r : List UInt8), l ≠ [] → (∀ c ∈ l, IsLet c) → bt r 0 ≠ 45 → loopF first p (l ++ r) = loopF false (fun d => p d || anyIs l d) r := by
  induction l with
  | nil => intro f p r h; exact absurd rfl h
  | cons c l ih =>
    intro f p r _ hl hr
    have hc := hl c (by simp)
    have hn : ¬(f = false ∧ (c :: l ++ r).head? = some 93) := by
      rintro ⟨_, h⟩
      simp at h
      subst h
      unfold IsLet at hc
      revert hc; decide
    have ht : bt (l ++ r) 0 ≠ 45 := by
      cases l with
      | nil => simpa using hr
      | cons d l =>
        have hd := hl d (by simp)
        unfold IsLet at hd
        simp; omega
    rw [loopF_next hn (by rw [List.cons_append]; exact partV_letter c (l ++ r) hc ht)]
    simp only []
    cases l with
    | nil =>
      rw [List.nil_append]
      congr 1
      funext d
      rw [spanP_one]
      simp [anyIs]
    | cons d l =>
      rw [ih false _ r (by simp) (fun x hx => hl x (by simp [hx])) hr]
      congr 1
      funext e
      rw [spanP_one]
      simp [anyIs, Bool.or_assoc]
theorem cutV_name (n r : List UInt8) (hn : 58 ∉ n) : cutV (n ++ 58 :: 93 :: r) = some (n, r) := by
  induction n with
  | nil => simp [cutV]
  | cons a n ih =>
    have h1 : a ≠ 58 := fun h => hn (by simp [h])
    rw [List.cons_append]
    unfold cutV
    rw [if_neg (fun h => h1 h.1), ih (fun h => hn (by simp [h]))]; rfl
theorem partV_class (n r : List UInt8) (hn : 58 ∉ n) (i : Nat) (p : Int → Bool) (hc : clsOf (tx n) = some (i, p)) : partV (91 :: 58 :: (n ++ 58 :: 93 :: r)) = some (p, r) := by
  have hk : kindN (91 :: 58 :: (n ++ 58 :: 93 :: r)) = 58 := by
    unfold kindN
    rw [if_pos ⟨by simp, by simp, by simp⟩]; simp
  unfold partV
  rw [if_neg (by simp), if_pos hk]
  rw [show (91 :: 58 :: (n ++ 58 :: 93 :: r)).drop 2 = n ++ 58 :: 93 :: r from rfl, cutV_name n r hn]
  simp [hc]
/-- An expression of letters. -/
theorem parse_letters (l : List UInt8) (hne : l ≠ []) (hl : ∀ c ∈ l, IsLet c) : SA (parseA (91 :: (l ++ [93])) 0).1 = SA (anyIs l) ∧ (parseA (91 :: (l ++ [93])) 0).2 = ((l.length : Int) + 2, 0) := by
  have h94 : ¬(l ++ [93]).head? = some 94 := by
    cases l with
    | nil => exact absurd rfl hne
    | cons c l =>
      have hc := hl c (by simp)
      unfold IsLet at hc
      intro h
      simp at h
      subst h
      revert hc; decide
  have hP : parseV (91 :: (l ++ [93])) = some (fun c => anyIs l c != false, l.length + 2) := by
    unfold parseV
    rw [if_pos (show (91 :: (l ++ [93])).head? = some 91 from rfl), show (91 :: (l ++ [93])).drop 1 = l ++ [93] from rfl, if_neg h94, loopF_letters l true _ [93] hne hl (by decide), loopF_end _ _ rfl]
    simp only [Option.map_some, Bool.false_or]
    congr 2
    simp
  rw [parseA_zero, hP]
  refine ⟨SA_ext fun c _ => by simp, by simp⟩
theorem parse_range (x y : UInt8) (hx : IsLet x) (hy : IsLet y) : (x.toNat ≤ y.toNat → SA (parseA [91, x, 45, y, 93] 0).1 = SA (fun c : Nat => spanP (x.toNat : Nat) (y.toNat : Nat) c) ∧ (parseA [91, x, 45, y, 93] 0).2 = (5, 0)) ∧ (¬x.toNat ≤ y.toNat → parseA [91, x, 45, y, 93] 0 = (fun _ => false, 0, 90)) := by
  unfold IsLet at hx hy
  have hk : kindN [x, 45, y, 93] = 0 := by
    unfold kindN
    rw [if_neg]
    rintro ⟨_, h, _⟩
    simp at h; omega
  have hk2 : kindN [y, 93] = 0 := by
    unfold kindN
    rw [if_neg]
    rintro ⟨_, h, _⟩
    simp at h; omega
  have h94 : ¬([x, 45, y, 93] : List UInt8).head? = some 94 := by
    intro h
    simp at h
    subst h
    revert hx; decide
  have hp : partV [x, 45, y, 93] = if x.toNat ≤ y.toNat then some (spanP (x.toNat : Nat) (y.toNat : Nat), [93]) else none := by
    unfold partV
    rw [if_neg (by simp), hk, if_neg (by omega), if_neg (by omega), if_pos ⟨by simp, by simp [bt], by simp [bt]; omega⟩]
    rw [show ([x, 45, y, 93] : List UInt8).drop 2 = [y, 93] from rfl, hk2, show ([x, 45, y, 93] : List UInt8).drop 3 = [93] from rfl]
    simp [bt]
  have hst : ¬(true = false ∧ ([x, 45, y, 93] : List UInt8).head? = some 93) := fun h => by cases h.1
  refine ⟨fun h => ?_, fun h => ?_⟩
  · have hP : parseV [91, x, 45, y, 93] = some (fun c : Nat => (spanP (x.toNat : Nat) (y.toNat : Nat) c) != false, 5) := by
      unfold parseV
      rw [if_pos (show ([91, x, 45, y, 93] : List UInt8).head? = some 91 from rfl), show ([91, x, 45, y, 93] : List UInt8).drop 1 = [x, 45, y, 93] from rfl, if_neg h94, loopF_next hst (by rw [hp, if_pos h]), loopF_end _ _ rfl]
      simp
    rw [parseA_zero, hP]
    exact ⟨SA_ext fun c _ => by simp, rfl⟩
  · have hP : parseV [91, x, 45, y, 93] = none := by
      unfold parseV
      rw [if_pos (show ([91, x, 45, y, 93] : List UInt8).head? = some 91 from rfl), show ([91, x, 45, y, 93] : List UInt8).drop 1 = [x, 45, y, 93] from rfl, if_neg h94, loopF_none hst (by rw [hp, if_neg h])]
      rfl
    rw [parseA_zero, hP]
set_option maxHeartbeats 1000000 in
theorem letter_any (n : Nat) (w : World) (hn : n ≤ 255) : Calls Try.prog 15 #[.int .u8 n] w fun e w' => e = .returned (.int .u8 (letN n)) ∧ w = w' := by
  have hm : Int.tmod (n : Int) 62 = ((n % 62 : Nat) : Int) := by rw [Int.tmod_eq_emod_of_nonneg (by omega)]; rfl
  have hL : letN n = if n % 62 < 10 then 48 + n % 62 else if n % 62 < 36 then 55 + n % 62 else 61 + n % 62 := rfl
  have HL := Lib.hid hL
  clear hL
  go_enter Try.func15, Try.ntmps15
  go_wp2_with fail
  all_goals
    go_ret
    refine ⟨congrArg (fun z => Ending.returned (.int .u8 z)) ?_, rfl⟩
    rw [HL.out]
    clear HL
  all_goals
    (repeat' split) <;> omega
end Go.Proofs.Ytcfkniejpeakdaa
