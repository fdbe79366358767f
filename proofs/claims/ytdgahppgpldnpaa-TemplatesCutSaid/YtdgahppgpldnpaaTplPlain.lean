/-
  Templates: the pieces of a replacement, in plain words.
-/
import Derived.Test.YtdgahppgpldnpaaIdxAny
namespace Go.Proofs.Ytdgahppgpldnpaa
open Go.RowKit

/-- A piece: a text, or a group. -/
inductive Tok where
  | text (l : List UInt8)
  | grp (n : Nat)
/-- How far the next '&' or backslash is. -/
def ampAt : List UInt8 → Nat
  | [] => 0
  | c :: s => if c.toNat = 38 ∨ c.toNat = 92 then 0 else ampAt s + 1
theorem ampAt_le (s : List UInt8) : ampAt s ≤ s.length := by
  induction s with
  | nil => simp [ampAt]
  | cons c s ih => unfold ampAt; split <;> simp <;> omega
theorem ampAt_index (s : List UInt8) : Lib.indexAny s [38, 92] = if ampAt s < s.length then (ampAt s : Int) else -1 := by
  induction s with
  | nil => rfl
  | cons c s ih =>
    unfold Lib.indexAny ampAt
    rw [contains_of]
    by_cases h : c.toNat = 38 ∨ c.toNat = 92
    · rw [if_pos (by simpa using h), if_pos h]; simp
    · rw [if_neg (by simpa using h), if_neg h, ih]
      by_cases h2 : ampAt s < s.length
      · have h3 : ((ampAt s : Int) == -1) = false := by rw [beq_eq_false_iff_ne]; omega
        have h4 : ampAt s + 1 < (c :: s).length := by rw [List.length_cons]; omega
        rw [if_pos h4]
        simp only [if_pos h2, h3, Bool.false_eq_true, if_false]
        simp
      · have h4 : ¬ampAt s + 1 < (c :: s).length := by rw [List.length_cons]; omega
        rw [if_neg h4]
        simp only [if_neg h2]
        rfl
/-- The piece of a byte behind a backslash. -/
def behindV (c : UInt8) : Tok := if 49 ≤ c.toNat ∧ c.toNat ≤ 57 then .grp (c.toNat - 48) else if c.toNat = 110 then .text [10] else .text [c]
/-- The pieces; none: it is no replacement. -/
def tokV : Nat → List UInt8 → Option (List Tok)
  | 0, _ => none
  | _ + 1, [] => some []
  | n + 1, c :: s =>
    if 0 < ampAt (c :: s) then (tokV n ((c :: s).drop (ampAt (c :: s)))).map fun l => .text ((c :: s).take (ampAt (c :: s))) :: l
    else if c.toNat = 38 then (tokV n s).map fun l => .grp 0 :: l
    else match s with
      | [] => none
      | d :: t => (tokV n t).map fun l => behindV d :: l
/-- Is a text a replacement? -/
def chkB : List UInt8 → Bool
  | [] => true
  | [c] => decide (c.toNat ≠ 92)
  | c :: d :: t => if c.toNat = 92 then chkB t else chkB (d :: t)
/-- The greatest group. -/
def mostB : List UInt8 → Nat
  | [] => 0
  | [_] => 0
  | c :: d :: t => if c.toNat = 92 then max (if 49 ≤ d.toNat ∧ d.toNat ≤ 57 then d.toNat - 48 else 0) (mostB t) else mostB (d :: t)
def mostT : List Tok → Nat
  | [] => 0
  | .grp n :: l => max n (mostT l)
  | .text _ :: l => mostT l
def toldV (g : Nat → List UInt8) : Tok → List UInt8
  | .text l => l
  | .grp n => g n
/-- The expansion, byte by byte. -/
def expB (g : Nat → List UInt8) : List UInt8 → List UInt8
  | [] => []
  | [c] => if c.toNat = 38 then g 0 else [c]
  | c :: d :: t => if c.toNat = 38 then g 0 ++ expB g (d :: t) else if c.toNat = 92 then toldV g (behindV d) ++ expB g t else c :: expB g (d :: t)
theorem chk_text (l : List UInt8) : ∀ (r : List UInt8), (∀ c ∈ l, c.toNat ≠ 38 ∧ c.toNat ≠ 92) → chkB (l ++ r) = chkB r := by
  induction l with
  | nil => intro r _; rfl
  | cons c l ih =>
    intro r h
    have hc := (h c (by simp)).2
    have hi := ih r (fun x hx => h x (by simp [hx]))
    rw [List.cons_append]
    cases hl : l ++ r with
    | nil => rw [hl] at hi; rw [← hi]; simp [chkB, hc]
    | cons d t =>
      rw [hl] at hi
      conv => lhs; unfold chkB; rw [if_neg hc]
      exact hi
theorem most_text (l : List UInt8) : ∀ (r : List UInt8), (∀ c ∈ l, c.toNat ≠ 38 ∧ c.toNat ≠ 92) → mostB (l ++ r) = mostB r := by
  induction l with
  | nil => intro r _; rfl
  | cons c l ih =>
    intro r h
    have hc := (h c (by simp)).2
    have hi := ih r (fun x hx => h x (by simp [hx]))
    rw [List.cons_append]
    cases hl : l ++ r with
    | nil => rw [hl] at hi; rw [← hi]; simp [mostB]
    | cons d t =>
      rw [hl] at hi
      conv => lhs; unfold mostB; rw [if_neg hc]
      exact hi
theorem exp_text (g : Nat → List UInt8) (l : List UInt8) : ∀ (r : List UInt8), (∀ c ∈ l, c.toNat ≠ 38 ∧ c.toNat ≠ 92) → expB g (l ++ r) = l ++ expB g r := by
  induction l with
  | nil => intro r _; rfl
  | cons c l ih =>
    intro r h
    have hc := h c (by simp)
    have hi := ih r (fun x hx => h x (by simp [hx]))
    rw [List.cons_append]
    cases hl : l ++ r with
    | nil =>
      have h1 : l = [] := (List.append_eq_nil_iff.1 hl).1
      have h2 : r = [] := (List.append_eq_nil_iff.1 hl).2
      subst h1 h2
      simp [expB, hc.1]
    | cons d t =>
      rw [hl] at hi
      conv => lhs; unfold expB; rw [if_neg hc.1, if_neg hc.2, hi]
      rfl
theorem ampAt_text (s : List UInt8) : ∀ c ∈ s.take (ampAt s), c.toNat ≠ 38 ∧ c.toNat ≠ 92 := by
  induction s with
  | nil => intro c hc; simp at hc
  | cons a s ih =>
    intro c hc
    unfold ampAt at hc
    split at hc
    · simp at hc
    · rename_i h
      rw [List.take_succ_cons, List.mem_cons] at hc
      rcases hc with rfl | hc
      · omega
      · exact ih c hc
/-- What the pieces say is what the document says byte by byte. -/
theorem tokV_law (n : Nat) : ∀ (s : List UInt8), s.length < n → match tokV n s with
    | none => chkB s = false
    | some l => chkB s = true ∧ mostT l = mostB s ∧ ∀ g, (l.map (toldV g)).flatten = expB g s := by
  induction n with
  | zero => intro s h; omega
  | succ n ih =>
    intro s hs
    cases s with
    | nil => exact ⟨rfl, rfl, fun g => rfl⟩
    | cons c s =>
      unfold tokV
      by_cases h1 : 0 < ampAt (c :: s)
      · rw [if_pos h1]
        have hle := ampAt_le (c :: s)
        have ht := ampAt_text (c :: s)
        have hi := ih ((c :: s).drop (ampAt (c :: s))) (by rw [List.length_drop]; simp at hs ⊢; omega)
        have hsp : c :: s = (c :: s).take (ampAt (c :: s)) ++ (c :: s).drop (ampAt (c :: s)) := (List.take_append_drop _ _).symm
        generalize (c :: s).take (ampAt (c :: s)) = u at *
        generalize (c :: s).drop (ampAt (c :: s)) = v at *
        rw [hsp]
        cases hv : tokV n v with
        | none => rw [hv] at hi; simp only [Option.map_none]; rw [chk_text u v ht]; exact hi
        | some l =>
          rw [hv] at hi
          simp only [Option.map_some]
          rw [chk_text u v ht, most_text u v ht]
          refine ⟨hi.1, hi.2.1, fun g => ?_⟩
          rw [exp_text g u v ht, List.map_cons, List.flatten_cons, hi.2.2 g]; rfl
      · rw [if_neg h1]
        have hc : c.toNat = 38 ∨ c.toNat = 92 := by
          unfold ampAt at h1
          split at h1
          · assumption
          · omega
        by_cases h2 : c.toNat = 38
        · rw [if_pos h2]
          have hi := ih s (by simp at hs; omega)
          have e1 : chkB (c :: s) = chkB s := by
            cases s with
            | nil => simp [chkB, h2]
            | cons d t => conv => lhs; unfold chkB; rw [if_neg (by omega)]
          have e2 : mostB (c :: s) = mostB s := by
            cases s with
            | nil => rfl
            | cons d t => conv => lhs; unfold mostB; rw [if_neg (by omega)]
          have e3 : ∀ g, expB g (c :: s) = g 0 ++ expB g s := fun g => by
            cases s with
            | nil => simp [expB, h2]
            | cons d t => conv => lhs; unfold expB; rw [if_pos h2]
          cases hv : tokV n s with
          | none => rw [hv] at hi; simp only [Option.map_none]; rw [e1]; exact hi
          | some l =>
            rw [hv] at hi
            simp only [Option.map_some]
            rw [e1, e2]
            refine ⟨hi.1, by rw [← hi.2.1]; simp [mostT], fun g => ?_⟩
            rw [e3, List.map_cons, List.flatten_cons, hi.2.2 g]; rfl
        · rw [if_neg h2]
          have h3 : c.toNat = 92 := by omega
          cases s with
          | nil => simp only []; simp [chkB, h3]
          | cons d t =>
            simp only []
            have hi := ih t (by simp at hs; omega)
            have e1 : chkB (c :: d :: t) = chkB t := by conv => lhs; unfold chkB; rw [if_pos h3]
            have e2 : mostB (c :: d :: t) = max (if 49 ≤ d.toNat ∧ d.toNat ≤ 57 then d.toNat - 48 else 0) (mostB t) := by conv => lhs; unfold mostB; rw [if_pos h3]
            have e3 : ∀ g, expB g (c :: d :: t) = toldV g (behindV d) ++ expB g t := fun g => by conv => lhs; unfold expB; rw [if_neg h2, if_pos h3]
            cases hv : tokV n t with
            | none => rw [hv] at hi; simp only [Option.map_none]; rw [e1]; exact hi
            | some l =>
              rw [hv] at hi
              simp only [Option.map_some]
              rw [e1, e2]
              refine ⟨hi.1, ?_, fun g => ?_⟩
              · unfold behindV
                split
                · simp [mostT, hi.2.1]
                · split <;> simp [mostT, hi.2.1]
              · rw [e3, List.map_cons, List.flatten_cons, hi.2.2 g]
end Go.Proofs.Ytdgahppgpldnpaa
