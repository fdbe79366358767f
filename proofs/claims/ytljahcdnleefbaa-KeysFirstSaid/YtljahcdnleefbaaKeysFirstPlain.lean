/-
  Keys: what is behind a command makes no difference; beginnings are More; what is More becomes a command.
-/
import Derived.Test.YtljahcdnleefbaaKeysMay
namespace Go.Proofs.Ytljahcdnleefbaa

theorem run_less (s : St) (l : List Int) (u : Nat) : ∀ i, i + u < (runK s l u).2.1 → (runK s (l.take i) u).2.2 = 0 := by
  induction l generalizing s u with
  | nil => intro i h; simp [runK] at h
  | cons b l ih =>
    intro i h
    cases i with
    | zero => rfl
    | succ i =>
      simp only [List.take_succ_cons, runK] at h ⊢
      cases e : step s b with
      | on s' => rw [e] at h; exact ih s' (u + 1) i (by simp only at h; omega)
      | off k z => rw [e] at h; simp only at h; omega
theorem run_whole (s : St) (l : List Int) (u : Nat) (h : (runK s l u).2.2 ≠ 0) : u + 1 ≤ (runK s l u).2.1 ∧ (runK s l u).2.1 ≤ u + l.length ∧ ∀ t, runK s (l.take ((runK s l u).2.1 - u) ++ t) u = runK s l u := by
  induction l generalizing s u with
  | nil => simp [runK] at h
  | cons b l ih =>
    simp only [runK] at h ⊢
    cases e : step s b with
    | on s' =>
      rw [e] at h
      obtain ⟨h1, h2, h3⟩ := ih s' (u + 1) h
      simp only
      refine ⟨by omega, by simp only [List.length_cons]; omega, fun t => ?_⟩
      obtain ⟨d, hd⟩ : ∃ d, (runK s' l (u + 1)).2.1 - u = d + 1 := ⟨(runK s' l (u + 1)).2.1 - (u + 1), by omega⟩
      have hd' : (runK s' l (u + 1)).2.1 - (u + 1) = d := by omega
      rw [hd, List.take_succ_cons, List.cons_append]
      simp only [runK, e]
      have := h3 t
      rw [hd'] at this
      exact this
    | off k z =>
      simp only
      refine ⟨by omega, by simp, fun t => ?_⟩
      have : u + 1 - u = 1 := by omega
      rw [this]
      simp [runK, e]
theorem run_more (s : St) (l : List Int) (u : Nat) (hg : Good s) (hb : ∀ c ∈ l, 0 ≤ c ∧ c ≤ 255) (h : (runK s l u).2.2 = 0) : runK s l u = (key0, 0, 0) ∧ ∃ s', Good s' ∧ ∀ t, runK s (l ++ t) u = runK s' t (u + l.length) := by
  induction l generalizing s u with
  | nil => exact ⟨rfl, s, hg, fun t => rfl⟩
  | cons b l ih =>
    have hs := step_good s b hg (hb b (by simp))
    simp only [runK] at h ⊢
    cases e : step s b with
    | on s' =>
      rw [e] at h
      obtain ⟨h1, s2, h2, h3⟩ := ih s' (u + 1) (hs.1 s' e) (fun c hc => hb c (by simp [hc])) h
      refine ⟨h1, s2, h2, fun t => ?_⟩
      simp only [List.cons_append, runK, e]
      rw [h3 t]
      simp only [List.length_cons]
      congr 1
      omega
    | off k z =>
      rw [e] at h
      simp only at h
      subst h
      rcases hs.2 k 0 e with ⟨h, _⟩ | ⟨h, _⟩ <;> exact absurd h (by decide)
theorem like_120 : like 120 = 120 := by decide
theorem like_119 : like 119 = 119 := by decide
theorem dig_120 (n : Int) : isDig n 120 = false := by simp [isDig]
theorem dig_119 (n : Int) : isDig n 119 = false := by simp [isDig]
/-- Some bytes more make a command of a beginning: x, w or aw. -/
theorem run_ends (s : St) (u : Nat) : (runK s [120] u).2.2 = 1 ∨ (runK s [119] u).2.2 = 1 ∨ (runK s [97, 119] u).2.2 = 1 := by
  have o1 : isOp 120 = false := by decide
  have o2 : isLet 120 = false := by decide
  have o3 : isMot 120 = false := by decide
  have o4 : isOth 120 = true := by decide
  have o5 : isMot 119 = true := by decide
  have o6 : isOp 119 = false := by decide
  have o7 : isLet 119 = false := by decide
  have o8 : isReg 97 = true := by decide
  cases s with
  | start => left; simp [runK, step, stepCnt, dig_120, like_120, o1, o2, o3, o4]
  | reg => right; right; simp [runK, step, stepCnt, dig_119, like_119, o5, o6, o7, o8]
  | cnt r n => left; simp [runK, step, stepCnt, dig_120, like_120, o1, o2, o3, o4]
  | opr r n c m => right; left; simp [runK, step, stepOpr, dig_119, like_119, o5]
  | ltr k => left; rfl

theorem parse_less (s : ByteArray) (i : Nat) (h : i < (parseV (codes s)).2.1) : (parseV ((codes s).take i)).2.2 = 0 := by
  rw [parse_run] at h ⊢
  exact run_less .start _ 0 i (by omega)
theorem parse_whole (s : ByteArray) (h : (parseV (codes s)).2.2 ≠ 0) : 1 ≤ (parseV (codes s)).2.1 ∧ (parseV (codes s)).2.1 ≤ s.size ∧ ∀ t, parseV ((codes s).take (parseV (codes s)).2.1 ++ t) = parseV (codes s) := by
  simp only [parse_run] at h ⊢
  have := run_whole .start _ 0 h
  rw [length_codes] at this
  exact ⟨by omega, by omega, this.2.2⟩
theorem parse_more (s : ByteArray) (h : (parseV (codes s)).2.2 = 0) : parseV (codes s) = (key0, 0, 0) ∧ ((parseV (codes s ++ [120])).2.2 = 1 ∨ (parseV (codes s ++ [119])).2.2 = 1 ∨ (parseV (codes s ++ [97, 119])).2.2 = 1) := by
  simp only [parse_run] at h ⊢
  obtain ⟨h1, s', _, h2⟩ := run_more .start _ 0 trivial (codes_byte s) h
  refine ⟨h1, ?_⟩
  simp only [h2]
  exact run_ends s' _
end Go.Proofs.Ytljahcdnleefbaa
