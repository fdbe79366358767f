/-
  Command lines in plain words: blanks ahead, and a number ahead.
-/
import Derived.Test.YtpdlmknbpggohaaDoorPk12
namespace Go.Proofs.YtpdlmknbpggohaaDoor

set_option maxRecDepth 3000 in
theorem skip_blanks {b : List UInt8} (h : ∀ c, c ∈ b → isBl c = true) (l : List UInt8) : skipL (b ++ l) = skipL l := by
  induction b with
  | nil => rfl
  | cons c b ih =>
    unfold skipL at ih ⊢
    rw [List.cons_append, List.dropWhile_cons, if_pos (h c (List.mem_cons_self ..))]
    exact ih fun c hc => h c (List.mem_cons_of_mem _ hc)
set_option maxRecDepth 3000 in
theorem skip_le (l : List UInt8) : (skipL l).length ≤ l.length := (skip_suffix l).length_le
set_option maxRecDepth 3000 in
theorem num_digit {c : UInt8} {r : List UInt8} {x : Nat × List UInt8} (h : numL (c :: r) = some x) (hc : isDig c = true) : x.2.length ≤ r.length := by
  unfold numL at h
  split at h
  · cases h
  · injection h with h
    subst h
    rw [List.dropWhile_cons, if_pos hc]
    exact (List.dropWhile_suffix _).length_le
set_option maxRecDepth 3000 in
theorem loop_fuel : ∀ (n m : Nat) (a : Adr) (t : Bool) (l : List UInt8), l.length < n → l.length < m → loopL n a t l = loopL m a t l := by
  intro n
  induction n with
  | zero => intro m a t l h; omega
  | succ n ih =>
    intro m a t l h1 h2
    obtain ⟨m, rfl⟩ : ∃ k, m = k + 1 := ⟨m - 1, by omega⟩
    unfold loopL
    have hs := skip_le l
    split
    · rfl
    · rename_i c r hcr
      rw [hcr, List.length_cons] at hs
      split
      · cases hn : numL r with
        | none => rfl
        | some x =>
          have := (num_suffix hn).length_le
          simp only [Option.bind_some]
          exact ih m _ _ _ (by omega) (by omega)
      · split
        · rename_i hd
          cases hn : numL (c :: r) with
          | none => rfl
          | some x =>
            have := num_digit hn hd.2
            simp only [Option.bind_some]
            exact ih m _ _ _ (by omega) (by omega)
        · rfl
set_option maxRecDepth 3000 in
theorem one_blanks {b : List UInt8} (h : ∀ c, c ∈ b → isBl c = true) (l : List UInt8) : oneL (b ++ l) = oneL l := by
  unfold oneL
  rw [skip_blanks h]
  cases hb : baseL (skipL l) with
  | none => rfl
  | some x =>
    have h1 := (base_suffix hb).length_le
    have h2 := skip_le l
    simp only [Option.bind_some]
    exact loop_fuel _ _ _ _ _ (by simp; omega) (by omega)
set_option maxRecDepth 3000 in
theorem list_fuel : ∀ (n m : Nat) (us : List Adr) (ss : List Bool) (l k : List UInt8), l.length < n → k.length < m → oneL l = oneL k → listL n us ss l = listL m us ss k := by
  intro n
  induction n with
  | zero => intro m us ss l k h; omega
  | succ n ih =>
    intro m us ss l k h1 h2 h3
    obtain ⟨m, rfl⟩ : ∃ k, m = k + 1 := ⟨m - 1, by omega⟩
    unfold listL
    rw [h3]
    cases ho : oneL k with
    | none => rfl
    | some x =>
      have hl := (one_suffix (h3.trans ho)).length_le
      have hk := (one_suffix ho).length_le
      have hs := skip_le x.2
      simp only [Option.bind_some]
      split
      · rename_i c r hcr
        rw [hcr, List.length_cons] at hs
        split
        · exact ih m _ _ _ _ (by omega) (by omega) rfl
        · rfl
      · rfl
set_option maxRecDepth 3000 in
theorem range_blanks {b : List UInt8} (h : ∀ c, c ∈ b → isBl c = true) (l : List UInt8) : rangeL (b ++ l) = rangeL l := by
  unfold rangeL
  rw [skip_blanks h]
  have hl := list_fuel ((b ++ l).length + 1) (l.length + 1) [] [] (b ++ l) l (Nat.lt_succ_self _) (Nat.lt_succ_self _) (one_blanks h l)
  split
  · split
    · rfl
    · exact hl
  · exact hl
set_option maxRecDepth 3000 in
theorem cmd_blanks {b : List UInt8} (h : ∀ c, c ∈ b → isBl c = true) (l : List UInt8) : cmdL (b ++ l) = cmdL l := by
  unfold cmdL
  rw [range_blanks h]

/-! ### the range is carried along -/
def Cm.ranged (x : Cm) (us : List Adr) (ss : List Bool) : Cm := { x with list := us, semi := ss }
section
variable (us : List Adr) (ss : List Bool)
set_option maxRecDepth 3000 in
theorem suf_r (x : Cm) (s : List UInt8) : sufL (x.ranged us ss) s = (sufL x s).map (·.ranged us ss) := by
  unfold sufL
  split
  · rfl
  · split <;> rfl
  · rfl
set_option maxRecDepth 3000 in
theorem flag_r (k : Nat) : ∀ (said : Bool) (x : Cm) (s : List UInt8), flagL k said (x.ranged us ss) s = (flagL k said x s).map (·.ranged us ss) := by
  induction k with
  | zero => intro said x s; rfl
  | succ k ih =>
    intro said x s
    cases s with
    | nil => rfl
    | cons c l =>
      unfold flagL
      by_cases h1 : c.toNat = 103 ∧ x.all = false
      · rw [if_pos h1, if_pos (show c.toNat = 103 ∧ (x.ranged us ss).all = false from h1)]
        exact ih said { x with all := true } l
      rw [if_neg h1, if_neg (show ¬ (c.toNat = 103 ∧ (x.ranged us ss).all = false) from h1)]
      by_cases h2 : isPln c = true ∧ x.print = 0
      · rw [if_pos h2, if_pos (show isPln c = true ∧ (x.ranged us ss).print = 0 from h2)]
        exact ih said { x with print := c.toNat } l
      rw [if_neg h2, if_neg (show ¬ (isPln c = true ∧ (x.ranged us ss).print = 0) from h2)]
      split
      · exact ih true { x with nth := (thouL 0 (c :: l)).1 } _
      · rfl
set_option maxRecDepth 3000 in
theorem subst_r (x : Cm) (s : List UInt8) : substL (x.ranged us ss) s = (substL x s).map (·.ranged us ss) := by
  unfold substL
  split
  · rfl
  · split
    · rfl
    · split
      · rfl
      · split
        · rfl
        · simp only []
          split
          · rfl
          · exact flag_r us ss _ false { x with re := _, repl := _, nth := 1 } _
set_option maxRecDepth 3000 in
theorem glob_r (x : Cm) (s : List UInt8) : globL (x.ranged us ss) s = (globL x s).map (·.ranged us ss) := by
  unfold globL
  split <;> rfl
set_option maxRecDepth 3000 in
theorem dest_r (x : Cm) (s : List UInt8) : destL (x.ranged us ss) s = (destL x s).map (·.ranged us ss) := by
  unfold destL
  split
  · rfl
  · rename_i y _
    exact suf_r us ss { x with dest := y.1 } y.2
set_option maxRecDepth 3000 in
theorem let_r (x : Cm) (must : Bool) (s : List UInt8) : letL (x.ranged us ss) must s = (letL x must s).map (·.ranged us ss) := by
  unfold letL
  split
  · split <;> rfl
  · rename_i c l _
    split
    · exact suf_r us ss { x with letter := c.toNat } l
    · rfl
set_option maxRecDepth 3000 in
theorem named_r (x : Cm) (c : Nat) (s : List UInt8) : namedL (x.ranged us ss) c s = (namedL x c s).map (·.ranged us ss) := by
  unfold namedL
  simp only []
  split
  · exact suf_r us ss { x with name := c } s
  split
  · exact let_r us ss { x with name := c } true s
  split
  · exact dest_r us ss { x with name := c } s
  split
  · exact subst_r us ss { x with name := c } s
  split
  · exact glob_r us ss { x with name := c } s
  split
  · unfold countL
    split <;> rfl
  split
  · split <;> rfl
  split
  · split <;> rfl
  · rfl
set_option maxRecDepth 3000 in
theorem rest_r (x : Cm) (l : List UInt8) : restL (x.ranged us ss) l = (restL x l).map (·.ranged us ss) := by
  unfold restL
  split
  · rfl
  · split
    · exact let_r us ss { x with name := 89 } false _
    · split
      · exact let_r us ss { x with name := 80 } false _
      · exact named_r us ss x _ _
end

/-! ### a number ahead -/
set_option maxRecDepth 3000 in
theorem list_first (n : Nat) : ∀ {us : List Adr} {ss : List Bool} {l : List UInt8} {x : List Adr × List Bool × List UInt8}, listL n us ss l = some x → us = [] ∨ x.1 ≠ [] := by
  induction n with
  | zero => intro us ss l x h; cases h
  | succ n ih =>
    intro us ss l x h
    by_cases h0 : us = []
    · exact .inl h0
    · right
      unfold listL at h
      rw [Option.bind_eq_some_iff] at h
      obtain ⟨y, hy, h⟩ := h
      have key : (if us ≠ [] ∨ y.1.kind ≠ 0 then us ++ [y.1] else us) ≠ [] := by rw [if_pos (.inl h0)]; simp
      split at h
      · split at h
        · rcases ih h with h1 | h1
          · simp at h1
          · exact h1
        · injection h with h; subst h; exact key
      · injection h with h; subst h; exact key
set_option maxRecDepth 3000 in
theorem loop_kind (n : Nat) : ∀ {a : Adr} {l : List UInt8} {x : Adr × List UInt8}, loopL n a true l = some x → x.1.kind = a.kind := by
  induction n with
  | zero => intro a l x h; cases h
  | succ n ih =>
    intro a l x h
    unfold loopL at h
    split at h
    · injection h with h; subst h; rfl
    · split at h
      · rw [Option.bind_eq_some_iff] at h
        obtain ⟨y, hy, h⟩ := h
        have h2 := ih h
        simpa using h2
      · split at h
        · rw [Option.bind_eq_some_iff] at h
          obtain ⟨y, hy, h⟩ := h
          have h2 := ih h
          exact h2
        · injection h with h; subst h; rfl
set_option maxRecDepth 3000 in
/-- Where no address stands. -/
theorem one_none {c : UInt8} {l : List UInt8} {x : Adr × List UInt8} (hc : isBl c = false) (h : oneL (c :: l) = some x) (hk : x.1.kind = 0) : x = (adr0, c :: l) ∧ isDig c = false ∧ c.toNat ≠ 43 ∧ c.toNat ≠ 45 := by
  have hs : skipL (c :: l) = c :: l := by unfold skipL; rw [List.dropWhile_cons, if_neg (by rw [hc]; decide)]
  unfold oneL at h
  rw [hs, Option.bind_eq_some_iff] at h
  obtain ⟨y, hy, h⟩ := h
  have there : ∀ {k : Nat}, k ≠ 0 → y.1.kind = k → y.2.length < (c :: l).length → False := fun hk0 h1 h2 => by
    rw [show decide (y.2.length < (c :: l).length) = true from decide_eq_true h2] at h
    have := loop_kind _ h
    omega
  unfold baseL at hy
  split at hy
  · rename_i e; cases e
  rename_i c' l' e
  injection e with e1 e2
  subst e1 e2
  split at hy
  · injection hy with hy; subst hy; exact (there (k := 1) (by decide) rfl (Nat.lt_succ_self _)).elim
  split at hy
  · injection hy with hy; subst hy; exact (there (k := 2) (by decide) rfl (Nat.lt_succ_self _)).elim
  split at hy
  · split at hy
    · cases hy
    · split at hy
      · injection hy with hy; subst hy; exact (there (k := 4) (by decide) rfl (by simp; omega)).elim
      · cases hy
  split at hy
  · injection hy with hy
    subst hy
    refine (there (k := if c.toNat = 63 then 6 else 5) (by split <;> decide) rfl ?_).elim
    exact Nat.lt_succ_of_le (delim_suffix c l).length_le
  split at hy
  · rename_i hd
    rw [Option.map_eq_some_iff] at hy
    obtain ⟨z, hz, rfl⟩ := hy
    exact (there (k := 3) (by decide) rfl (Nat.lt_succ_of_le (num_digit hz hd))).elim
  · rename_i hd
    injection hy with hy
    subst hy
    rw [show decide ((c :: l).length < (c :: l).length) = false from decide_eq_false (Nat.lt_irrefl _)] at h
    unfold loopL at h
    rw [hs] at h
    simp only [] at h
    split at h
    · rw [Option.bind_eq_some_iff] at h
      obtain ⟨z, hz, h⟩ := h
      have := loop_kind _ h
      simp at this
      omega
    · rename_i hpm
      simp at h
      exact ⟨h.symm, by simpa using hd, fun e => hpm (.inl e), fun e => hpm (.inr e)⟩
set_option maxRecDepth 3000 in
theorem range_none {c : UInt8} {l rest : List UInt8} {ss : List Bool} (hc : isBl c = false) (h : rangeL (c :: l) = some ([], ss, rest)) : ss = [] ∧ rest = c :: l ∧ isDig c = false ∧ c.toNat ≠ 43 ∧ c.toNat ≠ 45 ∧ c.toNat ≠ 44 ∧ c.toNat ≠ 59 := by
  have hs : skipL (c :: l) = c :: l := by unfold skipL; rw [List.dropWhile_cons, if_neg (by rw [hc]; decide)]
  unfold rangeL at h
  rw [hs] at h
  simp only [] at h
  split at h
  · injection h with h; injection h with h _; cases h
  · unfold listL at h
    rw [Option.bind_eq_some_iff] at h
    obtain ⟨x, hx, h⟩ := h
    have fin : some (if ([] : List Adr) ≠ [] ∨ x.1.kind ≠ 0 then [] ++ [x.1] else [], ([] : List Bool), x.2) = some ([], ss, rest) → x.1.kind = 0 ∧ ss = [] ∧ rest = x.2 := fun h => by
      injection h with h
      injection h with h1 h2
      injection h2 with h2 h3
      refine ⟨?_, h2.symm, h3.symm⟩
      by_cases hk : x.1.kind = 0
      · exact hk
      · rw [if_pos (.inr hk)] at h1; cases h1
    split at h
    · rename_i d r hd
      split at h
      · rcases list_first _ h with h1 | h1
        · simp at h1
        · exact absurd rfl h1
      · rename_i hcd
        obtain ⟨h1, h2, h3⟩ := fin h
        obtain ⟨k1, k2, k3, k4⟩ := one_none hc hx h1
        subst k1
        rw [hs] at hd
        injection hd with hd1 hd2
        subst hd1
        exact ⟨h2, h3, k2, k3, k4, fun e => hcd (.inl e), fun e => hcd (.inr e)⟩
    · rename_i hn
      obtain ⟨h1, h2, h3⟩ := fin h
      obtain ⟨k1, k2, k3, k4⟩ := one_none hc hx h1
      subst k1
      rw [hs] at hn
      cases hn
set_option maxRecDepth 3000 in
theorem digits_ahead {c : UInt8} {l ds b : List UInt8} (hc : isBl c = false) (hd : ∀ d, d ∈ ds → isDig d = true) (h0 : ds ≠ []) (h10 : ds.length < 10) (hb : ∀ d, d ∈ b → isBl d = true) (k1 : isDig c = false) (k2 : c.toNat ≠ 43) (k3 : c.toNat ≠ 45) (k4 : c.toNat ≠ 44) (k5 : c.toNat ≠ 59) :
    rangeL (ds ++ (b ++ c :: l)) = some ([{ adr0 with kind := 3, n := valD ds }], [], b ++ c :: l) := by
  have hs : skipL (c :: l) = c :: l := by unfold skipL; rw [List.dropWhile_cons, if_neg (by rw [hc]; decide)]
  have hsb : skipL (b ++ c :: l) = c :: l := (skip_blanks hb _).trans hs
  have bl_dig : ∀ d, isDig d = true → isBl d = false ∧ d.toNat ≠ 37 ∧ d.toNat ≠ 46 ∧ d.toNat ≠ 36 ∧ d.toNat ≠ 39 ∧ ¬ (d.toNat = 47 ∨ d.toNat = 63) := fun d h => by
    unfold isDig at h
    simp at h
    refine ⟨?_, by omega, by omega, by omega, by omega, by omega⟩
    unfold isBl
    simp
    omega
  have dig_bl : ∀ d, isBl d = true → isDig d = false := fun d h => by
    cases k : isDig d with
    | false => rfl
    | true => rw [(bl_dig d k).1] at h; cases h
  have hnd : ∀ z, (b ++ c :: l).head? = some z → isDig z = false := fun z hz => by
    cases b with
    | nil => injection hz with hz; subst hz; exact k1
    | cons d b => injection hz with hz; subst hz; exact dig_bl _ (hb _ (List.mem_cons_self ..))
  have htw : (ds ++ (b ++ c :: l)).takeWhile isDig = ds := by
    rw [List.takeWhile_append_of_pos hd]
    cases hq : b ++ c :: l with
    | nil => simp
    | cons z zs => rw [List.takeWhile_cons, if_neg (by rw [hnd z (by rw [hq]; rfl)]; decide)]; simp
  have hdw : (ds ++ (b ++ c :: l)).dropWhile isDig = b ++ c :: l := by
    have := List.takeWhile_append_dropWhile (p := isDig) (l := ds ++ (b ++ c :: l))
    rw [htw] at this
    exact List.append_cancel_left this
  have hnum : numL (ds ++ (b ++ c :: l)) = some (valD ds, b ++ c :: l) := by unfold numL; rw [htw, hdw, if_neg (by omega)]
  cases ds with
  | nil => exact absurd rfl h0
  | cons d ds =>
    obtain ⟨p0, p1, p2, p3, p4, p5⟩ := bl_dig d (hd d (List.mem_cons_self ..))
    have hdd := hd d (List.mem_cons_self ..)
    have hsd : skipL (d :: ds ++ (b ++ c :: l)) = d :: (ds ++ (b ++ c :: l)) := by unfold skipL; rw [List.cons_append, List.dropWhile_cons, if_neg (by rw [p0]; decide)]
    have hbase : baseL (d :: (ds ++ (b ++ c :: l))) = some ({ adr0 with kind := 3, n := valD (d :: ds) }, b ++ c :: l) := by
      unfold baseL
      simp only []
      rw [if_neg p2, if_neg p3, if_neg p4, if_neg p5, if_pos hdd]
      rw [show d :: (ds ++ (b ++ c :: l)) = d :: ds ++ (b ++ c :: l) from rfl, hnum]
      rfl
    have hone : oneL (d :: ds ++ (b ++ c :: l)) = some ({ adr0 with kind := 3, n := valD (d :: ds) }, b ++ c :: l) := by
      unfold oneL
      rw [hsd, hbase]
      simp only [Option.bind_some]
      unfold loopL
      rw [hsb]
      simp only []
      rw [if_neg (by omega), if_neg (by rw [k1]; simp)]
    unfold rangeL
    rw [hsd]
    simp only []
    rw [if_neg p1]
    unfold listL
    rw [hone]
    simp only [Option.bind_some]
    rw [hsb]
    simp only []
    rw [if_neg (by omega), if_pos (.inr (by simp))]
    rfl
set_option maxRecDepth 3000 in
/-- A number ahead of a command that has no range. -/
theorem cmd_digits {c : UInt8} {l ds b : List UInt8} {a : Cm} (h : cmdL (c :: l) = .ok a) (hl : a.list = []) (hc : isBl c = false) (hd : ∀ d, d ∈ ds → isDig d = true) (h0 : ds ≠ []) (h10 : ds.length < 10) (hb : ∀ d, d ∈ b → isBl d = true) (hlist : ∃ rest, rangeL (c :: l) = some (a.list, a.semi, rest)) :
    cmdL (ds ++ (b ++ c :: l)) = .ok (a.ranged [{ adr0 with kind := 3, n := valD ds }] []) := by
  obtain ⟨rest, hr⟩ := hlist
  rw [hl] at hr
  obtain ⟨e1, rfl, k1, k2, k3, k4, k5⟩ := range_none hc hr
  unfold cmdL at h ⊢
  rw [digits_ahead hc hd h0 h10 hb k1 k2 k3 k4 k5]
  rw [hr] at h
  simp only [] at h ⊢
  have hs : skipL (b ++ c :: l) = skipL (c :: l) := skip_blanks hb _
  have e : restL (cm0 [{ adr0 with kind := 3, n := valD ds }] []) (b ++ c :: l) = restL ((cm0 [] a.semi).ranged [{ adr0 with kind := 3, n := valD ds }] []) (c :: l) := by
    unfold restL
    rw [hs]
    rfl
  rw [e, rest_r, h]
  rfl
/-- A number in digits. -/
def decN (n : Nat) : List UInt8 := if _h : n = 0 then [] else decN (n / 10) ++ [UInt8.ofNat (48 + n % 10)]
termination_by n
set_option maxRecDepth 3000 in
theorem decN_zero : decN 0 = [] := by unfold decN; rfl
set_option maxRecDepth 3000 in
theorem decN_pos {n : Nat} (h : 0 < n) : decN n = decN (n / 10) ++ [UInt8.ofNat (48 + n % 10)] := by
  conv => lhs; unfold decN
  rw [dif_neg (by omega)]
set_option maxRecDepth 3000 in
theorem digit_of (k : Nat) (h : k < 10) : (UInt8.ofNat (48 + k)).toNat = 48 + k := by
  simp; omega
set_option maxRecDepth 3000 in
theorem decN_dig : ∀ (n : Nat) (d : UInt8), d ∈ decN n → isDig d = true := by
  intro n
  induction n using Nat.strongRecOn with
  | ind n ih =>
    intro d hd
    by_cases h : n = 0
    · subst h; rw [decN_zero] at hd; cases hd
    · rw [decN_pos (by omega), List.mem_append] at hd
      rcases hd with hd | hd
      · exact ih (n / 10) (by omega) d hd
      · rw [List.mem_singleton] at hd
        subst hd
        unfold isDig
        rw [digit_of _ (by omega)]
        simp; omega
set_option maxRecDepth 3000 in
theorem decN_val : ∀ n : Nat, valD (decN n) = n := by
  intro n
  induction n using Nat.strongRecOn with
  | ind n ih =>
    by_cases h : n = 0
    · subst h; rw [decN_zero]; rfl
    · rw [decN_pos (by omega)]
      have h1 := ih (n / 10) (by omega)
      unfold valD at h1 ⊢
      rw [List.foldl_append, h1]
      simp only [List.foldl_cons, List.foldl_nil]
      rw [digit_of _ (by omega)]
      omega
set_option maxRecDepth 3000 in
theorem decN_len : ∀ (k n : Nat), n < 10 ^ k → (decN n).length ≤ k := by
  intro k
  induction k with
  | zero => intro n h; have : n = 0 := by simp at h; omega
            subst this; rw [decN_zero]; exact Nat.le_refl _
  | succ k ih =>
    intro n h
    by_cases h0 : n = 0
    · subst h0; rw [decN_zero]; exact Nat.zero_le _
    · rw [decN_pos (by omega), List.length_append]
      have := ih (n / 10) (by rw [Nat.pow_succ] at h; omega)
      simp; omega
end Go.Proofs.YtpdlmknbpggohaaDoor
