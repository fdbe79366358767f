/-
  Keys, in plain words: the command with which bytes begin, as the program's text reads it, as the document's text does, and byte by byte; all three are the same.
-/
import Derived.Test.YtljahcdnleefbaaKit
namespace Go.Proofs.Ytljahcdnleefbaa

/-- The bytes of a text, as numbers. -/
def codes (s : ByteArray) : List Int := s.data.toList.map fun c => (c.toNat : Int)
@[simp] theorem length_codes (s : ByteArray) : (codes s).length = s.size := by simp [codes]
theorem codes_byte (s : ByteArray) : ∀ c ∈ codes s, 0 ≤ c ∧ c ≤ 255 := by
  intro c hc
  simp only [codes, List.mem_map] at hc
  obtain ⟨u, _, rfl⟩ := hc
  have := u.toNat_lt
  omega

structure Key where
  reg : Int
  count : Int
  name : Int
  motion : Int
  letter : Int
def key0 : Key := ⟨0, 0, 0, 0, 0⟩
def like (c : Int) : Int := if c = 32 then 108 else if c = 8 then 104 else if c = 10 then 106 else if c = 13 then 43 else c
def isOp (c : Int) : Bool := [100, 99, 121, 60, 62].contains c
def isLet (c : Int) : Bool := [102, 70, 116, 84, 39].contains c
def isMot (c : Int) : Bool := [104, 106, 107, 108, 48, 94, 36, 119, 98, 101, 87, 66, 69, 71, 59, 44, 110, 78, 43, 45, 124].contains c
def isOth (c : Int) : Bool := [105, 73, 97, 65, 111, 79, 82, 120, 88, 68, 67, 89, 112, 80, 74, 126, 117, 46, 58, 47, 63].contains c
def isReg (c : Int) : Bool := (decide (97 ≤ c) && decide (c ≤ 122)) || (decide (65 ≤ c) && decide (c ≤ 90)) || (decide (49 ≤ c) && decide (c ≤ 57))
def timesV (a b : Int) : Int := if a = 0 ∨ b = 0 then a + b else min (a * b) 9999
/-- Is it a digit of a count that is n so far? -/
def isDig (n c : Int) : Bool := decide (48 ≤ c) && decide (c ≤ 57) && (decide (0 < n) || decide (48 < c))

/-- A count: its number, how many bytes it has, and whether it may be. -/
def digs : List Int → Int → Int × Nat × Bool
  | [], n => (n, 0, true)
  | c :: r, n => if isDig n c then (if 9999 < 10 * n + (c - 48) then (0, 1, false) else ((digs r (10 * n + (c - 48))).1, (digs r (10 * n + (c - 48))).2.1 + 1, (digs r (10 * n + (c - 48))).2.2)) else (n, 0, true)

/-! ### as the program reads -/
def nextV (l : List Int) (i : Nat) (what : Int) : Int × Nat × Int :=
  if what ≠ 1 then (0, i, what) else if h : i < l.length then (l[i], i + 1, 1) else (0, i, 0)
def badV (what : Int) : Int := if what = 1 then 2 else what
def countV (l : List Int) (i : Nat) (what : Int) : (Int × Int) × Nat × Int :=
  if what ≠ 1 then ((0, 0), i, what) else
  if (digs (l.drop i) 0).2.2 = true then (((digs (l.drop i) 0).1, like (nextV l (i + (digs (l.drop i) 0).2.1) 1).1), (nextV l (i + (digs (l.drop i) 0).2.1) 1).2)
  else ((0, 0), i + (digs (l.drop i) 0).2.1, 2)
def regV (l : List Int) : Int × Nat × Int :=
  if l.head? = some 34 then (if h : 1 < l.length then (if isReg l[1] then (l[1], 2, 1) else (0, 2, 2)) else (0, 1, 0)) else (0, 0, 1)
/-- The key and the hand behind an operator: its count, motion, letter; place, what. -/
def operV (l : List Int) (k : Key) (i : Nat) (what : Int) : Key × Nat × Int :=
  let x := countV l i what
  if x.1.2 = k.name ∨ isMot x.1.2 = true then ({ k with count := timesV k.count x.1.1, motion := x.1.2 }, x.2) else
  if isLet x.1.2 then ({ k with count := timesV k.count x.1.1, motion := x.1.2, letter := (nextV l x.2.1 x.2.2).1 }, (nextV l x.2.1 x.2.2).2) else
  ({ k with count := timesV k.count x.1.1, motion := x.1.2 }, x.2.1, badV x.2.2)
def finV (x : Key × Nat × Int) : Key × Nat × Int := (if x.2.2 ≠ 1 then key0 else x.1, if x.2.2 = 0 then 0 else x.2.1, x.2.2)
def parseV (l : List Int) : Key × Nat × Int :=
  let r := regV l
  let x := countV l r.2.1 r.2.2
  let k : Key := ⟨r.1, x.1.1, x.1.2, 0, 0⟩
  finV (if x.2.2 ≠ 1 then (k, x.2) else if isOp x.1.2 then operV l k x.2.1 x.2.2 else
    if isLet x.1.2 ∨ x.1.2 = 114 ∨ x.1.2 = 109 then ({ k with letter := (nextV l x.2.1 x.2.2).1 }, (nextV l x.2.1 x.2.2).2) else
    if isMot x.1.2 ∨ isOth x.1.2 ∨ x.1.2 = 12 then (k, x.2) else (k, x.2.1, badV x.2.2))

/-! ### byte by byte -/
inductive St where
  | start
  | reg
  | cnt (r n : Int)
  | opr (r n c m : Int)
  | ltr (k : Key)
/-- What a byte makes of a beginning: another beginning, or an end. -/
inductive To where
  | on (s : St)
  | off (k : Key) (what : Int)
def stepCnt (r n b : Int) : To :=
  if isDig n b then (if 9999 < 10 * n + (b - 48) then .off key0 2 else .on (.cnt r (10 * n + (b - 48)))) else
  if isOp (like b) then .on (.opr r n (like b) 0) else
  if isLet (like b) ∨ like b = 114 ∨ like b = 109 then .on (.ltr ⟨r, n, like b, 0, 0⟩) else
  if isMot (like b) ∨ isOth (like b) ∨ like b = 12 then .off ⟨r, n, like b, 0, 0⟩ 1 else .off key0 2
def stepOpr (r n c m b : Int) : To :=
  if isDig m b then (if 9999 < 10 * m + (b - 48) then .off key0 2 else .on (.opr r n c (10 * m + (b - 48)))) else
  if like b = c ∨ isMot (like b) = true then .off ⟨r, timesV n m, c, like b, 0⟩ 1 else
  if isLet (like b) then .on (.ltr ⟨r, timesV n m, c, like b, 0⟩) else .off key0 2
def step : St → Int → To
  | .start, b => if b = 34 then .on .reg else stepCnt 0 0 b
  | .reg, b => if isReg b then .on (.cnt b 0) else .off key0 2
  | .cnt r n, b => stepCnt r n b
  | .opr r n c m, b => stepOpr r n c m b
  | .ltr k, b => .off { k with letter := b } 1
def runK : St → List Int → Nat → Key × Nat × Int
  | _, [], _ => (key0, 0, 0)
  | s, b :: l, u => match step s b with
    | .on s' => runK s' l (u + 1)
    | .off k what => (k, u + 1, what)

/-! ### the two are the same -/
theorem drop_tail (l : List Int) (i : Nat) (b : Int) (r : List Int) (h : l.drop i = b :: r) : ∃ hi : i < l.length, l[i] = b ∧ l.drop (i + 1) = r := by
  have hi : i < l.length := by
    rcases Nat.lt_or_ge i l.length with hi | hi
    · exact hi
    · rw [List.drop_eq_nil_of_le hi] at h; cases h
  rw [List.drop_eq_getElem_cons hi] at h
  injection h with h1 h2
  exact ⟨hi, h1, h2⟩
theorem nextV_at (l : List Int) (i : Nat) : nextV l i 1 = match l.drop i with | [] => (0, i, 0) | b :: _ => (b, i + 1, 1) := by
  unfold nextV
  rw [if_neg (by simp)]
  split
  · rename_i h; rw [List.drop_eq_getElem_cons h]
  · rename_i h; rw [List.drop_eq_nil_of_le (by omega)]
theorem nextV_not (l : List Int) (i : Nat) (what : Int) (h : what ≠ 1) : nextV l i what = (0, i, what) := by unfold nextV; rw [if_pos h]
/-- A letter that is still to come. -/
theorem run_ltr (l : List Int) (i : Nat) (k : Key) : runK (.ltr k) (l.drop i) i = finV ({ k with letter := (nextV l i 1).1 }, (nextV l i 1).2) := by
  rw [nextV_at]
  cases h : l.drop i with
  | nil => rfl
  | cons b r => rfl
theorem like_digit (n c : Int) (h : isDig n c = true) : like c = c := by
  simp only [isDig, Bool.and_eq_true, decide_eq_true_eq] at h
  unfold like
  repeat rw [if_neg (by omega)]
/-- An operator's count and motion. -/
theorem run_opr (l : List Int) (r n c : Int) (hc : c ≠ 0) : ∀ (q : List Int) (m : Int) (i : Nat), l.drop i = q →
    runK (.opr r n c m) q i = finV (let x := (digs q m);
      if x.2.2 = true then (let y := nextV l (i + x.2.1) 1;
        if like y.1 = c ∨ isMot (like y.1) = true then (⟨r, timesV n x.1, c, like y.1, 0⟩, y.2) else
        if isLet (like y.1) then (⟨r, timesV n x.1, c, like y.1, (nextV l y.2.1 y.2.2).1⟩, (nextV l y.2.1 y.2.2).2) else (⟨r, timesV n x.1, c, like y.1, 0⟩, y.2.1, badV y.2.2))
      else (⟨r, timesV n x.1, c, 0, 0⟩, i + x.2.1, 2)) := by
  intro q
  induction q with
  | nil =>
    intro m i h
    have e : nextV l i 1 = (0, i, 0) := by rw [nextV_at, h]
    have e0 : like 0 = 0 := by decide
    have e1 : isMot 0 = false := by decide
    have e2 : isLet 0 = false := by decide
    simp [runK, digs, e, e0, e1, e2, Ne.symm hc, finV, badV]
  | cons b q ih =>
    intro m i h
    obtain ⟨hi, hb, hq⟩ := drop_tail l i b q h
    by_cases hd : isDig m b = true
    · by_cases h9 : 9999 < 10 * m + (b - 48)
      · simp [runK, step, stepOpr, digs, hd, h9, finV]
      · have := ih (10 * m + (b - 48)) (i + 1) hq
        simp only [runK, step, stepOpr, digs, hd, h9, if_true, if_false]
        rw [this]
        simp only [Nat.add_assoc, Nat.add_comm 1, Nat.add_left_comm]
    · have e : nextV l i 1 = (b, i + 1, 1) := by rw [nextV_at, h]
      simp only [runK, step, stepOpr, digs, hd, e, if_false, Nat.add_zero, if_true, Bool.false_eq_true]
      by_cases h1 : like b = c ∨ isMot (like b) = true
      · rw [if_pos h1, if_pos h1]; rfl
      · rw [if_neg h1, if_neg h1]
        by_cases h2 : isLet (like b) = true
        · rw [if_pos h2, if_pos h2]
          have := run_ltr l (i + 1) ⟨r, timesV n m, c, like b, 0⟩
          rw [hq] at this
          exact this
        · rw [if_neg h2, if_neg h2]; rfl
theorem op_nonzero {c : Int} (h : isOp c = true) : c ≠ 0 := by
  rintro rfl; exact absurd h (by decide)
theorem not_mot0 : isMot 0 = false := by decide
theorem not_let0 : isLet 0 = false := by decide
theorem oper_run (l : List Int) (r n c : Int) (i : Nat) (hc : isOp c = true) : finV (operV l ⟨r, n, c, 0, 0⟩ i 1) = runK (.opr r n c 0) (l.drop i) i := by
  rw [run_opr l r n c (op_nonzero hc) _ 0 i rfl]
  have h0 := op_nonzero hc
  unfold operV countV
  simp only [ne_eq, not_true_eq_false, if_false]
  by_cases h : (digs (l.drop i) 0).2.2 = true
  · simp only [h, if_true]
  · simp only [h, if_false, Bool.false_eq_true]
    simp [Ne.symm h0, not_mot0, not_let0, finV, badV]
theorem run_cnt (l : List Int) (r : Int) : ∀ (q : List Int) (n : Int) (i : Nat), l.drop i = q →
    runK (.cnt r n) q i = finV (let x := (digs q n);
      if x.2.2 = true then (let y := nextV l (i + x.2.1) 1;
        if y.2.2 ≠ 1 then (⟨r, x.1, like y.1, 0, 0⟩, y.2) else if isOp (like y.1) then operV l ⟨r, x.1, like y.1, 0, 0⟩ y.2.1 y.2.2 else
        if isLet (like y.1) ∨ like y.1 = 114 ∨ like y.1 = 109 then (⟨r, x.1, like y.1, 0, (nextV l y.2.1 y.2.2).1⟩, (nextV l y.2.1 y.2.2).2) else
        if isMot (like y.1) ∨ isOth (like y.1) ∨ like y.1 = 12 then (⟨r, x.1, like y.1, 0, 0⟩, y.2) else (⟨r, x.1, like y.1, 0, 0⟩, y.2.1, badV y.2.2))
      else (⟨r, 0, 0, 0, 0⟩, i + x.2.1, 2)) := by
  intro q
  induction q with
  | nil =>
    intro n i h
    have e : nextV l i 1 = (0, i, 0) := by rw [nextV_at, h]
    simp [runK, digs, e, finV]
  | cons b q ih =>
    intro n i h
    obtain ⟨hi, hb, hq⟩ := drop_tail l i b q h
    by_cases hd : isDig n b = true
    · by_cases h9 : 9999 < 10 * n + (b - 48)
      · simp [runK, step, stepCnt, digs, hd, h9, finV]
      · have := ih (10 * n + (b - 48)) (i + 1) hq
        simp only [runK, step, stepCnt, digs, hd, h9, if_true, if_false]
        rw [this]
        simp only [Nat.add_assoc, Nat.add_comm 1, Nat.add_left_comm]
    · have e : nextV l i 1 = (b, i + 1, 1) := by rw [nextV_at, h]
      simp only [runK, step, stepCnt, digs, hd, e, if_false, Nat.add_zero, if_true, Bool.false_eq_true, ne_eq, not_true_eq_false]
      by_cases h1 : isOp (like b) = true
      · rw [if_pos h1, if_pos h1, oper_run l r n (like b) (i + 1) h1, hq]
      · rw [if_neg h1, if_neg h1]
        by_cases h2 : isLet (like b) = true ∨ like b = 114 ∨ like b = 109
        · rw [if_pos h2, if_pos h2]
          have := run_ltr l (i + 1) ⟨r, n, like b, 0, 0⟩
          rw [hq] at this
          exact this
        · rw [if_neg h2, if_neg h2]
          by_cases h3 : isMot (like b) = true ∨ isOth (like b) = true ∨ like b = 12
          · rw [if_pos h3, if_pos h3]; rfl
          · rw [if_neg h3, if_neg h3]; rfl
/-- From the count on. -/
theorem parse_cnt (l : List Int) (r : Int) (i : Nat) :
    (let x := countV l i 1
     let k : Key := ⟨r, x.1.1, x.1.2, 0, 0⟩
     finV (if x.2.2 ≠ 1 then (k, x.2) else if isOp x.1.2 then operV l k x.2.1 x.2.2 else
      if isLet x.1.2 ∨ x.1.2 = 114 ∨ x.1.2 = 109 then ({ k with letter := (nextV l x.2.1 x.2.2).1 }, (nextV l x.2.1 x.2.2).2) else
      if isMot x.1.2 ∨ isOth x.1.2 ∨ x.1.2 = 12 then (k, x.2) else (k, x.2.1, badV x.2.2))) = runK (.cnt r 0) (l.drop i) i := by
  rw [run_cnt l r _ 0 i rfl]
  unfold countV
  simp only [ne_eq, not_true_eq_false, if_false]
  by_cases h : (digs (l.drop i) 0).2.2 = true
  · simp only [h, if_true]
  · simp [h]
theorem parse_run (l : List Int) : parseV l = runK .start l 0 := by
  unfold parseV regV
  by_cases h : l.head? = some 34
  · rw [if_pos h]
    match l, h with
    | b :: q, h =>
      obtain rfl : b = 34 := by simpa using h
      cases q with
      | nil => simp [countV, finV, runK, step]
      | cons c q =>
        by_cases hc : isReg c = true
        · have := parse_cnt (34 :: c :: q) c 2
          simp only [List.drop_succ_cons, List.drop_zero] at this
          simp only [runK, step, hc, if_true, Nat.zero_add]
          rw [← this]
          simp [hc]
        · simp [runK, step, hc, countV, finV]
  · rw [if_neg h]
    have := parse_cnt l 0 0
    simp only [List.drop_zero] at this
    rw [this]
    cases l with
    | nil => rfl
    | cons b q =>
      have hb : b ≠ 34 := by simpa using h
      simp [runK, step, hb]

/-! ### as the document reads -/
def refL (l : List Int) (k : Key) (i : Nat) : Key × Nat × Int := if h : i < l.length then ({ k with letter := l[i] }, i + 1, 1) else (key0, 0, 0)
def refO (l : List Int) (r n c : Int) (i : Nat) : Key × Nat × Int :=
  let x := digs (l.drop i) 0
  if x.2.2 = true then (if h : i + x.2.1 < l.length then
    (if like l[i + x.2.1] ≠ c ∧ ¬ (isMot (like l[i + x.2.1]) = true ∨ isLet (like l[i + x.2.1]) = true) then (key0, i + x.2.1 + 1, 2) else
     if isLet (like l[i + x.2.1]) then refL l ⟨r, timesV n x.1, c, like l[i + x.2.1], 0⟩ (i + x.2.1 + 1) else (⟨r, timesV n x.1, c, like l[i + x.2.1], 0⟩, i + x.2.1 + 1, 1)) else (key0, 0, 0))
  else (key0, i + x.2.1, 2)
def refC (l : List Int) (r : Int) (i : Nat) : Key × Nat × Int :=
  let x := digs (l.drop i) 0
  if x.2.2 = true then (if h : i + x.2.1 < l.length then
    (if isOp (like l[i + x.2.1]) then refO l r x.1 (like l[i + x.2.1]) (i + x.2.1 + 1) else
     if isLet (like l[i + x.2.1]) ∨ like l[i + x.2.1] = 114 ∨ like l[i + x.2.1] = 109 then refL l ⟨r, x.1, like l[i + x.2.1], 0, 0⟩ (i + x.2.1 + 1) else
     if isMot (like l[i + x.2.1]) ∨ isOth (like l[i + x.2.1]) ∨ like l[i + x.2.1] = 12 then (⟨r, x.1, like l[i + x.2.1], 0, 0⟩, i + x.2.1 + 1, 1) else (key0, i + x.2.1 + 1, 2)) else (key0, 0, 0))
  else (key0, i + x.2.1, 2)
def refV (l : List Int) : Key × Nat × Int :=
  if l.head? = some 34 then (if h : 1 < l.length then (if isReg l[1] then refC l l[1] 2 else (key0, 2, 2)) else (key0, 0, 0)) else refC l 0 0
theorem refL_fin (l : List Int) (k : Key) (i : Nat) : refL l k i = finV ({ k with letter := (nextV l i 1).1 }, (nextV l i 1).2) := by
  unfold refL nextV
  by_cases h : i < l.length
  · simp [h, finV]
  · simp [h, finV]
theorem op_not_let {c : Int} (h : isOp c = true) : isLet c = false := by
  simp only [isOp, List.contains_eq_mem, List.mem_cons, List.not_mem_nil, or_false, decide_eq_true_eq] at h
  rcases h with rfl | rfl | rfl | rfl | rfl <;> decide
theorem mot_not_let {c : Int} (h : isMot c = true) : isLet c = false := by
  simp only [isMot, List.contains_eq_mem, List.mem_cons, List.not_mem_nil, or_false, decide_eq_true_eq] at h
  rcases h with rfl | rfl | rfl | rfl | rfl | rfl | rfl | rfl | rfl | rfl | rfl | rfl | rfl | rfl | rfl | rfl | rfl | rfl | rfl | rfl | rfl <;> decide
theorem refO_run (l : List Int) (r n c : Int) (i : Nat) (hc : isOp c = true) : refO l r n c i = runK (.opr r n c 0) (l.drop i) i := by
  rw [run_opr l r n c (op_nonzero hc) _ 0 i rfl]
  unfold refO
  have h0 := op_nonzero hc
  by_cases h : (digs (l.drop i) 0).2.2 = true
  · simp only [h, if_true]
    by_cases hi : i + (digs (l.drop i) 0).2.1 < l.length
    · have e : nextV l (i + (digs (l.drop i) 0).2.1) 1 = (l[i + (digs (l.drop i) 0).2.1], i + (digs (l.drop i) 0).2.1 + 1, 1) := by unfold nextV; simp [hi]
      rw [dif_pos hi, e]
      simp only
      generalize like l[i + (digs (l.drop i) 0).2.1] = d
      by_cases h1 : d = c ∨ isMot d = true
      · rw [if_neg (by rcases h1 with rfl | h1 <;> simp_all), if_pos h1]
        have h2 : isLet d = false := by
          rcases h1 with rfl | h1
          · exact op_not_let hc
          · exact mot_not_let h1
        simp [h2, finV]
      · rw [if_neg h1]
        by_cases h2 : isLet d = true
        · rw [if_neg (by simp [h2]), if_pos h2, if_pos h2, refL_fin]
        · rw [if_pos (by simp_all), if_neg h2]; rfl
    · have e : nextV l (i + (digs (l.drop i) 0).2.1) 1 = (0, i + (digs (l.drop i) 0).2.1, 0) := by unfold nextV; simp [hi]
      rw [dif_neg hi, e]
      have e0 : like 0 = 0 := by decide
      simp [e0, Ne.symm h0, not_mot0, not_let0, finV, badV]
  · simp [h, finV]
theorem refC_run (l : List Int) (r : Int) (i : Nat) : refC l r i = runK (.cnt r 0) (l.drop i) i := by
  rw [run_cnt l r _ 0 i rfl]
  unfold refC
  by_cases h : (digs (l.drop i) 0).2.2 = true
  · simp only [h, if_true]
    by_cases hi : i + (digs (l.drop i) 0).2.1 < l.length
    · have e : nextV l (i + (digs (l.drop i) 0).2.1) 1 = (l[i + (digs (l.drop i) 0).2.1], i + (digs (l.drop i) 0).2.1 + 1, 1) := by unfold nextV; simp [hi]
      rw [dif_pos hi, e]
      simp only [ne_eq, not_true_eq_false, if_false]
      generalize like l[i + (digs (l.drop i) 0).2.1] = d
      by_cases h1 : isOp d = true
      · rw [if_pos h1, if_pos h1, oper_run _ _ _ _ _ h1, refO_run _ _ _ _ _ h1]
      · rw [if_neg h1, if_neg h1]
        by_cases h2 : isLet d = true ∨ d = 114 ∨ d = 109
        · rw [if_pos h2, if_pos h2, refL_fin]
        · rw [if_neg h2, if_neg h2]
          by_cases h3 : isMot d = true ∨ isOth d = true ∨ d = 12
          · rw [if_pos h3, if_pos h3]; rfl
          · rw [if_neg h3, if_neg h3]; rfl
    · have e : nextV l (i + (digs (l.drop i) 0).2.1) 1 = (0, i + (digs (l.drop i) 0).2.1, 0) := by unfold nextV; simp [hi]
      rw [dif_neg hi, e]
      simp [finV]
  · simp [h, finV]
theorem ref_run (l : List Int) : refV l = runK .start l 0 := by
  unfold refV
  by_cases h : l.head? = some 34
  · rw [if_pos h]
    match l, h with
    | b :: q, h =>
      obtain rfl : b = 34 := by simpa using h
      cases q with
      | nil => simp [runK, step]
      | cons c q =>
        by_cases hc : isReg c = true
        · have := refC_run (34 :: c :: q) c 2
          simp only [List.drop_succ_cons, List.drop_zero] at this
          simp only [runK, step, hc, if_true, Nat.zero_add]
          rw [← this]
          simp [hc]
        · simp [runK, step, hc]
  · rw [if_neg h, refC_run]
    cases l with
    | nil => rfl
    | cons b q =>
      have hb : b ≠ 34 := by simpa using h
      simp [runK, step, hb]
theorem ref_parse (l : List Int) : refV l = parseV l := (ref_run l).trans (parse_run l).symm

end Go.Proofs.Ytljahcdnleefbaa
