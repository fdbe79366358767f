/-
  Matches: a group and a reference to it, in plain words.
-/
import Derived.Test.YtnjagecmhdagkaaDoorPqMatchTwiceHolds44
set_option linter.unusedSimpArgs false
set_option linter.unusedVariables false
namespace Go.Proofs.YtnjagecmhdagkaaDoor
open Go.RowKit

/-- The pattern: a group of one byte at least, and a reference to it. -/
def twP : List UInt8 := [92, 40, 46, 46, 42, 92, 41, 92, 49]
def twK : Fr := .cons (ndK 2) .nil (.cons (timesN 0 (-1)) (Fr.one (ndK 2) .nil) .nil)
def twF : Fr := .cons (groupN 1) twK (Fr.one (refN 1) .nil)
set_option maxRecDepth 3000 in
theorem pat_tw : patV twP = some (twF, ⟨[], 5, 1, true, []⟩) := by
  have h1 := row_A (r := [92, 41, 92, 49]) (by simp [stopV, ahead_cons, ahead_nil]) (by constructor <;> simp [ahead_cons]) [⟨0, true, false⟩, ⟨0, true, true⟩] true false 1 1 false [1] (by intro x hx; simp at hx; rcases hx with rfl | rfl <;> simp [PlainB]) (by decide)
  have e1 : patA [⟨0, true, false⟩, ⟨0, true, true⟩] ++ [92, 41, 92, 49] = [46, 46, 42, 92, 41, 92, 49] := rfl
  rw [e1] at h1
  have hp : partF true false ⟨twP, 0, 0, false, []⟩ = some ((groupN 1, twK), ⟨[92, 49], 4, 1, false, []⟩) := by
    unfold partF partW twP
    simp only [show ((92 : UInt8).toNat = 92) from rfl, if_true]
    unfold slashV
    simp only [show ((40 : UInt8).toNat = 40) from rfl, if_true]
    unfold groupV node1
    simp only [show (0 : Nat) + 1 ≤ 9 by omega, show (0 : Nat) + 1 ≤ 200 by omega, if_true, Option.bind_some]
    rw [show ([] ++ [0 + 1] : List Nat) = [1] from rfl, h1]
    simp [ahead_cons, ahead_nil]
    exact ⟨rfl, rfl⟩
  have hq : partF false false ⟨[92, 49], 4, 1, false, []⟩ = some ((refN 1, .nil), ⟨[], 5, 1, true, []⟩) := rfl
  unfold patV ps0
  rw [rowF_eq]
  rw [show stopV (⟨twP, 0, 0, false, []⟩ : PS).left = false from rfl, hp]
  simp only [Bool.false_eq_true, if_false, Option.bind_some]
  rw [more_plain (by constructor <;> simp [ahead_cons])]
  simp only [Option.bind_some]
  rw [rowF_eq, show stopV (⟨[92, 49], 4, 1, false, []⟩ : PS).left = false from rfl, show ((groupN 1).kind == 4) = false from rfl, hq]
  simp only [Bool.false_eq_true, if_false, Option.bind_some]
  rw [more_plain ⟨rfl, rfl⟩]
  simp only [Option.bind_some]
  rw [row_end]
  rfl
/-- Does a stretch stand twice, one behind the other? -/
def Tw (s : List UInt8) (a n : Nat) : Prop := a + 2 * n ≤ s.length ∧ (s.drop a).take n = (s.drop (a + n)).take n
instance (s : List UInt8) (a n : Nat) : Decidable (Tw s a n) := by unfold Tw; exact inferInstance
/-- The stretches of such a match. -/
def twG (a n : Nat) : Spn := spSet (spSet spNone 1 a ((a + n : Nat) : Int)) 0 a ((a + 2 * n : Nat) : Int)
/-- What is known behind all stretches of fewer than n bytes. -/
structure TwAt (s : List UInt8) (a n : Nat) (σ : Sg) : Prop where
  none : σ.best = none → ∀ m, 0 < m → m < n → ¬ Tw s a m
  some : ∀ g w, σ.best = some (g, w) → ∃ m, 0 < m ∧ m < n ∧ Tw s a m ∧ g = twG a m ∧ ∀ i, m < i → i < n → ¬ Tw s a i
set_option maxRecDepth 3000 in
theorem TwAt.next {s : List UInt8} {a n : Nat} {σ : Sg} (h : TwAt s a n σ) (hn : ¬ Tw s a n) : TwAt s a (n + 1) σ := by
  refine ⟨fun e m h1 h2 => ?_, fun g w e => ?_⟩
  · rcases Nat.lt_or_ge m n with h3 | h3
    · exact h.none e m h1 h3
    · obtain rfl : m = n := by omega
      exact hn
  · obtain ⟨m, h1, h2, h3, h4, h5⟩ := h.some g w e
    refine ⟨m, h1, by omega, h3, h4, fun i h6 h7 => ?_⟩
    rcases Nat.lt_or_ge i n with h8 | h8
    · exact h5 i h6 h8
    · obtain rfl : i = n := by omega
      exact hn
set_option maxRecDepth 3000 in
theorem tw_spB (a n : Nat) : spB (twG a n) 0 = ((a + 2 * n : Nat) : Int) := by
  unfold twG spB
  exact (spSet_0 (g := spSet spNone 1 a ((a + n : Nat) : Int)) (by rw [spSet_len]; rfl) a _).2.1
set_option maxRecDepth 3000 in
theorem TwAt.take {s : List UInt8} {a n : Nat} {σ : Sg} (h : TwAt s a n σ) (hp : 0 < n) (hn : Tw s a n) (ws : Wy) : TwAt s a (n + 1) (allK a (a + 2 * n) (spSet spNone 1 a ((a + n : Nat) : Int)) ws σ) := by
  have ht : allT σ (a + 2 * n) ws = true := by
    unfold allT
    cases hb : σ.best with
    | none => rfl
    | some y =>
      obtain ⟨g, w⟩ := y
      obtain ⟨m, h1, h2, h3, h4, h5⟩ := h.some g w hb
      simp only [h4, tw_spB]
      have : ((a + 2 * m : Nat) : Int) < ((a + 2 * n : Nat) : Int) := by omega
      simp [this]
      omega
  unfold allK
  rw [if_pos ht]
  refine ⟨fun e => by simp at e, fun g w e => ?_⟩
  simp only [Option.some.injEq, Prod.mk.injEq] at e
  exact ⟨n, hp, by omega, hn, e.1.symm, fun i h6 h7 => by omega⟩
set_option maxRecDepth 3000 in
theorem allK_spent (a e : Nat) (g : Spn) (ws : Wy) (σ : Sg) : (allK a e g ws σ).spent = σ.spent := by
  unfold allK
  split <;> rfl
set_option maxRecDepth 3000 in
theorem over_no {fuel : Int} {σ : Sg} (h : (σ.spent : Int) ≤ fuel) : overB fuel σ = false := by unfold overB; rw [decide_eq_false_iff_not]; omega
set_option maxRecDepth 3000 in
/-- The reference is gone through. -/
theorem tw_ref {s : List UInt8} {fuel : Int} {a n : Nat} {ws : Wy} {σ : Sg} (hp : 0 < n) (ha : a + n ≤ s.length) (hf : (σ.spent : Int) + 1 ≤ fuel) (h : TwAt s a n σ) :
    TwAt s a (n + 1) (runE (allK a) fuel (evR s (Fr.one (refN 1) .nil) (a + n) (spSet spNone 1 a ((a + n : Nat) : Int)) ws) σ) ∧
      (runE (allK a) fuel (evR s (Fr.one (refN 1) .nil) (a + n) (spSet spNone 1 a ((a + n : Nat) : Int)) ws) σ).spent = σ.spent + 1 := by
  unfold Fr.one
  simp only [evR, show (refN 1).kind = 6 from rfl]
  rw [if_neg (by omega), if_neg (by omega), run_cons]
  have e1 : stepE (allK a) fuel σ .tick = { σ with spent := σ.spent + 1 } := by unfold stepE; rw [if_neg (by rw [over_no (by omega)]; decide)]
  rw [e1]
  have hA : spA (spSet spNone 1 (a : Int) ((a + n : Nat) : Int)) 1 = a := rfl
  have hB : spB (spSet spNone 1 (a : Int) ((a + n : Nat) : Int)) 1 = ((a + n : Nat) : Int) := rfl
  have hs : ((a + n : Nat) : Int) - a = n := by omega
  have h2 : TwAt s a n { σ with spent := σ.spent + 1 } := ⟨h.none, h.some⟩
  have e2 : oneV (refN 1) s (a + n) (spSet spNone 1 (a : Int) ((a + n : Nat) : Int)) = if Tw s a n then some n else none := by
    unfold oneV
    rw [if_neg (by simp [refN, ndK]), if_neg (by simp [refN, ndK]), if_pos (show (refN 1).kind = 6 from rfl), show (refN 1).n = 1 from rfl, hA, hB, hs]
    simp only [Int.toNat_natCast]
    by_cases ht : Tw s a n
    · rw [if_pos ht, if_pos ⟨by omega, by have := ht.1; omega, ht.2⟩]
    · rw [if_neg ht, if_neg]
      rintro ⟨_, h5, h6⟩
      exact ht ⟨by omega, h6⟩
  rw [e2]
  by_cases ht : Tw s a n
  · rw [if_pos ht]
    simp only []
    rw [run_one _ _ _ (over_no (by simp only []; omega)), show a + n + n = a + 2 * n by omega]
    exact ⟨h2.take hp ht _, by rw [allK_spent]⟩
  · rw [if_neg ht]
    exact ⟨h2.next ht, rfl⟩
set_option maxRecDepth 3000 in
theorem flat_tick (h : Nat → Spn → Wy → List Ev) (l : List Ev) : (Ev.tick :: l).flatMap (bindE h) = Ev.tick :: l.flatMap (bindE h) := rfl
set_option maxRecDepth 3000 in
theorem flat_out (h : Nat → Spn → Wy → List Ev) (a : Nat) (g : Spn) (ws : Wy) (l : List Ev) : (Ev.out a g ws :: l).flatMap (bindE h) = h a g ws ++ l.flatMap (bindE h) := rfl
set_option maxRecDepth 3000 in
theorem flat_nil (h : Nat → Spn → Wy → List Ev) : ([] : List Ev).flatMap (bindE h) = [] := rfl
set_option maxRecDepth 3000 in
/-- Any byte is gone through. -/
theorem any_ev (s : List UInt8) (a : Nat) (g : Spn) : evR s (Fr.one (ndK 2) .nil) a g .nil = Ev.tick :: (if a < s.length then [Ev.out (a + 1) g (Wy.nil.snoc 1 .nil)] else []) := by
  unfold Fr.one
  simp only [evR, show (ndK 2).kind = 2 from rfl]
  rw [if_neg (by omega), if_neg (by omega)]
  have e : oneV (ndK 2) s a g = if a < s.length then some 1 else none := by
    unfold oneV
    rw [if_neg (by simp [ndK]), if_neg (by simp [ndK]), if_neg (by simp [ndK])]
    by_cases h : a < s.length
    · rw [if_pos h, if_pos ⟨h, .inl rfl⟩]
    · rw [if_neg h, if_neg fun k => h k.1]
  rw [e]
  by_cases h : a < s.length
  · rw [if_pos h, if_pos h]
  · rw [if_neg h, if_neg h]
set_option maxRecDepth 3000 in
/-- The bytes of the group are gone through. -/
theorem tw_turns {s : List UInt8} {fuel : Int} {a : Nat} {ws0 : Wy} : ∀ (F n d : Nat) (ws : Wy) (σ : Sg), 0 < n → a + n ≤ s.length → s.length - (a + n) + 1 ≤ F → (σ.spent : Int) + 2 * (s.length - (a + n)) + 2 ≤ fuel → TwAt s a n σ →
    let K := fun e g2 i σ => runE (fun e g2 i σ => runE (allK a) fuel (evR s (Fr.one (refN 1) .nil) e (spSet g2 1 a e) (.cons (e - a) i .nil)) σ) fuel [Ev.out e g2 (ws0.snoc (e - (a + 1)) i)] σ
    TwAt s a (s.length - a + 1) (runE K fuel (evT (timesN 0 (-1)) (fun a g => evR s (Fr.one (ndK 2) .nil) a g .nil) (unsetV (Fr.one (ndK 2) .nil)) F d (a + n) spNone ws) σ) ∧
      (runE K fuel (evT (timesN 0 (-1)) (fun a g => evR s (Fr.one (ndK 2) .nil) a g .nil) (unsetV (Fr.one (ndK 2) .nil)) F d (a + n) spNone ws) σ).spent ≤ σ.spent + 2 * (s.length - (a + n)) + 2 := by
  intro F
  induction F with
  | zero => intro n d ws σ _ _ h; omega
  | succ F ih =>
    intro n d ws σ hp ha hF hf h K
    unfold evT
    rw [if_pos (show (timesN 0 (-1)).mn ≤ d from Nat.zero_le _), if_neg (by rintro ⟨h, _⟩; exact absurd h (by decide))]
    rw [run_append]
    have hov := over_no (σ := σ) (fuel := fuel) (by omega)
    rw [run_one _ _ _ hov]
    have hK : K (a + n) spNone ws σ = runE (allK a) fuel (evR s (Fr.one (refN 1) .nil) (a + n) (spSet spNone 1 a ((a + n : Nat) : Int)) (.cons (a + n - a) (ws0.snoc (a + n - (a + 1)) ws) .nil)) σ := by
      show runE _ fuel [Ev.out (a + n) spNone (ws0.snoc (a + n - (a + 1)) ws)] σ = _
      rw [run_one _ _ _ hov]
    rw [hK]
    obtain ⟨r1, r2⟩ := tw_ref (fuel := fuel) (ws := .cons (a + n - a) (ws0.snoc (a + n - (a + 1)) ws) .nil) hp ha (by omega) h
    generalize runE (allK a) fuel (evR s (Fr.one (refN 1) .nil) (a + n) (spSet spNone 1 a ((a + n : Nat) : Int)) (.cons (a + n - a) (ws0.snoc (a + n - (a + 1)) ws) .nil)) σ = σ1 at r1 r2
    have hU : unsetV (Fr.one (ndK 2) .nil) spNone = spNone := rfl
    rw [hU, any_ev, flat_tick, run_cons]
    have e1 : stepE K fuel σ1 .tick = { σ1 with spent := σ1.spent + 1 } := by unfold stepE; rw [if_neg (by rw [over_no (by omega)]; decide)]
    rw [e1]
    have h2 : TwAt s a (n + 1) { σ1 with spent := σ1.spent + 1 } := ⟨r1.none, r1.some⟩
    rcases Nat.lt_or_ge (a + n) s.length with hl | hl
    · rw [if_pos hl, flat_out, flat_nil, List.append_nil, if_pos (.inl (by omega))]
      have := ih (n + 1) (d + 1) (ws.snoc (a + n + 1 - (a + n)) (Wy.nil.snoc 1 .nil)) { σ1 with spent := σ1.spent + 1 } (by omega) (by omega) (by omega) (by simp only []; omega) h2
      obtain ⟨q1, q2⟩ := this
      refine ⟨q1, Nat.le_trans q2 ?_⟩
      simp only []
      omega
    · rw [if_neg (by omega), flat_nil]
      refine ⟨?_, ?_⟩
      · rw [show s.length - a + 1 = n + 1 by omega]
        exact h2
      · show σ1.spent + 1 ≤ _
        omega
set_option maxRecDepth 3000 in
/-- All ways from a place on. -/
theorem tw_place {s : List UInt8} {fuel : Int} {a : Nat} {σ : Sg} (ha : a ≤ s.length) (hf : (σ.spent : Int) + 2 * (s.length - a) + 2 ≤ fuel) (hb : σ.best = none) :
    TwAt s a (s.length - a + 1) (runE (allK a) fuel (evR s twF a spNone .nil) σ) ∧ (runE (allK a) fuel (evR s twF a spNone .nil) σ).spent ≤ σ.spent + 2 * (s.length - a) + 2 := by
  have h0 : TwAt s a 1 σ := ⟨fun _ m h1 h2 => by omega, fun g w e => by rw [hb] at e; cases e⟩
  unfold twF
  simp only [evR, show (groupN 1).kind = 7 from rfl, if_true]
  rw [run_bind]
  unfold twK
  simp only [evR, show (ndK 2).kind = 2 from rfl]
  rw [if_neg (by omega), if_neg (by omega), run_cons]
  have e1 : ∀ K, stepE K fuel σ .tick = { σ with spent := σ.spent + 1 } := fun K => by unfold stepE; rw [if_neg (by rw [over_no (by omega)]; decide)]
  rw [e1]
  have h2 : TwAt s a 1 { σ with spent := σ.spent + 1 } := ⟨h0.none, h0.some⟩
  rcases Nat.lt_or_ge a s.length with hl | hl
  · have e2 : oneV (ndK 2) s a spNone = some 1 := by
      unfold oneV
      rw [if_neg (by simp [ndK]), if_neg (by simp [ndK]), if_neg (by simp [ndK]), if_pos ⟨hl, .inl rfl⟩]
    rw [e2]
    simp only [show (timesN 0 (-1)).kind = 8 from rfl]
    rw [if_neg (by omega), if_pos trivial, run_bind]
    obtain ⟨q1, q2⟩ := tw_turns (s := s) (fuel := fuel) (a := a) (ws0 := Wy.nil.snoc 1 .nil) (fuelK s.length (timesN 0 (-1)) (a + 1) 0) 1 0 .nil { σ with spent := σ.spent + 1 } (by omega) (by omega) (by unfold fuelK; simp [timesN]) (by simp only []; omega) h2
    refine ⟨q1, Nat.le_trans q2 ?_⟩
    simp only []
    omega
  · have e2 : oneV (ndK 2) s a spNone = none := by
      unfold oneV
      rw [if_neg (by simp [ndK]), if_neg (by simp [ndK]), if_neg (by simp [ndK]), if_neg]
      rintro ⟨h, _⟩
      omega
    rw [e2]
    refine ⟨?_, ?_⟩
    · rw [show s.length - a + 1 = 1 by omega]
      exact h2
    · show σ.spent + 1 ≤ _
      omega
set_option maxRecDepth 3000 in
theorem tw_all {s : List UInt8} {fuel : Int} : ∀ (n k : Nat) (σ : Sg), k + n = s.length + 1 → (σ.spent : Int) + n * (2 * s.length + 2) ≤ fuel → σ.best = none → ∃ τ, allF s twF fuel n k σ = some τ ∧
    ((τ.best = none ∧ ∀ a m, k ≤ a → 0 < m → ¬ Tw s a m) ∨ (∃ a m w, τ.best = some (twG a m, w) ∧ k ≤ a ∧ 0 < m ∧ Tw s a m ∧ (∀ i, m < i → ¬ Tw s a i) ∧ ∀ b i, k ≤ b → b < a → 0 < i → ¬ Tw s b i)) := by
  intro n
  induction n with
  | zero => intro k σ hk _ hb; exact ⟨σ, rfl, .inl ⟨hb, fun a m h1 h2 h3 => by have := h3.1; omega⟩⟩
  | succ n ih =>
    intro k σ hk hf hb
    have hmul : ((n + 1 : Nat) : Int) * (2 * s.length + 2) = n * (2 * s.length + 2) + (2 * s.length + 2) := by rw [Int.natCast_add]; rw [Int.add_mul]; simp
    have hpos : 0 ≤ (n : Int) * (2 * s.length + 2) := Int.mul_nonneg (by omega) (by omega)
    rw [hmul] at hf
    obtain ⟨q1, q2⟩ := tw_place (s := s) (fuel := fuel) (a := k) (σ := σ) (by omega) (by omega) hb
    unfold allF
    rw [if_neg (by rw [hb]; decide)]
    generalize runE (allK k) fuel (evR s twF k spNone .nil) σ = σ1 at q1 q2
    rw [if_neg (by rw [over_no (by omega)]; decide)]
    have hlong : ∀ i, s.length - k + 1 ≤ i → ¬ Tw s k i := fun i hi h => by have := h.1; omega
    cases hb1 : σ1.best with
    | none =>
      obtain ⟨τ, h1, h2⟩ := ih (k + 1) σ1 (by omega) (by omega) hb1
      have hk0 : ∀ m, 0 < m → ¬ Tw s k m := fun m hm => by
        rcases Nat.lt_or_ge m (s.length - k + 1) with h | h
        · exact q1.none hb1 m hm h
        · exact hlong m h
      refine ⟨τ, h1, ?_⟩
      rcases h2 with ⟨h3, h4⟩ | ⟨a, m, w, h3, h4, h5, h6, h7, h8⟩
      · refine .inl ⟨h3, fun a m ha hm => ?_⟩
        rcases Nat.lt_or_ge k a with h | h
        · exact h4 a m h hm
        · obtain rfl : a = k := by omega
          exact hk0 m hm
      · refine .inr ⟨a, m, w, h3, by omega, h5, h6, h7, fun b i hb2 h9 hi => ?_⟩
        rcases Nat.lt_or_ge k b with h | h
        · exact h8 b i h h9 hi
        · obtain rfl : b = k := by omega
          exact hk0 i hi
    | some y =>
      obtain ⟨g, w⟩ := y
      obtain ⟨m, h1, h2, h3, h4, h5⟩ := q1.some g w hb1
      refine ⟨σ1, ?_, .inr ⟨k, m, w, by rw [hb1, h4], Nat.le_refl _, h1, h3, fun i hi => ?_, fun b i h6 h7 => by omega⟩⟩
      · cases n with
        | zero => rfl
        | succ n => unfold allF; rw [if_pos (by rw [hb1]; rfl)]
      · rcases Nat.lt_or_ge i (s.length - k + 1) with h | h
        · exact h5 i hi h
        · exact hlong i h
set_option maxRecDepth 3000 in
theorem at_tw {s : List UInt8} (hs : s.length ≤ 100) : (atR twP s 0 = (spZero, false) ∧ ∀ a m, 0 < m → ¬ Tw s a m) ∨ (∃ a m, atR twP s 0 = (twG a m, true) ∧ 0 < m ∧ Tw s a m ∧ (∀ i, m < i → ¬ Tw s a i) ∧ ∀ b i, b < a → 0 < i → ¬ Tw s b i) := by
  have hm : ((s.length + 1 : Nat) : Int) * (2 * s.length + 2) ≤ 200000 := by
    have h1 : ((s.length + 1 : Nat) : Int) * (2 * s.length + 2) ≤ 101 * (2 * s.length + 2) := Int.mul_le_mul_of_nonneg_right (by omega) (by omega)
    omega
  obtain ⟨τ, h1, h2⟩ := tw_all (s := s) (fuel := 200000) (s.length + 1) 0 ⟨0, none⟩ (by omega) (by simp only []; omega) rfl
  have hat : atR twP s 0 = match τ.best with
      | none => (spZero, false)
      | some y => (y.1, true) := by
    unfold atR
    rw [pat_tw]
    simp only []
    unfold matchR
    rw [if_neg (by omega), if_pos rfl]
    simp only [Int.toNat_zero, Nat.sub_zero, h1]
    cases τ.best <;> simp
  rw [hat]
  rcases h2 with ⟨h3, h4⟩ | ⟨a, m, w, h3, h4, h5, h6, h7, h8⟩
  · left
    rw [h3]
    exact ⟨rfl, fun a m hm => h4 a m (Nat.zero_le _) hm⟩
  · right
    rw [h3]
    exact ⟨a, m, rfl, h5, h6, h7, fun b i hb hi => h8 b i (Nat.zero_le _) hb hi⟩
set_option maxRecDepth 3000 in
theorem twG_at (a n : Nat) : (twG a n).getD 0 0 = a ∧ (twG a n).getD 1 0 = ((a + 2 * n : Nat) : Int) ∧ (twG a n).getD 2 0 = a ∧ (twG a n).getD 3 0 = ((a + n : Nat) : Int) := ⟨rfl, rfl, rfl, rfl⟩
end Go.Proofs.YtnjagecmhdagkaaDoor
