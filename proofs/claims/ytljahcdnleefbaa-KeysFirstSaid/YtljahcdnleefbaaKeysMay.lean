/-
  Keys: what a command may be; the law KeysMay.
-/
import Derived.Test.YtljahcdnleefbaaKeysLives
namespace Go.Proofs.Ytljahcdnleefbaa
open Go.RowKit

/-- What may be read. -/
def RegOk (r : Int) : Prop := r = 0 ∨ isReg r = true
structure May (k : Key) : Prop where
  reg : RegOk k.reg
  count : 0 ≤ k.count ∧ k.count ≤ 9999
  name : k.name ≠ 0
  op : isOp k.name = true → k.motion ≠ 0 ∧ (k.motion = k.name ∨ isMot k.motion = true ∨ isLet k.motion = true)
  other : isOp k.name = false → k.motion = 0
def Good : St → Prop
  | .start => True
  | .reg => True
  | .cnt r n => RegOk r ∧ 0 ≤ n ∧ n ≤ 9999
  | .opr r n c m => RegOk r ∧ 0 ≤ n ∧ n ≤ 9999 ∧ isOp c = true ∧ 0 ≤ m ∧ m ≤ 9999
  | .ltr k => May k
theorem timesV_may (a b : Int) (ha : 0 ≤ a) (ha' : a ≤ 9999) (hb : 0 ≤ b) (hb' : b ≤ 9999) : 0 ≤ timesV a b ∧ timesV a b ≤ 9999 := by
  unfold timesV
  split
  · omega
  · have := Int.mul_nonneg ha hb
    omega
theorem not_zero_of {f : Int → Bool} (h0 : f 0 = false) {c : Int} (h : f c = true) : c ≠ 0 := by
  rintro rfl; rw [h0] at h; cases h
theorem step_good (s : St) (b : Int) (h : Good s) (hb : 0 ≤ b ∧ b ≤ 255) : (∀ s', step s b = .on s' → Good s') ∧ (∀ k z, step s b = .off k z → (z = 1 ∧ May k) ∨ (z = 2 ∧ k = key0)) := by
  have cntCase : ∀ r n, RegOk r → 0 ≤ n → n ≤ 9999 → (∀ s', stepCnt r n b = .on s' → Good s') ∧ (∀ k z, stepCnt r n b = .off k z → (z = 1 ∧ May k) ∨ (z = 2 ∧ k = key0)) := by
    intro r n hr h0 h9
    unfold stepCnt
    by_cases hd : isDig n b = true
    · have := (isDig_iff n b).1 hd
      by_cases h1 : 9999 < 10 * n + (b - 48)
      · simp only [hd, h1, if_true]
        exact ⟨fun _ e => (by cases e), fun _ _ e => by cases e; exact .inr ⟨rfl, rfl⟩⟩
      · simp only [hd, h1, if_true, if_false]
        exact ⟨fun _ e => by cases e; exact ⟨hr, by omega, by omega⟩, fun _ _ e => (by cases e)⟩
    · simp only [hd, if_false, Bool.false_eq_true]
      by_cases h1 : isOp (like b) = true
      · simp only [h1, if_true]
        exact ⟨fun _ e => by cases e; exact ⟨hr, h0, h9, h1, by omega, by omega⟩, fun _ _ e => (by cases e)⟩
      · simp only [h1, if_false, Bool.false_eq_true]
        have h1' : isOp (like b) = false := by simpa using h1
        by_cases h2 : isLet (like b) = true ∨ like b = 114 ∨ like b = 109
        · rw [if_pos h2]
          refine ⟨fun _ e => ?_, fun _ _ e => (by cases e)⟩
          cases e
          refine ⟨hr, ⟨h0, h9⟩, ?_, fun e => (by simp [h1'] at e), fun _ => rfl⟩
          rcases h2 with h2 | h2 | h2
          · exact not_zero_of (f := isLet) (by decide) h2
          · show like b ≠ 0; omega
          · show like b ≠ 0; omega
        · rw [if_neg h2]
          by_cases h3 : isMot (like b) = true ∨ isOth (like b) = true ∨ like b = 12
          · rw [if_pos h3]
            refine ⟨fun _ e => (by cases e), fun _ _ e => ?_⟩
            cases e
            refine .inl ⟨rfl, hr, ⟨h0, h9⟩, ?_, fun e => (by simp [h1'] at e), fun _ => rfl⟩
            rcases h3 with h3 | h3 | h3
            · exact not_zero_of (f := isMot) (by decide) h3
            · exact not_zero_of (f := isOth) (by decide) h3
            · show like b ≠ 0; omega
          · rw [if_neg h3]
            exact ⟨fun _ e => (by cases e), fun _ _ e => by cases e; exact .inr ⟨rfl, rfl⟩⟩
  cases s with
  | start =>
    simp only [step]
    by_cases h1 : b = 34
    · simp only [h1, if_true]
      exact ⟨fun _ e => by cases e; trivial, fun _ _ e => (by cases e)⟩
    · simp only [h1, if_false]
      exact cntCase 0 0 (.inl rfl) (by omega) (by omega)
  | reg =>
    simp only [step]
    by_cases h1 : isReg b = true
    · simp only [h1, if_true]
      exact ⟨fun _ e => by cases e; exact ⟨.inr h1, by omega, by omega⟩, fun _ _ e => (by cases e)⟩
    · simp only [h1, if_false, Bool.false_eq_true]
      exact ⟨fun _ e => (by cases e), fun _ _ e => by cases e; exact .inr ⟨rfl, rfl⟩⟩
  | cnt r n => exact cntCase r n h.1 h.2.1 h.2.2
  | opr r n c m =>
    obtain ⟨hr, h0, h9, hc, m0, m9⟩ := h
    have ht := timesV_may n m h0 h9 m0 m9
    have hcn := op_nonzero hc
    simp only [step, stepOpr]
    by_cases hd : isDig m b = true
    · have := (isDig_iff m b).1 hd
      by_cases h1 : 9999 < 10 * m + (b - 48)
      · simp only [hd, h1, if_true]
        exact ⟨fun _ e => (by cases e), fun _ _ e => by cases e; exact .inr ⟨rfl, rfl⟩⟩
      · simp only [hd, h1, if_true, if_false]
        exact ⟨fun _ e => by cases e; exact ⟨hr, h0, h9, hc, by omega, by omega⟩, fun _ _ e => (by cases e)⟩
    · simp only [hd, if_false, Bool.false_eq_true]
      by_cases h1 : like b = c ∨ isMot (like b) = true
      · rw [if_pos h1]
        refine ⟨fun _ e => (by cases e), fun _ _ e => ?_⟩
        cases e
        refine .inl ⟨rfl, hr, ht, hcn, fun _ => ?_, fun e => (by simp [hc] at e)⟩
        rcases h1 with h1 | h1
        · exact ⟨by show like b ≠ 0; rw [h1]; exact hcn, .inl h1⟩
        · exact ⟨not_zero_of (f := isMot) (by decide) h1, .inr (.inl h1)⟩
      · rw [if_neg h1]
        by_cases h2 : isLet (like b) = true
        · rw [if_pos h2]
          refine ⟨fun _ e => ?_, fun _ _ e => (by cases e)⟩
          cases e
          exact ⟨hr, ht, hcn, fun _ => ⟨not_zero_of (f := isLet) (by decide) h2, .inr (.inr h2)⟩, fun e => (by simp [hc] at e)⟩
        · rw [if_neg h2]
          exact ⟨fun _ e => (by cases e), fun _ _ e => by cases e; exact .inr ⟨rfl, rfl⟩⟩
  | ltr k =>
    simp only [step]
    refine ⟨fun _ e => (by cases e), fun _ _ e => ?_⟩
    cases e
    exact .inl ⟨rfl, h.reg, h.count, h.name, h.op, h.other⟩
theorem run_may : ∀ (l : List Int) (s : St) (u : Nat), Good s → (∀ c ∈ l, 0 ≤ c ∧ c ≤ 255) → ((runK s l u).2.2 = 1 ∧ May (runK s l u).1) ∨ (((runK s l u).2.2 = 0 ∨ (runK s l u).2.2 = 2) ∧ (runK s l u).1 = key0) := by
  intro l
  induction l with
  | nil => intro s u _ _; exact .inr ⟨.inl rfl, rfl⟩
  | cons b l ih =>
    intro s u hg hb
    have hs := step_good s b hg (hb b (by simp))
    simp only [runK]
    cases e : step s b with
    | on s' => exact ih s' (u + 1) (hs.1 s' e) (fun c hc => hb c (by simp [hc]))
    | off k z =>
      rcases hs.2 k z e with ⟨rfl, h⟩ | ⟨rfl, rfl⟩
      · exact .inl ⟨rfl, h⟩
      · exact .inr ⟨.inr rfl, rfl⟩
theorem parse_may (s : ByteArray) : ((parseV (codes s)).2.2 = 1 ∧ May (parseV (codes s)).1) ∨ (((parseV (codes s)).2.2 = 0 ∨ (parseV (codes s)).2.2 = 2) ∧ (parseV (codes s)).1 = key0) := by
  rw [parse_run]; exact run_may _ _ _ trivial (codes_byte s)
theorem isOp_iff (c : Int) : isOp c = true ↔ (c = 100 ∨ c = 99 ∨ c = 121 ∨ c = 60 ∨ c = 62) := by
  simp [isOp]
theorem isReg_iff (c : Int) : isReg c = true ↔ ((97 ≤ c ∧ c ≤ 122) ∨ (65 ≤ c ∧ c ≤ 90) ∨ (49 ≤ c ∧ c ≤ 57)) := by
  simp only [isReg, Bool.or_eq_true, Bool.and_eq_true, decide_eq_true_eq]; omega
theorem mot_byte (c : Int) (h : isMot c = true ∨ isLet c = true) : 0 ≤ c ∧ c ≤ 255 := by
  simp only [isMot, isLet, List.contains_eq_mem, List.mem_cons, List.not_mem_nil, or_false, decide_eq_true_eq] at h
  omega

set_option maxHeartbeats 1000000 in
set_option maxRecDepth 100000 in
theorem keysMay_any (s : ByteArray) (w : World) : Calls Try.prog 5 #[.string s] w fun e w' => e = .returned (.bool true) ∧ Grows w w' := by
  by_cases h40 : 40 < s.size
  · go_enter Try.func5, Try.ntmps5
    go_wp2_with fail
    (with_reducible refine (lives_any _).mono ?_); rintro e w' ⟨rfl, m', rfl⟩
    go_wp2_with fail
    go_ret
    exact ⟨rfl, (Grows.refl _).more _⟩
  · have hm := parse_may s
    obtain ⟨⟨a, b, c, d, f⟩, n, z, hp⟩ : ∃ k n z, parseV (codes s) = (k, n, z) := ⟨_, _, _, rfl⟩
    rw [hp] at hm
    have HP := Lib.hid hp
    clear hp
    rcases hm with ⟨hz, hm⟩ | ⟨hz, -⟩
    · simp only at hz
      subst hz
      obtain ⟨hr, ⟨hb0, hb9⟩, hc, hop, hno⟩ := hm
      simp only at hr hb0 hb9 hc hop hno
      have hr' : a = 0 ∨ (97 ≤ a ∧ a ≤ 122) ∨ (65 ≤ a ∧ a ≤ 90) ∨ (49 ≤ a ∧ a ≤ 57) := by
        rcases hr with hr | hr
        · exact .inl hr
        · exact .inr ((isReg_iff a).1 hr)
      have hc' : (c != 0) = true := by simpa using hc
      have HO := Lib.hid hop
      have HN := Lib.hid hno
      have HR := Lib.hid hr'
      clear hr hr' hop hno hc
      go_enter Try.func5, Try.ntmps5
      go_wp2_with fail
      (with_reducible refine (parse_any s _ (by omega)).mono ?_)
      rw [HP.out]
      simp only [keyC]
      rintro e w1 ⟨rfl, m, rfl⟩
      go_upto_region 6 with (fail)
      go_cut [6] (fun s6 wx => s6 = .bool true ∧ wx = (more w m).alloc (.cells #[.int .u8 a, .int .i64 b, .int .u8 c, .int .u8 d, .int .u8 f] 24))
      case first =>
        rcases HR.out with h | ⟨h, h'⟩ | ⟨h, h'⟩ | ⟨h, h'⟩
        all_goals
          go_wp2_with fail
          go_meet
          first | exact ⟨rfl, rfl⟩ | (subst h; exact ⟨rfl, rfl⟩)
      case rest =>
        obtain ⟨rfl, rfl⟩ := hcut
        go_upto_region 7 with (fail)
        go_cut [7] (fun s7 wx => s7 = .bool (isOp c) ∧ wx = (more w m).alloc (.cells #[.int .u8 a, .int .i64 b, .int .u8 c, .int .u8 d, .int .u8 f] 24))
        case first =>
          have hor : c = 100 ∨ c = 99 ∨ c = 121 ∨ c = 60 ∨ c = 62 ∨ ((c == 100) = false ∧ (c == 99) = false ∧ (c == 121) = false ∧ (c == 60) = false ∧ (c == 62) = false ∧ Hid (isOp c = false)) := by
            by_cases h : isOp c = true
            · rcases (isOp_iff c).1 h with h | h | h | h | h <;> simp [h]
            · have h' := mt (isOp_iff c).2 h
              simp only [not_or] at h'
              exact .inr (.inr (.inr (.inr (.inr ⟨by simpa using h'.1, by simpa using h'.2.1, by simpa using h'.2.2.1, by simpa using h'.2.2.2.1, by simpa using h'.2.2.2.2, Lib.hid (by simpa using h)⟩))))
          rcases hor with rfl | rfl | rfl | rfl | rfl | ⟨h1, h2, h3, h4, h5, h6⟩
          all_goals
            go_wp2_with fail
            go_meet
            first | exact ⟨rfl, rfl⟩ | exact ⟨by rw [h6.out], rfl⟩
        case rest =>
          obtain ⟨rfl, rfl⟩ := hcut
          cases hop : isOp c with
          | false =>
            obtain rfl := HN.out hop
            go_wp2_with fail
            (with_reducible refine (lives_any _).mono ?_); rintro e w' ⟨rfl, m', rfl⟩
            go_wp2_with fail
            go_ret
            exact ⟨rfl, by repeat' first | exact Grows.refl _ | refine Grows.more ?_ _ | refine Grows.alloc ?_ _⟩
          | true =>
            obtain ⟨hd0, hd⟩ := HO.out hop
            have hd0' : (d != 0) = true := by simpa using hd0
            by_cases hdc : d = c
            · have hdc' : (d != c) = false := by simpa using hdc
              have HD := Lib.hid hdc
              clear hd hd0 hdc
              go_wp2_with fail
              (with_reducible refine (lives_any _).mono ?_); rintro e w' ⟨rfl, m', rfl⟩
              go_wp2_with fail
              go_ret
              exact ⟨rfl, by repeat' first | exact Grows.refl _ | refine Grows.more ?_ _ | refine Grows.alloc ?_ _⟩
            · have hdc' : (d != c) = true := by simpa using hdc
              have hd' := hd.resolve_left hdc
              have hby := mot_byte d hd'
              have hmo : (isMot d || isLet d) = true := by simpa using hd'
              have HM := Lib.hid hmo
              clear hd hd0 hdc hd' hmo
              go_wp2_with fail
              (with_reducible refine (motion_any d _ hby.1 hby.2).mono ?_)
              rw [HM.out]
              rintro e w' ⟨rfl, rfl⟩
              go_wp2_with fail
              (with_reducible refine (lives_any _).mono ?_); rintro e w' ⟨rfl, m', rfl⟩
              go_wp2_with fail
              go_ret
              exact ⟨rfl, by repeat' first | exact Grows.refl _ | refine Grows.more ?_ _ | refine Grows.alloc ?_ _⟩
    · simp only at hz
      have hz1 : (z != 1) = true := by rw [bne_iff_ne]; omega
      rcases hz with rfl | rfl
      all_goals
        go_enter Try.func5, Try.ntmps5
        go_wp2_with fail
        (with_reducible refine (parse_any s _ (by omega)).mono ?_)
        rw [HP.out]
        simp only [keyC]
        rintro e w1 ⟨rfl, m, rfl⟩
        go_wp2_with fail
        (with_reducible refine (lives_any _).mono ?_); rintro e w' ⟨rfl, m', rfl⟩
        go_wp2_with fail
        go_ret
        exact ⟨rfl, by repeat' first | exact Grows.refl _ | refine Grows.more ?_ _ | refine Grows.alloc ?_ _⟩

end Go.Proofs.Ytljahcdnleefbaa
