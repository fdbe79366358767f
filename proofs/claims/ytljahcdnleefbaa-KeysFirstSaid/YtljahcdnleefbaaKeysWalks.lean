/-
  Keys: the walks of the hand's methods.
-/
import Derived.Test.YtljahcdnleefbaaKeysPlain
import Derived.Test.YtljahcdnleefbaaBlk
import Derived.Test.YtljahcdnleefbaaShelf
import Derived.Lib.IndexAny
namespace Go.Proofs.Ytljahcdnleefbaa
open Go.RowKit

/-- Is a byte in a text? -/
def inS (c : Int) (s : ByteArray) : Bool := (codes s).contains c
theorem inS_index (c : Int) (s : ByteArray) (h0 : 0 ≤ c) (h1 : c ≤ 255) : inS c s = decide (0 ≤ Lib.indexByte s.data.toList c.toNat.toUInt8) := by
  rw [← Lib.contains_iff_indexByte, inS, codes, Bool.eq_iff_iff]
  simp only [List.contains_eq_mem, List.mem_map, decide_eq_true_eq]
  have e : c.toNat.toUInt8.toNat = c.toNat := by simp; omega
  constructor
  · rintro ⟨u, hu, rfl⟩
    have : (u.toNat : Int).toNat.toUInt8 = u := by simp
    rw [this]; exact hu
  · intro h
    exact ⟨_, h, by rw [e]; omega⟩
/-- The cells of a hand. -/
def hand (s : ByteArray) (i : Nat) (what : Int) : Array Value := #[.string s, .int .i64 i, .int .i64 what]

set_option maxHeartbeats 400000 in
theorem in_any (c : Int) (s : ByteArray) (w : World) (h0 : 0 ≤ c) (h1 : c ≤ 255) :
    Calls Try.prog 15 #[.int .u8 c, .string s] w fun e w' => e = .returned (.bool (inS c s)) ∧ w = w' := by
  have H := Lib.hid (inS_index c s h0 h1)
  go_enter Try.func15, Try.ntmps15
  go_wp2_with fail
  (with_reducible refine (Try.strings_IndexByte s c _).mono ?_); rintro e w' ⟨rfl, rfl⟩
  go_wp2_with fail
  go_ret
  exact ⟨by rw [H.out]; rfl, rfl⟩

set_option maxHeartbeats 400000 in
theorem plain_any (c : Int) (w : World) :
    Calls Try.prog 23 #[.int .u8 c] w fun e w' => e = .returned (.int .u8 (like c)) ∧ w = w' := by
  go_enter Try.func23, Try.ntmps23
  go_wp2
  all_goals
    go_ret
    refine ⟨?_, rfl⟩
    unfold like
  all_goals simp_all only [beq_iff_eq, beq_eq_false_iff_ne, ne_eq, if_true, if_false]
  all_goals rfl

theorem codes_get (s : ByteArray) (i : Nat) (h : i < s.size) : (codes s)[i]'(by simpa using h) = (s[i].toNat : Int) := by
  simp [codes]; rfl
theorem nextV_some (s : ByteArray) (i : Nat) (h : i < s.size) : nextV (codes s) i 1 = ((s[i].toNat : Int), i + 1, 1) := by
  unfold nextV
  rw [if_neg (by simp), dif_pos (by simpa using h), codes_get s i h]
theorem nextV_none (s : ByteArray) (i : Nat) (h : ¬ i < s.size) : nextV (codes s) i 1 = (0, i, 0) := by
  unfold nextV
  rw [if_neg (by simp), dif_neg (by simpa using h)]
theorem nextV_byte (s : ByteArray) (i : Nat) (what : Int) : 0 ≤ (nextV (codes s) i what).1 ∧ (nextV (codes s) i what).1 ≤ 255 := by
  unfold nextV
  repeat' split
  · simp
  · exact codes_byte s _ (List.getElem_mem _)
  · simp
theorem nextV_place (s : ByteArray) (i : Nat) (what : Int) (h : i ≤ s.size) : (nextV (codes s) i what).2.1 ≤ s.size := by
  unfold nextV
  repeat' split
  · exact h
  · rename_i hi; simp at hi; simp; omega
  · exact h

set_option maxHeartbeats 400000 in
theorem next_any (g : Nat) (s : ByteArray) (i : Nat) (what : Int) (w : World) (hb : blk w g = hand s i what) (hs : s.size ≤ 9223372036854775806) (hi : i ≤ s.size) :
    Calls Try.prog 17 #[.pointer (some ⟨g, 0, none⟩)] w fun e w' =>
      e = .returned (.int .u8 (nextV (codes s) i what).1) ∧ Turned w g (hand s (nextV (codes s) i what).2.1 (nextV (codes s) i what).2.2) w' := by
  have hz : 0 < (hand s i what).size := by simp [hand]
  have c0 : w.cell? ⟨g, 0, none⟩ = some (.string s) := Blk.cell hb hz 0
  have c1 : w.cell? ⟨g, 1, none⟩ = some (.int .i64 i) := Blk.cell hb hz 1
  have c2 : w.cell? ⟨g, 2, none⟩ = some (.int .i64 what) := Blk.cell hb hz 2
  have f1 : w.frozen? ⟨g, 1, none⟩ = false := Blk.free hb hz 1
  have f2 : w.frozen? ⟨g, 2, none⟩ = false := Blk.free hb hz 2
  have T := Turned.refl hb hz
  have HB := Lib.hid hb
  clear hb
  by_cases h1 : what = 1
  · subst h1
    by_cases h2 : i < s.size
    · have HV := Lib.hid (nextV_some s i h2)
      go_enter Try.func17, Try.ntmps17
      go_wp2_with fail
      go_quiet (fail)
      go_wp2_with fail
      go_quiet (fail)
      go_wp2_with fail
      go_ret
      rw [HV.out]
      exact ⟨rfl, (((T.drewN _).setCell HB.out hz hz 1 _).drewN _).to (by simp [hand])⟩
    · have HV := Lib.hid (nextV_none s i h2)
      go_enter Try.func17, Try.ntmps17
      go_wp2_with fail
      go_quiet (fail)
      go_wp2_with fail
      go_ret
      rw [HV.out]
      exact ⟨rfl, ((T.drewN _).setCell HB.out hz hz 2 _).to (by simp [hand])⟩
  · have HV := Lib.hid (nextV_not (codes s) i what h1)
    have h1' : (what != 1) = true := by simpa using h1
    go_enter Try.func17, Try.ntmps17
    go_wp2_with fail
    go_ret
    rw [HV.out]
    exact ⟨rfl, T⟩

set_option maxHeartbeats 400000 in
theorem bad_any (g : Nat) (s : ByteArray) (i : Nat) (what : Int) (w : World) (hb : blk w g = hand s i what) :
    Calls Try.prog 18 #[.pointer (some ⟨g, 0, none⟩)] w fun e w' => e = .returned (.tuple #[]) ∧ Turned w g (hand s i (badV what)) w' := by
  have hz : 0 < (hand s i what).size := by simp [hand]
  have c2 : w.cell? ⟨g, 2, none⟩ = some (.int .i64 what) := Blk.cell hb hz 2
  have f2 : w.frozen? ⟨g, 2, none⟩ = false := Blk.free hb hz 2
  have T := Turned.refl hb hz
  have HB := Lib.hid hb
  clear hb
  by_cases h1 : what = 1
  · subst h1
    go_enter Try.func18, Try.ntmps18
    go_wp2_with fail
    go_end0
    exact ⟨rfl, (T.setCell HB.out hz hz 2 _).to (by simp [hand, badV])⟩
  · have h1' : (what == 1) = false := by simpa using h1
    go_enter Try.func18, Try.ntmps18
    go_wp2_with fail
    go_end0
    exact ⟨rfl, T.to (by simp [badV, h1])⟩

set_option maxHeartbeats 400000 in
theorem times_any (a b : Int) (w : World) (ha : 0 ≤ a) (ha' : a ≤ 9999) (hb : 0 ≤ b) (hb' : b ≤ 9999) :
    Calls Try.prog 25 #[.int .i64 a, .int .i64 b] w fun e w' => e = .returned (.int .i64 (timesV a b)) ∧ w = w' := by
  have hm : a * b ≤ 9999 * 9999 := Int.mul_le_mul ha' hb' hb (by omega)
  have hm0 : 0 ≤ a * b := Int.mul_nonneg ha hb
  by_cases h1 : a = 0
  · subst h1
    go_enter Try.func25, Try.ntmps25
    go_wp2
    go_ret
    exact ⟨by simp [timesV], rfl⟩
  · have h1' : (a == 0) = false := by simpa using h1
    by_cases h2 : b = 0
    · subst h2
      go_enter Try.func25, Try.ntmps25
      go_wp2
      go_ret
      exact ⟨by simp [timesV], rfl⟩
    · have h2' : (b == 0) = false := by simpa using h2
      go_enter Try.func25, Try.ntmps25
      go_wp2
      go_ret
      exact ⟨by simp [timesV, h1, h2], rfl⟩

theorem isReg_true (c : Int) (h : (97 ≤ c ∧ c ≤ 122) ∨ (65 ≤ c ∧ c ≤ 90) ∨ (49 ≤ c ∧ c ≤ 57)) : isReg c = true := by
  simp only [isReg, Bool.or_eq_true, Bool.and_eq_true, decide_eq_true_eq]; omega
theorem isReg_false (c : Int) (h : ¬ ((97 ≤ c ∧ c ≤ 122) ∨ (65 ≤ c ∧ c ≤ 90) ∨ (49 ≤ c ∧ c ≤ 57))) : isReg c = false := by
  rw [← Bool.not_eq_true]; simp only [isReg, Bool.or_eq_true, Bool.and_eq_true, decide_eq_true_eq]; omega
theorem regV_empty (s : ByteArray) (h : s.size = 0) : regV (codes s) = (0, 0, 1) := by
  have : codes s = [] := List.eq_nil_of_length_eq_zero (by simpa using h)
  rw [this]; rfl
theorem head_codes (s : ByteArray) (h : 0 < s.size) : (codes s).head? = some (s[0].toNat : Int) := by
  rw [List.head?_eq_getElem?, List.getElem?_eq_getElem (by simpa using h), codes_get s 0 h]
theorem regV_other (s : ByteArray) (h : 0 < s.size) (h2 : (s[0].toNat : Int) ≠ 34) : regV (codes s) = (0, 0, 1) := by
  unfold regV; rw [head_codes s h, if_neg (by simpa using h2)]
theorem regV_more (s : ByteArray) (h : 0 < s.size) (h2 : (s[0].toNat : Int) = 34) (h3 : ¬ 1 < s.size) : regV (codes s) = (0, 1, 0) := by
  unfold regV; rw [head_codes s h, if_pos (by rw [h2]), dif_neg (by simpa using h3)]
theorem regV_reg (s : ByteArray) (h : 0 < s.size) (h2 : (s[0].toNat : Int) = 34) (h3 : 1 < s.size) : regV (codes s) = if isReg (s[1].toNat : Int) then ((s[1].toNat : Int), 2, 1) else (0, 2, 2) := by
  unfold regV; rw [head_codes s h, if_pos (by rw [h2]), dif_pos (by simpa using h3), codes_get s 1 h3]

set_option maxHeartbeats 400000 in
theorem register_any (g : Nat) (s : ByteArray) (w : World) (hb : blk w g = hand s 0 1) (hs : s.size ≤ 9223372036854775806) :
    Calls Try.prog 13 #[.pointer (some ⟨g, 0, none⟩)] w fun e w' =>
      e = .returned (.int .u8 (regV (codes s)).1) ∧ Turned w g (hand s (regV (codes s)).2.1 (regV (codes s)).2.2) w' := by
  have hz : ∀ i what, 0 < (hand s i what).size := by simp [hand]
  have c0 : w.cell? ⟨g, 0, none⟩ = some (.string s) := Blk.cell hb (hz _ _) 0
  have c1 : w.cell? ⟨g, 1, none⟩ = some (.int .i64 0) := Blk.cell hb (hz _ _) 1
  have c2 : w.cell? ⟨g, 2, none⟩ = some (.int .i64 1) := Blk.cell hb (hz _ _) 2
  have f1 : w.frozen? ⟨g, 1, none⟩ = false := Blk.free hb (hz _ _) 1
  have T := Turned.refl hb (hz _ _)
  have HB := Lib.hid hb
  have HZ := Lib.hid hz
  clear hb hz
  by_cases h1 : s = ByteArray.empty
  · subst h1
    have HV := Lib.hid (regV_empty ByteArray.empty rfl)
    go_enter Try.func13, Try.ntmps13
    go_wp2_with fail
    go_quiet (fail)
    go_wp2_with fail
    go_ret
    rw [HV.out]
    exact ⟨rfl, T.drewN _⟩
  · have h1' : 0 < s.size := Nat.pos_of_ne_zero fun h => h1 (ByteArray.size_eq_zero_iff.1 h)
    have hd : decide (s = ByteArray.empty) = false := by simpa using h1
    by_cases h2 : (s[0].toNat : Int) = 34
    · have h2' : ((s[0].toNat : Int) != 34) = false := by simpa using h2
      by_cases h3 : 1 < s.size
      · have HV := Lib.hid (regV_reg s h1' h2 h3)
        have HN := Lib.hid (nextV_some s 1 h3)
        have H2 := Lib.hid h2
        clear h2
        go_enter Try.func13, Try.ntmps13
        go_wp2_with fail
        go_quiet (fail)
        go_wp2_with fail
        have T1 := ((T.drewN nq).setCell HB.out (HZ.out _ _) (HZ.out _ _) 1 (.int .i64 1)).to (c' := hand s 1 1) (by simp [hand])
        (with_reducible refine (next_any g s 1 1 _ (T1.blk HB.out (HZ.out _ _)) hs (by omega)).mono ?_)
        rw [HN.out]
        rintro e w' ⟨rfl, T2⟩
        have T3 := T1.trans T2 HB.out (HZ.out _ _)
        have hc := s[1].toNat_lt
        go_wp2_with fail
        all_goals
          first
          | (go_ret; rw [HV.out, if_pos (isReg_true _ (by omega))]; exact ⟨rfl, T3⟩)
          | ((with_reducible refine (bad_any g s 2 1 _ (T3.blk HB.out (HZ.out _ _))).mono ?_)
             rintro e w'' ⟨rfl, T4⟩
             have T5 := T3.trans T4 HB.out (HZ.out _ _)
             go_wp2_with fail
             go_ret
             rw [HV.out, if_neg (by rw [isReg_false _ (by omega)]; simp)]
             exact ⟨rfl, T5⟩)
      · have HV := Lib.hid (regV_more s h1' h2 h3)
        have HN := Lib.hid (nextV_none s 1 h3)
        have H2 := Lib.hid h2
        clear h2
        go_enter Try.func13, Try.ntmps13
        go_wp2_with fail
        go_quiet (fail)
        go_wp2_with fail
        have T1 := ((T.drewN nq).setCell HB.out (HZ.out _ _) (HZ.out _ _) 1 (.int .i64 1)).to (c' := hand s 1 1) (by simp [hand])
        (with_reducible refine (next_any g s 1 1 _ (T1.blk HB.out (HZ.out _ _)) hs (by omega)).mono ?_)
        rw [HN.out]
        rintro e w' ⟨rfl, T2⟩
        have T3 := T1.trans T2 HB.out (HZ.out _ _)
        go_wp2_with fail
        (with_reducible refine (bad_any g s 1 0 _ (T3.blk HB.out (HZ.out _ _))).mono ?_)
        rintro e w'' ⟨rfl, T4⟩
        have T5 := T3.trans T4 HB.out (HZ.out _ _)
        go_wp2_with fail
        go_ret
        rw [HV.out]
        exact ⟨rfl, T5⟩
    · have h2' : ((s[0].toNat : Int) != 34) = true := by simpa using h2
      have HV := Lib.hid (regV_other s h1' h2)
      go_enter Try.func13, Try.ntmps13
      go_wp2_with fail
      go_quiet (fail)
      go_wp2_with fail
      go_ret
      rw [HV.out]
      exact ⟨rfl, T.drewN _⟩

end Go.Proofs.Ytljahcdnleefbaa
