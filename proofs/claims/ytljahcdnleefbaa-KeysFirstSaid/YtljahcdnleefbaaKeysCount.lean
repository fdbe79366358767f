/-
  Keys: the walks of the hand's count and operator.
-/
import Derived.Test.YtljahcdnleefbaaKeysWalks
import Derived.Deep.LoopGhost
namespace Go.Proofs.Ytljahcdnleefbaa
open Go.RowKit

/-- So many bytes ahead. -/
def ahead (k : Nat) (x : Int × Nat × Bool) : Int × Nat × Bool := (x.1, x.2.1 + k, x.2.2)
theorem digs_end (n : Int) : digs [] n = (n, 0, true) := rfl
theorem digs_not (l : List Int) (i : Nat) (c n : Int) (h : i < l.length) (e : l[i] = c) (hd : isDig n c = false) : digs (l.drop i) n = (n, 0, true) := by
  rw [List.drop_eq_getElem_cons h, e]; simp [digs, hd]
theorem digs_great (l : List Int) (i : Nat) (c n : Int) (h : i < l.length) (e : l[i] = c) (hd : isDig n c = true) (h9 : 9999 < 10 * n + (c - 48)) : digs (l.drop i) n = (0, 1, false) := by
  rw [List.drop_eq_getElem_cons h, e]; simp [digs, hd, h9]
theorem digs_on (l : List Int) (i : Nat) (c n : Int) (h : i < l.length) (e : l[i] = c) (hd : isDig n c = true) (h9 : ¬ 9999 < 10 * n + (c - 48)) : digs (l.drop i) n = ahead 1 (digs (l.drop (i + 1)) (10 * n + (c - 48))) := by
  rw [List.drop_eq_getElem_cons h, e]; simp [digs, hd, h9, ahead]
theorem ahead_ahead (k j : Nat) (x : Int × Nat × Bool) : ahead k (ahead j x) = ahead (k + j) x := by
  simp [ahead, Nat.add_comm, Nat.add_left_comm]
theorem ahead_zero (x : Int × Nat × Bool) : ahead 0 x = x := rfl
theorem isDig_true (n c : Int) (h1 : 48 ≤ c) (h2 : c ≤ 57) (h3 : 0 < n ∨ 48 < c) : isDig n c = true := by
  simp only [isDig, Bool.or_eq_true, Bool.and_eq_true, decide_eq_true_eq]; omega
theorem isDig_false (n c : Int) (h : ¬ (48 ≤ c ∧ c ≤ 57 ∧ (0 < n ∨ 48 < c))) : isDig n c = false := by
  rw [← Bool.not_eq_true]; simp only [isDig, Bool.or_eq_true, Bool.and_eq_true, decide_eq_true_eq]; omega
theorem isDig_iff (n c : Int) : isDig n c = true ↔ (48 ≤ c ∧ c ≤ 57 ∧ (0 < n ∨ 48 < c)) := by
  simp only [isDig, Bool.or_eq_true, Bool.and_eq_true, decide_eq_true_eq]; omega

theorem countV_ok (l : List Int) (i k : Nat) (n c : Int) (j : Nat) (what : Int) (h : digs (l.drop i) 0 = (n, k, true)) (e : nextV l (i + k) 1 = (c, j, what)) : countV l i 1 = ((n, like c), j, what) := by
  unfold countV; simp [h, e]
theorem countV_bad (l : List Int) (i k : Nat) (n : Int) (h : digs (l.drop i) 0 = (n, k, false)) : countV l i 1 = ((0, 0), i + k, 2) := by
  unfold countV; simp [h]
theorem countV_not (l : List Int) (i : Nat) (what : Int) (h : what ≠ 1) : countV l i what = ((0, 0), i, what) := by
  unfold countV; simp [h]

set_option maxHeartbeats 1000000 in
theorem count_any (g : Nat) (s : ByteArray) (i : Nat) (what : Int) (w : World) (hb : blk w g = hand s i what) (hs : s.size ≤ 9223372036854775806) (hi : i ≤ s.size) :
    Calls Try.prog 14 #[.pointer (some ⟨g, 0, none⟩)] w fun e w' =>
      e = .returned (.tuple #[.int .i64 (countV (codes s) i what).1.1, .int .u8 (countV (codes s) i what).1.2]) ∧ Turned w g (hand s (countV (codes s) i what).2.1 (countV (codes s) i what).2.2) w' := by
  have hz : ∀ i what, 0 < (hand s i what).size := by simp [hand]
  have T := Turned.refl hb (hz _ _)
  have HB := Lib.hid hb
  have HZ := Lib.hid hz
  clear hb hz
  by_cases h1 : what = 1
  · subst h1
    go_enter Try.func14, Try.ntmps14
    go_wp2_with fail
    go_loopg [2, 3] (s.size + 1 - i) (fun q a b wr => ∃ (k : Nat) (n c : Int), q + i + k = s.size + 1 ∧ i + k ≤ s.size ∧ a = .int .i64 n ∧ b = .int .u8 c ∧ 0 ≤ n ∧ n ≤ 9999 ∧ digs ((codes s).drop i) 0 = ahead k (digs ((codes s).drop (i + k)) n) ∧ Turned w g (hand s (i + k) 1) wr)
    case atStart => exact ⟨0, 0, 0, by omega, by omega, rfl, rfl, by omega, by omega, rfl, T⟩
    case round =>
      obtain ⟨k, n, c0, hq, hik, rfl, rfl, hn0, hn9, hdig, TR⟩ := hrel
      by_cases h2 : i + k < s.size
      · obtain ⟨c, hc⟩ : ∃ c : Int, c = (s[i + k].toNat : Int) := ⟨_, rfl⟩
        have hcl := s[i + k].toNat_lt
        have hc0 : 0 ≤ c := by omega
        have hc9 : c ≤ 255 := by omega
        have hn := nextV_some s (i + k) h2
        rw [← hc] at hn
        have hg := codes_get s (i + k) h2
        rw [← hc] at hg
        have HN := Lib.hid hn
        have HC := Lib.hid hc
        have HG := Lib.hid hg
        have HD := Lib.hid hdig
        have HQ := Lib.hid hq
        clear hn hc hg hdig hcl hq
        by_cases hd : 48 ≤ c ∧ c ≤ 57 ∧ (0 < n ∨ 48 < c)
        · obtain ⟨hd1, hd2, hd3⟩ := hd
          have HI := Lib.hid (isDig_true n c hd1 hd2 hd3)
          have hor : (c == 48) = false ∨ ((c == 48) = true ∧ (n == 0) = false) := by
            by_cases e : c = 48
            · exact .inr ⟨by simpa using e, by simp; omega⟩
            · exact .inl (by simpa using e)
          by_cases h9 : 9999 < 10 * n + (c - 48)
          · have HO := Lib.hid (digs_great (codes s) (i + k) c n (by simpa using h2) HG.out HI.out h9)
            have HV := Lib.hid (countV_bad (codes s) i (1 + k) 0 (by rw [HD.out, HO.out]; rfl))
            rcases hor with hor | ⟨hor, hor2⟩
            all_goals
              go_wp2_with fail
              (with_reducible refine (next_any g s (i + k) 1 _ (TR.blk HB.out (HZ.out _ _)) hs hik).mono ?_)
              rw [HN.out]
              rintro e w' ⟨rfl, T2⟩
              have T3 := TR.trans T2 HB.out (HZ.out _ _)
              go_wp2_with fail
              (with_reducible refine (bad_any g s (i + k + 1) 1 _ (T3.blk HB.out (HZ.out _ _))).mono ?_)
              rintro e w'' ⟨rfl, T4⟩
              have T5 := T3.trans T4 HB.out (HZ.out _ _)
              go_wp2_with fail
              go_ret2
              rw [HV.out]
              exact ⟨rfl, T5.to (by rw [show i + (1 + k) = i + k + 1 by omega]; rfl)⟩
          · have HO := Lib.hid (digs_on (codes s) (i + k) c n (by simpa using h2) HG.out HI.out h9)
            rcases hor with hor | ⟨hor, hor2⟩
            all_goals
              go_wp2_with fail
              (with_reducible refine (next_any g s (i + k) 1 _ (TR.blk HB.out (HZ.out _ _)) hs hik).mono ?_)
              rw [HN.out]
              rintro e w' ⟨rfl, T2⟩
              have T3 := TR.trans T2 HB.out (HZ.out _ _)
              go_wp2_with fail
              go_roundg (gk - 1)
              case measure => have := HQ.out; omega
              case rel => exact ⟨k + 1, 10 * n + (c - 48), c, by have := HQ.out; omega, by omega, rfl, rfl, by omega, by omega, by rw [HD.out, HO.out, ahead_ahead]; rfl, T3⟩
        · have HI := Lib.hid (isDig_false n c hd)
          have HO := Lib.hid (digs_not (codes s) (i + k) c n (by simpa using h2) HG.out HI.out)
          have HV := Lib.hid (countV_ok (codes s) i k n c (i + k + 1) 1 (by rw [HD.out, HO.out]; simp [ahead]) HN.out)
          have hor : c < 48 ∨ 57 < c ∨ ((c == 48) = true ∧ (n == 0) = true ∧ 48 ≤ c ∧ c ≤ 57) := by
            by_cases e : 48 ≤ c ∧ c ≤ 57
            · exact .inr (.inr ⟨by simp; omega, by simp; omega, e⟩)
            · omega
          rcases hor with hor | hor | ⟨hor, hor2, hor3, hor4⟩
          all_goals
            go_wp2_with fail
            (with_reducible refine (next_any g s (i + k) 1 _ (TR.blk HB.out (HZ.out _ _)) hs hik).mono ?_)
            rw [HN.out]
            rintro e w' ⟨rfl, T2⟩
            have T3 := TR.trans T2 HB.out (HZ.out _ _)
            go_wp2_with fail
            (with_reducible refine (plain_any c _).mono ?_)
            rintro e w'' ⟨rfl, rfl⟩
            go_wp2_with fail
            go_ret2
            rw [HV.out]
            exact ⟨rfl, T3⟩
      · have HN := Lib.hid (nextV_none s (i + k) h2)
        have HV := Lib.hid (countV_ok (codes s) i k n 0 (i + k) 0 (by rw [hdig, List.drop_eq_nil_of_le (by simp; omega)]; simp [ahead, digs]) HN.out)
        have HD := Lib.hid hdig
        have HQ := Lib.hid hq
        clear hdig hq
        go_wp2_with fail
        (with_reducible refine (next_any g s (i + k) 1 _ (TR.blk HB.out (HZ.out _ _)) hs hik).mono ?_)
        rw [HN.out]
        rintro e w' ⟨rfl, T2⟩
        have T3 := TR.trans T2 HB.out (HZ.out _ _)
        go_wp2_with fail
        (with_reducible refine (plain_any 0 _).mono ?_)
        rintro e w'' ⟨rfl, rfl⟩
        go_wp2_with fail
        go_ret2
        rw [HV.out]
        exact ⟨rfl, T3⟩
  · have HV := Lib.hid (countV_not (codes s) i what h1)
    have HN := Lib.hid (nextV_not (codes s) i what h1)
    go_enter Try.func14, Try.ntmps14
    go_wp2_with fail
    go_loopg [2, 3] 1 (fun q a b wr => a = .int .i64 0 ∧ wr = w)
    case atStart => exact ⟨rfl, rfl⟩
    case round =>
      obtain ⟨rfl, rfl⟩ := hrel
      go_wp2_with fail
      (with_reducible refine (next_any g s i what _ HB.out hs hi).mono ?_)
      rw [HN.out]
      rintro e w' ⟨rfl, T2⟩
      go_wp2_with fail
      (with_reducible refine (plain_any 0 _).mono ?_)
      rintro e w'' ⟨rfl, rfl⟩
      go_wp2_with fail
      go_ret2
      rw [HV.out]
      exact ⟨rfl, T2⟩

theorem digs_bound : ∀ (l : List Int) (n : Int), 0 ≤ n → n ≤ 9999 → 0 ≤ (digs l n).1 ∧ (digs l n).1 ≤ 9999 ∧ (digs l n).2.1 ≤ l.length := by
  intro l
  induction l with
  | nil => intro n h0 h1; simp [digs, h0, h1]
  | cons c r ih =>
    intro n h0 h1
    by_cases hd : isDig n c = true
    · by_cases h9 : 9999 < 10 * n + (c - 48)
      · simp [digs, hd, h9]
      · have := (isDig_iff n c).1 hd
        have := ih (10 * n + (c - 48)) (by omega) (by omega)
        simp only [digs, hd, h9, if_true, if_false, List.length_cons]
        omega
    · simp [digs, hd, h0, h1]
theorem like_byte (c : Int) (h0 : 0 ≤ c) (h1 : c ≤ 255) : 0 ≤ like c ∧ like c ≤ 255 := by
  unfold like; repeat' split
  all_goals omega
theorem countV_bound (s : ByteArray) (i : Nat) (what : Int) (hi : i ≤ s.size) :
    0 ≤ (countV (codes s) i what).1.1 ∧ (countV (codes s) i what).1.1 ≤ 9999 ∧ 0 ≤ (countV (codes s) i what).1.2 ∧ (countV (codes s) i what).1.2 ≤ 255 ∧ (countV (codes s) i what).2.1 ≤ s.size := by
  have hd := digs_bound ((codes s).drop i) 0 (by omega) (by omega)
  simp only [List.length_drop, length_codes] at hd
  have hn := nextV_byte s (i + (digs ((codes s).drop i) 0).2.1) 1
  have hl := like_byte _ hn.1 hn.2
  have hp := nextV_place s (i + (digs ((codes s).drop i) 0).2.1) 1 (by omega)
  unfold countV
  repeat' split
  · simp; exact hi
  · exact ⟨hd.1, hd.2.1, hl.1, hl.2, hp⟩
  · simp; omega

/-- The cells of a key. -/
def keyC (k : Key) : Array Value := #[.int .u8 k.reg, .int .i64 k.count, .int .u8 k.name, .int .u8 k.motion, .int .u8 k.letter]
theorem key_cells {w : World} {h : Nat} {k : Key} (hb : blk w h = keyC k) : w.cell? ⟨h, 0, none⟩ = some (.int .u8 k.reg) ∧ w.cell? ⟨h, 1, none⟩ = some (.int .i64 k.count) ∧ w.cell? ⟨h, 2, none⟩ = some (.int .u8 k.name) ∧
    w.cell? ⟨h, 3, none⟩ = some (.int .u8 k.motion) ∧ w.cell? ⟨h, 4, none⟩ = some (.int .u8 k.letter) ∧ w.frozen? ⟨h, 0, none⟩ = false ∧ w.frozen? ⟨h, 1, none⟩ = false ∧ w.frozen? ⟨h, 2, none⟩ = false ∧ w.frozen? ⟨h, 3, none⟩ = false ∧ w.frozen? ⟨h, 4, none⟩ = false := by
  have hz : 0 < (keyC k).size := by simp [keyC]
  exact ⟨Blk.cell hb hz 0, Blk.cell hb hz 1, Blk.cell hb hz 2, Blk.cell hb hz 3, Blk.cell hb hz 4, Blk.free hb hz 0, Blk.free hb hz 1, Blk.free hb hz 2, Blk.free hb hz 3, Blk.free hb hz 4⟩
theorem inS_mot (c : Int) : inS c ⟨#[104, 106, 107, 108, 48, 94, 36, 119, 98, 101, 87, 66, 69, 71, 59, 44, 110, 78, 43, 45, 124]⟩ = isMot c := rfl
theorem inS_let (c : Int) : inS c ⟨#[102, 70, 116, 84, 39]⟩ = isLet c := rfl
theorem inS_op (c : Int) : inS c ⟨#[100, 99, 121, 60, 62]⟩ = isOp c := rfl
theorem inS_oth (c : Int) : inS c ⟨#[105, 73, 97, 65, 111, 79, 82, 120, 88, 68, 67, 89, 112, 80, 74, 126, 117, 46, 58, 47, 63]⟩ = isOth c := rfl
theorem mot_nonzero (c : Int) (h : isMot c = true) : (c != 0) = true := by
  rw [bne_iff_ne]; rintro rfl; exact absurd h (by decide)
theorem let_nonzero (c : Int) (h : isLet c = true) : (c != 0) = true := by
  rw [bne_iff_ne]; rintro rfl; exact absurd h (by decide)

theorem operV_mot (l : List Int) (k : Key) (i : Nat) (what n c : Int) (j : Nat) (is : Int) (e : countV l i what = ((n, c), j, is)) (h : c = k.name ∨ isMot c = true) :
    operV l k i what = ({ k with count := timesV k.count n, motion := c }, j, is) := by unfold operV; simp only [e]; rw [if_pos h]
theorem operV_let (l : List Int) (k : Key) (i : Nat) (what n c : Int) (j : Nat) (is : Int) (e : countV l i what = ((n, c), j, is)) (h : ¬ (c = k.name ∨ isMot c = true)) (h2 : isLet c = true) :
    operV l k i what = ({ k with count := timesV k.count n, motion := c, letter := (nextV l j is).1 }, (nextV l j is).2) := by unfold operV; simp only [e]; rw [if_neg h, if_pos h2]
theorem operV_bad (l : List Int) (k : Key) (i : Nat) (what n c : Int) (j : Nat) (is : Int) (e : countV l i what = ((n, c), j, is)) (h : ¬ (c = k.name ∨ isMot c = true)) (h2 : isLet c = false) :
    operV l k i what = ({ k with count := timesV k.count n, motion := c }, j, badV is) := by unfold operV; simp only [e]; rw [if_neg h, if_neg (by simp [h2])]

set_option maxHeartbeats 1000000 in
theorem operator_any (g h : Nat) (s : ByteArray) (i : Nat) (what : Int) (k : Key) (w : World) (hb : blk w g = hand s i what) (hk : blk w h = keyC k) (hne : g ≠ h) (hs : s.size ≤ 9223372036854775806) (hi : i ≤ s.size) (hk0 : 0 ≤ k.count) (hk9 : k.count ≤ 9999) :
    Calls Try.prog 16 #[.pointer (some ⟨g, 0, none⟩), .pointer (some ⟨h, 0, none⟩)] w fun e w' =>
      e = .returned (.tuple #[]) ∧ Turned2 w g (hand s (operV (codes s) k i what).2.1 (operV (codes s) k i what).2.2) h (keyC (operV (codes s) k i what).1) w' := by
  have hz : ∀ i what, 0 < (hand s i what).size := by simp [hand]
  have kz : ∀ k, 0 < (keyC k).size := by simp [keyC]
  have T := Turned2.refl hb (hz _ _) hk (kz _)
  have HB := Lib.hid hb
  have HK := Lib.hid hk
  have HZ := Lib.hid hz
  have KZ := Lib.hid kz
  clear hb hz hk kz
  have hbd := countV_bound s i what hi
  obtain ⟨n, c, j, is, hx⟩ : ∃ n c j is, countV (codes s) i what = ((n, c), j, is) := ⟨_, _, _, _, rfl⟩
  rw [hx] at hbd
  obtain ⟨hn0, hn9, hc0, hc9, hj⟩ := hbd
  simp only at hn0 hn9 hc0 hc9 hj
  have HX := Lib.hid hx
  clear hx
  by_cases h1 : c = k.name ∨ isMot c = true
  · have HV := Lib.hid (operV_mot _ k _ _ _ _ _ _ HX.out h1)
    have hor : (c == k.name) = true ∨ ((c == k.name) = false ∧ isMot c = true ∧ (c != 0) = true) := by
      by_cases e : c = k.name
      · exact .inl (by simpa using e)
      · have := h1.resolve_left e
        exact .inr ⟨by simpa using e, this, mot_nonzero c this⟩
    have H1 := Lib.hid h1
    clear h1
    go_enter Try.func16, Try.ntmps16
    go_wp2_with fail
    (with_reducible refine (count_any g s i what _ HB.out hs hi).mono ?_)
    rw [HX.out]
    rintro e w1 ⟨rfl, T1⟩
    have T2 := T.turn1 T1 hne HB.out (HZ.out _ _)
    obtain ⟨k0, k1, k2, k3, k4, f0, f1, f2, f3, f4⟩ := key_cells (T2.blk2 hne HK.out (KZ.out _))
    go_wp2_with fail
    (with_reducible refine (times_any k.count n _ hk0 hk9 hn0 hn9).mono ?_)
    rintro e w2 ⟨rfl, rfl⟩
    have T3 := ((T2.set2 hne HK.out (KZ.out _) (KZ.out _) 1 (.int .i64 (timesV k.count n))).set2 hne HK.out (KZ.out _) (by simp [keyC]) 3 (.int .u8 c)).to (d' := keyC { k with count := timesV k.count n, motion := c }) rfl (by simp [keyC])
    rcases hor with hor | ⟨hor, hor2, hor3⟩
    · go_wp2_with fail
      go_end0
      rw [HV.out]
      exact ⟨rfl, T3⟩
    · go_wp2_with fail
      (with_reducible refine (in_any c _ _ hc0 hc9).mono ?_)
      rw [inS_mot, hor2]
      rintro e w3 ⟨rfl, rfl⟩
      go_wp2_with fail
      go_end0
      rw [HV.out]
      exact ⟨rfl, T3⟩
  · have hx1 : (c == k.name) = false := by simp; exact fun e => h1 (.inl e)
    have hx2 : isMot c = false := by rw [← Bool.not_eq_true]; exact fun e => h1 (.inr e)
    cases h2 : isLet c with
    | true =>
      have HV := Lib.hid (operV_let _ k _ _ _ _ _ _ HX.out h1 h2)
      have h3 := let_nonzero c h2
      have H1 := Lib.hid h1
      clear h1
      go_enter Try.func16, Try.ntmps16
      go_wp2_with fail
      (with_reducible refine (count_any g s i what _ HB.out hs hi).mono ?_)
      rw [HX.out]
      rintro e w1 ⟨rfl, T1⟩
      have T2 := T.turn1 T1 hne HB.out (HZ.out _ _)
      obtain ⟨k0, k1, k2, k3, k4, f0, f1, f2, f3, f4⟩ := key_cells (T2.blk2 hne HK.out (KZ.out _))
      go_wp2_with fail
      (with_reducible refine (times_any k.count n _ hk0 hk9 hn0 hn9).mono ?_)
      rintro e w2 ⟨rfl, rfl⟩
      have T3 := ((T2.set2 hne HK.out (KZ.out _) (KZ.out _) 1 (.int .i64 (timesV k.count n))).set2 hne HK.out (KZ.out _) (by simp [keyC]) 3 (.int .u8 c)).to (d' := keyC { k with count := timesV k.count n, motion := c }) rfl (by simp [keyC])
      go_wp2_with fail
      (with_reducible refine (in_any c _ _ hc0 hc9).mono ?_)
      rw [inS_mot, hx2]
      rintro e w3 ⟨rfl, rfl⟩
      go_wp2_with fail
      (with_reducible refine (in_any c _ _ hc0 hc9).mono ?_)
      rw [inS_let, h2]
      rintro e w4 ⟨rfl, rfl⟩
      go_wp2_with fail
      (with_reducible refine (next_any g s j is _ (T3.blk1 hne HB.out (HZ.out _ _)) hs hj).mono ?_)
      rintro e w5 ⟨rfl, T4⟩
      have T5 := T3.turn1 T4 hne HB.out (HZ.out _ _)
      obtain ⟨-, -, -, -, q4, -, -, -, -, g4⟩ := key_cells (T5.blk2 hne HK.out (KZ.out _))
      have T6 := (T5.set2 hne HK.out (KZ.out _) (KZ.out _) 4 (.int .u8 (nextV (codes s) j is).1))
      go_wp2_with fail
      go_end0
      rw [HV.out]
      exact ⟨rfl, T6.to rfl (by simp [keyC])⟩
    | false =>
      have HV := Lib.hid (operV_bad _ k _ _ _ _ _ _ HX.out h1 h2)
      have H1 := Lib.hid h1
      clear h1
      go_enter Try.func16, Try.ntmps16
      go_wp2_with fail
      (with_reducible refine (count_any g s i what _ HB.out hs hi).mono ?_)
      rw [HX.out]
      rintro e w1 ⟨rfl, T1⟩
      have T2 := T.turn1 T1 hne HB.out (HZ.out _ _)
      obtain ⟨k0, k1, k2, k3, k4, f0, f1, f2, f3, f4⟩ := key_cells (T2.blk2 hne HK.out (KZ.out _))
      go_wp2_with fail
      (with_reducible refine (times_any k.count n _ hk0 hk9 hn0 hn9).mono ?_)
      rintro e w2 ⟨rfl, rfl⟩
      have T3 := ((T2.set2 hne HK.out (KZ.out _) (KZ.out _) 1 (.int .i64 (timesV k.count n))).set2 hne HK.out (KZ.out _) (by simp [keyC]) 3 (.int .u8 c)).to (d' := keyC { k with count := timesV k.count n, motion := c }) rfl (by simp [keyC])
      go_wp2_with fail
      (with_reducible refine (in_any c _ _ hc0 hc9).mono ?_)
      rw [inS_mot, hx2]
      rintro e w3 ⟨rfl, rfl⟩
      go_wp2_with fail
      (with_reducible refine (in_any c _ _ hc0 hc9).mono ?_)
      rw [inS_let, h2]
      rintro e w4 ⟨rfl, rfl⟩
      go_wp2_with fail
      (with_reducible refine (bad_any g s j is _ (T3.blk1 hne HB.out (HZ.out _ _))).mono ?_)
      rintro e w5 ⟨rfl, T4⟩
      have T5 := T3.turn1 T4 hne HB.out (HZ.out _ _)
      go_wp2_with fail
      go_end0
      rw [HV.out]
      exact ⟨rfl, T5⟩

end Go.Proofs.Ytljahcdnleefbaa
