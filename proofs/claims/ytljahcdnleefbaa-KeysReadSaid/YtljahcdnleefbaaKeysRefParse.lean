/-
  Keys: the walk of the document's Parse.
-/
import Derived.Test.YtljahcdnleefbaaKeysRef
namespace Go.Proofs.Ytljahcdnleefbaa
open Go.RowKit

theorem refV_empty (s : ByteArray) (h : s.size = 0) : refV (codes s) = refC (codes s) 0 0 := by
  have : codes s = [] := List.eq_nil_of_length_eq_zero (by simpa using h)
  rw [this]; rfl
theorem refV_other (s : ByteArray) (h : 0 < s.size) (h2 : (s[0].toNat : Int) ≠ 34) : refV (codes s) = refC (codes s) 0 0 := by
  unfold refV; rw [head_codes s h, if_neg (by simpa using h2)]
theorem refV_more (s : ByteArray) (h : 0 < s.size) (h2 : (s[0].toNat : Int) = 34) (h3 : ¬ 1 < s.size) : refV (codes s) = (key0, 0, 0) := by
  unfold refV; rw [head_codes s h, if_pos (by rw [h2]), dif_neg (by simpa using h3)]
theorem refV_reg (s : ByteArray) (h : 0 < s.size) (h2 : (s[0].toNat : Int) = 34) (h3 : 1 < s.size) : refV (codes s) = if isReg (s[1].toNat : Int) then refC (codes s) (s[1].toNat : Int) 2 else (key0, 2, 2) := by
  unfold refV; rw [head_codes s h, if_pos (by rw [h2]), dif_pos (by simpa using h3), codes_get s 1 h3]

/-- The world of the document's Parse: the result's block, and the key's. -/
def refW (w : World) (k0 k1 k2 k3 k4 : Int) : World := (w.alloc (.cells #[.int .u8 0, .int .i64 0, .int .u8 0, .int .u8 0, .int .u8 0] 24)).alloc (.cells #[.int .u8 k0, .int .i64 k1, .int .u8 k2, .int .u8 k3, .int .u8 k4] 24)

theorem min_pos (a b : Int) (ha : 0 < a) (hb : 0 < b) : timesV a b = min (a * b) 9999 := by
  unfold timesV; rw [if_neg (by omega)]
theorem add_pos (a b : Int) (h : ¬ (0 < a ∧ 0 < b)) (ha : 0 ≤ a) (hb : 0 ≤ b) : timesV a b = a + b := by
  unfold timesV; rw [if_pos (by omega)]
theorem refC_bad (l : List Int) (r : Int) (i : Nat) (h : (digs (l.drop i) 0).2.2 = false) : refC l r i = (key0, i + (digs (l.drop i) 0).2.1, 2) := by
  unfold refC; simp [h]
theorem refC_end (l : List Int) (r : Int) (i : Nat) (h : (digs (l.drop i) 0).2.2 = true) (h2 : ¬ i + (digs (l.drop i) 0).2.1 < l.length) : refC l r i = (key0, 0, 0) := by
  unfold refC; simp only [h, if_true]; rw [dif_neg h2]
theorem refC_on (l : List Int) (r n c : Int) (i j : Nat) (h : digs (l.drop i) 0 = (n, j, true)) (h2 : i + j < l.length) (e : like l[i + j] = c) : refC l r i =
    (if isOp c then refO l r n c (i + j + 1) else if isLet c ∨ c = 114 ∨ c = 109 then refL l ⟨r, n, c, 0, 0⟩ (i + j + 1) else
     if isMot c ∨ isOth c ∨ c = 12 then (⟨r, n, c, 0, 0⟩, i + j + 1, 1) else (key0, i + j + 1, 2)) := by
  unfold refC; simp only [h, if_true]; rw [dif_pos h2, e]
theorem refO_bad (l : List Int) (r n c : Int) (i : Nat) (h : (digs (l.drop i) 0).2.2 = false) : refO l r n c i = (key0, i + (digs (l.drop i) 0).2.1, 2) := by
  unfold refO; simp [h]
theorem refO_end (l : List Int) (r n c : Int) (i : Nat) (h : (digs (l.drop i) 0).2.2 = true) (h2 : ¬ i + (digs (l.drop i) 0).2.1 < l.length) : refO l r n c i = (key0, 0, 0) := by
  unfold refO; simp only [h, if_true]; rw [dif_neg h2]
theorem refO_on (l : List Int) (r n c m d : Int) (i j : Nat) (h : digs (l.drop i) 0 = (m, j, true)) (h2 : i + j < l.length) (e : like l[i + j] = d) : refO l r n c i =
    (if d ≠ c ∧ ¬ (isMot d = true ∨ isLet d = true) then (key0, i + j + 1, 2) else
     if isLet d then refL l ⟨r, timesV n m, c, d, 0⟩ (i + j + 1) else (⟨r, timesV n m, c, d, 0⟩, i + j + 1, 1)) := by
  unfold refO; simp only [h, if_true]; rw [dif_pos h2, e]
theorem refL_some (s : ByteArray) (k : Key) (i : Nat) (h : i < s.size) : refL (codes s) k i = ({ k with letter := (s[i].toNat : Int) }, i + 1, 1) := by
  unfold refL; rw [dif_pos (by simpa using h), codes_get s i h]
theorem refL_none (s : ByteArray) (k : Key) (i : Nat) (h : ¬ i < s.size) : refL (codes s) k i = (key0, 0, 0) := by
  unfold refL; rw [dif_neg (by simpa using h)]
theorem refCount_at (s : ByteArray) (i : Nat) (z : Int) (w : World) (hs : s.size ≤ 9223372036854775806) (hi : i ≤ s.size) (hz : z = i) :
    Calls Try.prog 19 #[.string s, .int .i64 z] w fun e w' =>
      e = .returned (.tuple #[.int .i64 (digs ((codes s).drop i) 0).1, .int .i64 ((i : Int) + ((digs ((codes s).drop i) 0).2.1 : Int)), .bool (digs ((codes s).drop i) 0).2.2]) ∧ w = w' := by
  subst hz; exact refCount_any s i w hs hi
/-- Does it begin with a register? -/
def quotedB (s : ByteArray) : Bool := decide ((codes s).head? = some 34)
theorem refW_grows (w : World) (a b c d e k0 k1 k2 k3 k4 : Int) : Grows w ((w.alloc (.cells #[.int .u8 a, .int .i64 b, .int .u8 c, .int .u8 d, .int .u8 e] 24)).alloc (.cells #[.int .u8 k0, .int .i64 k1, .int .u8 k2, .int .u8 k3, .int .u8 k4] 24)) :=
  ((Grows.refl _).alloc _).alloc _

set_option maxHeartbeats 2000000 in
set_option maxRecDepth 100000 in
theorem refParse_any (s : ByteArray) (w : World) (hs : s.size ≤ 9223372036854775806) :
    Calls Try.prog 8 #[.string s] w fun e w' =>
      e = .returned (.tuple #[.agg (keyC (refV (codes s)).1), .int .i64 (refV (codes s)).2.1, .int .i64 (refV (codes s)).2.2]) ∧ Grows w w' := by
  go_enter Try.func8, Try.ntmps8
  go_upto_region 3 with (fail)
  go_cut [20] (fun s20 wx => s20 = .bool (quotedB s) ∧ wx = refW w 0 0 0 0 0)
  case first =>
    as_aux_lemma =>
      by_cases h1 : s = ByteArray.empty
      · subst h1
        go_wp2_with fail
        go_meet
        exact ⟨rfl, rfl⟩
      · have h1' : 0 < s.size := Nat.pos_of_ne_zero fun h => h1 (ByteArray.size_eq_zero_iff.1 h)
        have HH := Lib.hid (head_codes s h1')
        clear h1
        go_wp2_with fail
        go_meet
        refine ⟨?_, rfl⟩
        unfold quotedB
        rw [HH.out]
        simp only [Option.some.injEq]
        exact congrArg Value.bool (by by_cases e : (s[0].toNat : Int) = 34 <;> simp [e])
  case rest =>
    obtain ⟨rfl, rfl⟩ := hcut
    unfold refW
    go_upto_if 20 with (fail)
    go_cut [6] (fun s6 wx => ∃ (r : Int) (i : Nat), s6 = .int .i64 i ∧ i ≤ s.size ∧ wx = refW w r 0 0 0 0 ∧ refV (codes s) = refC (codes s) r i)
    case first =>
      as_aux_lemma =>
        cases hq : quotedB s with
        | false =>
          as_aux_lemma =>
            have hv : refV (codes s) = refC (codes s) 0 0 := by
              unfold refV; rw [if_neg (by simpa [quotedB] using hq)]
            have HV := Lib.hid hv
            clear hv
            go_wp2_with fail
            go_meet
            exact ⟨0, 0, rfl, by omega, rfl, HV.out⟩
        | true =>
          as_aux_lemma =>
            have hh : (codes s).head? = some 34 := by simpa [quotedB] using hq
            have h1 : 0 < s.size := by
              rcases Nat.eq_zero_or_pos s.size with e | e
              · rw [List.eq_nil_of_length_eq_zero (l := codes s) (by simpa using e)] at hh; cases hh
              · exact e
            have h2 : (s[0].toNat : Int) = 34 := by rw [head_codes s h1] at hh; simpa using hh
            by_cases h3 : 1 < s.size
            · have HV := Lib.hid (refV_reg s h1 h2 h3)
              have e1 : (s.size == 1) = false := by simp; omega
              have e2 : ((s.size : Int) == 1) = false := by simp; omega
              have hc := s[1].toNat_lt
              clear hh h2
              have hor : (s[1].toNat : Int) < 49 ∨ (49 ≤ (s[1].toNat : Int) ∧ (s[1].toNat : Int) ≤ 57) ∨ (57 < (s[1].toNat : Int) ∧ (s[1].toNat : Int) < 65) ∨ (65 ≤ (s[1].toNat : Int) ∧ (s[1].toNat : Int) ≤ 90) ∨
                  (90 < (s[1].toNat : Int) ∧ (s[1].toNat : Int) < 97) ∨ (97 ≤ (s[1].toNat : Int) ∧ (s[1].toNat : Int) ≤ 122) ∨ 122 < (s[1].toNat : Int) := by omega
              rcases hor with k1 | ⟨k1, k2⟩ | ⟨k1, k2⟩ | ⟨k1, k2⟩ | ⟨k1, k2⟩ | ⟨k1, k2⟩ | k1
              all_goals
                try have b1 : decide ((s[1].toNat : Int) ≤ 57) = false := by (simp; omega)
                try have b2 : decide ((s[1].toNat : Int) ≤ 90) = false := by (simp; omega)
                try have b3 : decide ((s[1].toNat : Int) ≤ 122) = false := by (simp; omega)
                go_wp2_with fail
                first
                | (go_meet; exact ⟨(s[1].toNat : Int), 2, rfl, by omega, rfl, by rw [HV.out, if_pos (isReg_true _ (by omega))]⟩)
                | (rw [HV.out, if_neg (by rw [isReg_false _ (by omega)]; simp)]
                   exact bodyPost_ret (v := .tuple #[.agg #[.int .u8 0, .int .i64 0, .int .u8 0, .int .u8 0, .int .u8 0], .int .i64 2, .int .i64 2]) (by simp [results, Try.results8, go_sem]) rfl ⟨rfl, refW_grows ..⟩)
            · have HV := Lib.hid (refV_more s h1 h2 h3)
              have e1 : (s.size == 1) = true := by simp; omega
              have e2 : ((s.size : Int) == 1) = true := by simp; omega
              clear hh h2
              go_wp2_with fail
              rw [HV.out]
              exact bodyPost_ret (v := .tuple #[.agg #[.int .u8 0, .int .i64 0, .int .u8 0, .int .u8 0, .int .u8 0], .int .i64 0, .int .i64 0]) (by simp [results, Try.results8, go_sem]) rfl ⟨rfl, refW_grows ..⟩
    case rest =>
      obtain ⟨r, i, rfl, hi, rfl, hr⟩ := hcut
      unfold refW
      have HR := Lib.hid hr
      clear hr
      have hd := digs_bound ((codes s).drop i) 0 (by omega) (by omega)
      simp only [List.length_drop, length_codes] at hd
      obtain ⟨n, j, ok, hx⟩ : ∃ n j ok, digs ((codes s).drop i) 0 = (n, j, ok) := ⟨_, _, _, rfl⟩
      rw [hx] at hd
      obtain ⟨hn0, hn9, hj⟩ := hd
      simp only at hn0 hn9 hj
      have HX := Lib.hid hx
      clear hx
      go_wp2_with fail
      (with_reducible refine (refCount_any s i _ hs hi).mono ?_)
      rw [HX.out]
      rintro e w' ⟨rfl, rfl⟩
      cases ok with
      | false =>
        as_aux_lemma =>
          have HV := Lib.hid (refC_bad (codes s) r i (by rw [HX.out]))
          go_wp2_with fail
          rw [HR.out, HV.out, HX.out]
          exact bodyPost_ret (v := .tuple #[.agg #[.int .u8 0, .int .i64 0, .int .u8 0, .int .u8 0, .int .u8 0], .int .i64 (i + j), .int .i64 2]) (by simp [results, Try.results8, go_sem]) rfl ⟨rfl, refW_grows ..⟩
      | true =>
        as_aux_lemma =>
          by_cases h1 : i + j < s.size
          · have HV := Lib.hid (refC_on (codes s) r n _ i j HX.out (by simpa using h1) (by rw [codes_get s (i + j) h1]))
            have hb := s[i + j].toNat_lt
            have hl := like_byte (s[i + j].toNat : Int) (by omega) (by omega)
            go_wp2_with fail
            (with_reducible refine (refLike_any _ _).mono ?_)
            rintro e w' ⟨rfl, rfl⟩
            generalize like (s[i + j].toNat : Int) = c at HV hl ⊢
            obtain ⟨hc0, hc9⟩ := hl
            go_upto_if 80 with (with_reducible refine (refIn_any _ _ _ (by decide)).mono ?_; rintro e w' ⟨rfl, rfl⟩; rw [inS_op])
            go_cut [6] (fun s6 wx => ∃ (a b c d : Int) (q : Nat), s6 = .int .i64 q ∧ q ≤ s.size ∧ wx = refW w a b c d 0 ∧ refV (codes s) = refL (codes s) ⟨a, b, c, d, 0⟩ q)
            case first =>
              as_aux_lemma =>
                cases hop : isOp c with
                | true =>
                  as_aux_lemma =>
                    have hd2 := digs_bound ((codes s).drop (i + j + 1)) 0 (by omega) (by omega)
                    simp only [List.length_drop, length_codes] at hd2
                    obtain ⟨m, q, ok, hy⟩ : ∃ m q ok, digs ((codes s).drop (i + j + 1)) 0 = (m, q, ok) := ⟨_, _, _, rfl⟩
                    rw [hy] at hd2
                    obtain ⟨hm0, hm9, hq⟩ := hd2
                    simp only at hm0 hm9 hq
                    have HY := Lib.hid hy
                    clear hy
                    go_wp2_with fail
                    (with_reducible refine (refCount_at s (i + j + 1) _ _ hs (by omega) (by omega)).mono ?_)
                    rw [HY.out]
                    rintro e w' ⟨rfl, rfl⟩
                    cases ok with
                    | false =>
                      as_aux_lemma =>
                        have HU := Lib.hid (refO_bad (codes s) r n c (i + j + 1) (by rw [HY.out]))
                        go_wp2_with fail
                        rw [HR.out, HV.out, if_pos hop, HU.out, HY.out]
                        exact bodyPost_ret (v := .tuple #[.agg #[.int .u8 0, .int .i64 0, .int .u8 0, .int .u8 0, .int .u8 0], .int .i64 (((i + j + 1 : Nat) : Int) + q), .int .i64 2]) (by simp [results, Try.results8, go_sem]) rfl ⟨rfl, refW_grows ..⟩
                    | true =>
                      as_aux_lemma =>
                        by_cases h4 : i + j + 1 + q < s.size
                        · have HU := Lib.hid (refO_on (codes s) r n c m _ (i + j + 1) q HY.out (by simpa using h4) (by rw [codes_get s (i + j + 1 + q) h4]))
                          have hb2 := s[i + j + 1 + q].toNat_lt
                          have hl2 := like_byte (s[i + j + 1 + q].toNat : Int) (by omega) (by omega)
                          go_wp2_with fail
                          (with_reducible refine (refLike_any _ _).mono ?_)
                          rintro e w' ⟨rfl, rfl⟩
                          generalize like (s[i + j + 1 + q].toNat : Int) = d at HU hl2 ⊢
                          obtain ⟨hd0, hd9⟩ := hl2
                          go_upto_region 27 with (fail)
                          go_cut [110] (fun s110 wx => s110 = .bool (decide (0 < n) && decide (0 < m)) ∧ wx = refW w r n c d 0)
                          case first =>
                            as_aux_lemma =>
                              by_cases hnp : 0 < n
                              · go_wp2_with fail
                                go_meet
                                exact ⟨by simp [hnp], rfl⟩
                              · go_wp2_with fail
                                go_meet
                                exact ⟨by rw [show decide (0 < n) = false by simpa using hnp]; rfl, rfl⟩
                          case rest =>
                            obtain ⟨rfl, rfl⟩ := hcut
                            unfold refW
                            go_upto_if 110 with (fail)
                            go_cut [111] (fun s111 wx => wx = refW w r (timesV n m) c d 0)
                            case first =>
                              as_aux_lemma =>
                                by_cases hnp : 0 < n ∧ 0 < m
                                · have hb3 : (decide (0 < n) && decide (0 < m)) = true := by simp [hnp]
                                  have hm1 : n * m ≤ 9999 * 9999 := Int.mul_le_mul hn9 hm9 hm0 (by omega)
                                  have hm2 : 0 ≤ n * m := Int.mul_nonneg hn0 hm0
                                  have HT := Lib.hid (min_pos n m hnp.1 hnp.2)
                                  rw [hb3]
                                  go_wp2_with fail
                                  go_meet
                                  rw [HT.out]
                                  rfl
                                · have hb3 : (decide (0 < n) && decide (0 < m)) = false := by simpa using hnp
                                  have HT := Lib.hid (add_pos n m hnp hn0 hm0)
                                  rw [hb3]
                                  go_wp2_with fail
                                  go_meet
                                  rw [HT.out]
                                  rfl
                            case rest =>
                              subst hcut
                              unfold refW
                              cases hld : isLet d with
                              | true =>
                                as_aux_lemma =>
                                  have hml : (isMot d || isLet d) = true := by simp [hld]
                                  have hU2 : refO (codes s) r n c (i + j + 1) = refL (codes s) ⟨r, timesV n m, c, d, 0⟩ (i + j + 1 + q + 1) := by
                                    rw [HU.out, if_neg (by simp [hld]), if_pos hld]
                                  have HU2 := Lib.hid hU2
                                  have HML := Lib.hid hml
                                  clear hU2 hml
                                  have hdc : (d != c) = true := by
                                    rw [bne_iff_ne]; rintro rfl; rw [op_not_let hop] at hld; cases hld
                                  go_wp2_with fail
                                  (with_reducible refine (refMotion_any _ _).mono ?_)
                                  rw [HML.out]
                                  rintro e w' ⟨rfl, rfl⟩
                                  go_wp2_with fail
                                  (with_reducible refine (refLetter_any _ _).mono ?_)
                                  rw [hld]
                                  rintro e w' ⟨rfl, rfl⟩
                                  go_wp2_with fail
                                  go_meet
                                  exact ⟨r, timesV n m, c, d, i + j + 1 + q + 1, by go_num, by omega, rfl, by rw [HR.out, HV.out, if_pos hop, HU2.out]⟩
                              | false =>
                                as_aux_lemma =>
                                  by_cases hdc : d = c
                                  · have hdc' : (d != c) = false := by simpa using hdc
                                    have hU2 : refO (codes s) r n c (i + j + 1) = (⟨r, timesV n m, c, d, 0⟩, i + j + 1 + q + 1, 1) := by
                                      rw [HU.out, if_neg (by simp [hdc]), if_neg (by simp [hld])]
                                    have HU2 := Lib.hid hU2
                                    clear hU2 hdc
                                    go_wp2_with fail
                                    (with_reducible refine (refLetter_any _ _).mono ?_)
                                    rw [hld]
                                    rintro e w' ⟨rfl, rfl⟩
                                    go_wp2_with fail
                                    rw [HR.out, HV.out, if_pos hop, HU2.out]
                                    exact bodyPost_ret (v := .tuple #[.agg #[.int .u8 r, .int .i64 (timesV n m), .int .u8 c, .int .u8 d, .int .u8 0], .int .i64 (((i + j + 1 + q : Nat) : Int) + 1), .int .i64 1]) (by simp [results, Try.results8, go_sem]) rfl ⟨rfl, refW_grows ..⟩
                                  · have hdc' : (d != c) = true := by simpa using hdc
                                    cases hmd : isMot d with
                                    | true =>
                                      as_aux_lemma =>
                                        have hml : (isMot d || isLet d) = true := by simp [hmd]
                                        have hU2 : refO (codes s) r n c (i + j + 1) = (⟨r, timesV n m, c, d, 0⟩, i + j + 1 + q + 1, 1) := by
                                          rw [HU.out, if_neg (by simp [hmd]), if_neg (by simp [hld])]
                                        have HU2 := Lib.hid hU2
                                        have HML := Lib.hid hml
                                        clear hU2 hdc hml
                                        go_wp2_with fail
                                        (with_reducible refine (refMotion_any _ _).mono ?_)
                                        rw [HML.out]
                                        rintro e w' ⟨rfl, rfl⟩
                                        go_wp2_with fail
                                        (with_reducible refine (refLetter_any _ _).mono ?_)
                                        rw [hld]
                                        rintro e w' ⟨rfl, rfl⟩
                                        go_wp2_with fail
                                        rw [HR.out, HV.out, if_pos hop, HU2.out]
                                        exact bodyPost_ret (v := .tuple #[.agg #[.int .u8 r, .int .i64 (timesV n m), .int .u8 c, .int .u8 d, .int .u8 0], .int .i64 (((i + j + 1 + q : Nat) : Int) + 1), .int .i64 1]) (by simp [results, Try.results8, go_sem]) rfl ⟨rfl, refW_grows ..⟩
                                    | false =>
                                      as_aux_lemma =>
                                        have hml : (isMot d || isLet d) = false := by simp [hmd, hld]
                                        have hU2 : refO (codes s) r n c (i + j + 1) = (key0, i + j + 1 + q + 1, 2) := by
                                          rw [HU.out, if_pos ⟨hdc, by simp [hmd, hld]⟩]
                                        have HU2 := Lib.hid hU2
                                        have HML := Lib.hid hml
                                        clear hU2 hdc hml
                                        go_wp2_with fail
                                        (with_reducible refine (refMotion_any _ _).mono ?_)
                                        rw [HML.out]
                                        rintro e w' ⟨rfl, rfl⟩
                                        go_wp2_with fail
                                        rw [HR.out, HV.out, if_pos hop, HU2.out]
                                        exact bodyPost_ret (v := .tuple #[.agg #[.int .u8 0, .int .i64 0, .int .u8 0, .int .u8 0, .int .u8 0], .int .i64 (((i + j + 1 + q : Nat) : Int) + 1), .int .i64 2]) (by simp [results, Try.results8, go_sem]) rfl ⟨rfl, refW_grows ..⟩
                        · have HU := Lib.hid (refO_end (codes s) r n c (i + j + 1) (by rw [HY.out]) (by rw [HY.out]; simpa using h4))
                          go_wp2_with fail
                          rw [HR.out, HV.out, if_pos hop, HU.out]
                          exact bodyPost_ret (v := .tuple #[.agg #[.int .u8 0, .int .i64 0, .int .u8 0, .int .u8 0, .int .u8 0], .int .i64 0, .int .i64 0]) (by simp [results, Try.results8, go_sem]) rfl ⟨rfl, refW_grows ..⟩
                | false =>
                  as_aux_lemma =>
                    by_cases h3 : isLet c = true ∨ c = 114 ∨ c = 109
                    · have hv2 : refV (codes s) = refL (codes s) ⟨r, n, c, 0, 0⟩ (i + j + 1) := by
                        rw [HR.out, HV.out, if_neg (by simp [hop]), if_pos h3]
                      have HV2 := Lib.hid hv2
                      have hor : isLet c = true ∨ (isLet c = false ∧ (c != 114) = false) ∨ (isLet c = false ∧ (c != 114) = true ∧ (c != 109) = false) := by
                        cases e : isLet c with
                        | true => exact .inl rfl
                        | false =>
                          as_aux_lemma =>
                            rcases h3 with h3 | h3 | h3
                            · rw [e] at h3; cases h3
                            · exact .inr (.inl ⟨rfl, by simpa using h3⟩)
                            · exact .inr (.inr ⟨rfl, by simp; omega, by simpa using h3⟩)
                      clear h3 hv2
                      rcases hor with hor | ⟨hor, hor2⟩ | ⟨hor, hor2, hor3⟩
                      all_goals
                        go_wp2_with fail
                        (with_reducible refine (refLetter_any _ _).mono ?_)
                        rw [hor]
                        rintro e w' ⟨rfl, rfl⟩
                        go_wp2_with fail
                        go_meet
                        exact ⟨r, n, c, 0, i + j + 1, by go_num, by omega, rfl, HV2.out⟩
                    · have hl3 : isLet c = false := by rw [← Bool.not_eq_true]; exact fun e => h3 (.inl e)
                      have hr3 : (c != 114) = true := by simp; exact fun e => h3 (.inr (.inl e))
                      have hm3 : (c != 109) = true := by simp; exact fun e => h3 (.inr (.inr e))
                      by_cases h4 : isMot c = true ∨ isOth c = true ∨ c = 12
                      · have hv2 : refV (codes s) = (⟨r, n, c, 0, 0⟩, i + j + 1, 1) := by
                          rw [HR.out, HV.out, if_neg (by simp [hop]), if_neg h3, if_pos h4]
                        have HV2 := Lib.hid hv2
                        have hor : isMot c = true ∨ (isMot c = false ∧ isOth c = true) ∨ (isMot c = false ∧ isOth c = false ∧ (c == 12) = true) := by
                          cases e : isMot c with
                          | true => exact .inl rfl
                          | false =>
                            as_aux_lemma =>
                              cases e2 : isOth c with
                              | true => exact .inr (.inl ⟨rfl, rfl⟩)
                              | false =>
                                as_aux_lemma =>
                                  rw [e, e2] at h4
                                  exact .inr (.inr ⟨rfl, rfl, by simpa using h4⟩)
                        clear h3 h4 hv2
                        rcases hor with hor | ⟨hor, hor2⟩ | ⟨hor, hor2, hor3⟩
                        all_goals
                          go_wp2_with fail
                          (with_reducible refine (refLetter_any _ _).mono ?_)
                          rw [hl3]
                          rintro e w' ⟨rfl, rfl⟩
                          go_wp2_with fail
                          (with_reducible refine (refMotion_any _ _).mono ?_)
                          rw [hl3, hor]
                          rintro e w' ⟨rfl, rfl⟩
                          go_wp2_with fail
                          try
                            ((with_reducible refine (refIn_any _ _ _ (by decide)).mono ?_)
                             rw [inS_oth, hor2]
                             rintro e w' ⟨rfl, rfl⟩
                             go_wp2_with fail)
                          rw [HV2.out]
                          exact bodyPost_ret (v := .tuple #[.agg #[.int .u8 r, .int .i64 n, .int .u8 c, .int .u8 0, .int .u8 0], .int .i64 (((i + j : Nat) : Int) + 1), .int .i64 1]) (by simp [results, Try.results8, go_sem]) rfl ⟨rfl, refW_grows ..⟩
                      · have hv2 : refV (codes s) = (key0, i + j + 1, 2) := by
                          rw [HR.out, HV.out, if_neg (by simp [hop]), if_neg h3, if_neg h4]
                        have HV2 := Lib.hid hv2
                        have hmo : isMot c = false := by rw [← Bool.not_eq_true]; exact fun e => h4 (.inl e)
                        have hot : isOth c = false := by rw [← Bool.not_eq_true]; exact fun e => h4 (.inr (.inl e))
                        have h12 : (c == 12) = false := by simp; exact fun e => h4 (.inr (.inr e))
                        clear h3 h4 hv2
                        go_wp2_with fail
                        (with_reducible refine (refLetter_any _ _).mono ?_)
                        rw [hl3]
                        rintro e w' ⟨rfl, rfl⟩
                        go_wp2_with fail
                        (with_reducible refine (refMotion_any _ _).mono ?_)
                        rw [hl3, hmo]
                        rintro e w' ⟨rfl, rfl⟩
                        go_wp2_with fail
                        (with_reducible refine (refIn_any _ _ _ (by decide)).mono ?_)
                        rw [inS_oth, hot]
                        rintro e w' ⟨rfl, rfl⟩
                        go_wp2_with fail
                        rw [HV2.out]
                        exact bodyPost_ret (v := .tuple #[.agg #[.int .u8 0, .int .i64 0, .int .u8 0, .int .u8 0, .int .u8 0], .int .i64 (((i + j : Nat) : Int) + 1), .int .i64 2]) (by simp [results, Try.results8, go_sem]) rfl ⟨rfl, refW_grows ..⟩
            case rest =>
              obtain ⟨a, b, c', d, q, rfl, hq, rfl, hv⟩ := hcut
              have HW := Lib.hid hv
              clear hv
              unfold refW
              by_cases h5 : q < s.size
              · have HL := Lib.hid (refL_some s ⟨a, b, c', d, 0⟩ q h5)
                go_wp2_with fail
                rw [HW.out, HL.out]
                exact bodyPost_ret (v := .tuple #[.agg #[.int .u8 a, .int .i64 b, .int .u8 c', .int .u8 d, .int .u8 (s[q].toNat : Int)], .int .i64 (q + 1), .int .i64 1]) (by simp [results, Try.results8, go_sem]) rfl ⟨rfl, refW_grows ..⟩
              · have HL := Lib.hid (refL_none s ⟨a, b, c', d, 0⟩ q h5)
                go_wp2_with fail
                rw [HW.out, HL.out]
                exact bodyPost_ret (v := .tuple #[.agg #[.int .u8 0, .int .i64 0, .int .u8 0, .int .u8 0, .int .u8 0], .int .i64 0, .int .i64 0]) (by simp [results, Try.results8, go_sem]) rfl ⟨rfl, refW_grows ..⟩
          · have HV := Lib.hid (refC_end (codes s) r i (by rw [HX.out]) (by rw [HX.out]; simpa using h1))
            go_wp2_with fail
            rw [HR.out, HV.out]
            exact bodyPost_ret (v := .tuple #[.agg #[.int .u8 0, .int .i64 0, .int .u8 0, .int .u8 0, .int .u8 0], .int .i64 0, .int .i64 0]) (by simp [results, Try.results8, go_sem]) rfl ⟨rfl, refW_grows ..⟩
end Go.Proofs.Ytljahcdnleefbaa
