/-
  Keys: the walk of Parse.
-/
import Derived.Test.YtljahcdnleefbaaKeysCount
import Derived.Deep.CutBlock
namespace Go.Proofs.Ytljahcdnleefbaa
open Go.RowKit

theorem regV_place (s : ByteArray) : (regV (codes s)).2.1 ≤ s.size ∧ 0 ≤ (regV (codes s)).1 ∧ (regV (codes s)).1 ≤ 255 := by
  unfold regV
  split
  · rename_i h
    have hl : 0 < s.size := by
      cases e : codes s with
      | nil => rw [e] at h; cases h
      | cons b r =>
        have := length_codes s
        rw [e] at this; simp at this; omega
    split
    · rename_i h1
      have hb := codes_byte s _ (List.getElem_mem h1)
      simp at h1
      split
      · exact ⟨by simp; omega, hb.1, hb.2⟩
      · simp; omega
    · simp; omega
  · simp
/-- The world of Parse, when its two blocks are made. -/
def parseW (w : World) (s : ByteArray) : World := (w.alloc (.cells (keyC key0) 24)).alloc (.cells (hand s 0 1) 37)
theorem parseW_hand (w : World) (s : ByteArray) : blk (parseW w s) (w.heap.size + 1) = hand s 0 1 := by
  unfold parseW; simp [go_sem]
theorem parseW_key (w : World) (s : ByteArray) : blk (parseW w s) w.heap.size = keyC key0 := by
  unfold parseW; simp [go_sem]

theorem hand_cells {w : World} {g : Nat} {s : ByteArray} {i : Nat} {what : Int} (hb : blk w g = hand s i what) : w.cell? ⟨g, 0, none⟩ = some (.string s) ∧ w.cell? ⟨g, 1, none⟩ = some (.int .i64 i) ∧ w.cell? ⟨g, 2, none⟩ = some (.int .i64 what) ∧
    w.frozen? ⟨g, 0, none⟩ = false ∧ w.frozen? ⟨g, 1, none⟩ = false ∧ w.frozen? ⟨g, 2, none⟩ = false := by
  have hz : 0 < (hand s i what).size := by simp [hand]
  exact ⟨Blk.cell hb hz 0, Blk.cell hb hz 1, Blk.cell hb hz 2, Blk.free hb hz 0, Blk.free hb hz 1, Blk.free hb hz 2⟩
theorem parse_fin (l : List Int) (r n c : Int) (i j : Nat) (what is : Int) (hx : regV l = (r, i, what)) (hy : countV l i what = ((n, c), j, is)) :
    parseV l = finV (if is ≠ 1 then (⟨r, n, c, 0, 0⟩, j, is) else if isOp c then operV l ⟨r, n, c, 0, 0⟩ j is else
    if isLet c ∨ c = 114 ∨ c = 109 then (⟨r, n, c, 0, (nextV l j is).1⟩, (nextV l j is).2) else
    if isMot c ∨ isOth c ∨ c = 12 then (⟨r, n, c, 0, 0⟩, j, is) else (⟨r, n, c, 0, 0⟩, j, badV is)) := by
  unfold parseV; simp only [hx, hy]
theorem key_store {w w' : World} {g h : Nat} {c : Array Value} {k : Key} (k' : Key) {p : Array Value} (T : Turned2 w g c h (keyC k) w') (hne : g ≠ h) (hd : blk w h = p) (hz : 0 < p.size) :
    Turned2 w g c h (keyC k') (((((w'.setCell ⟨h, 0, none⟩ (.int .u8 k'.reg)).setCell ⟨h, 1, none⟩ (.int .i64 k'.count)).setCell ⟨h, 2, none⟩ (.int .u8 k'.name)).setCell ⟨h, 3, none⟩ (.int .u8 k'.motion)).setCell ⟨h, 4, none⟩ (.int .u8 k'.letter)) := by
  have h5 : 0 < (keyC k).size := by simp [keyC]
  exact (((((T.set2 hne hd hz h5 0 (.int .u8 k'.reg)).set2 hne hd hz (by simpa using h5) 1 (.int .i64 k'.count)).set2 hne hd hz (by simpa using h5) 2 (.int .u8 k'.name)).set2 hne hd hz (by simpa using h5) 3 (.int .u8 k'.motion)).set2 hne hd hz (by simpa using h5) 4 (.int .u8 k'.letter)).to rfl (by simp [keyC])
theorem parse_grows {w w' : World} {s : ByteArray} {c d : Array Value} (T : Turned2 (parseW w s) (w.heap.size + 1) c w.heap.size d w') : Grows w w' := by
  obtain ⟨m, rfl⟩ := T
  refine Grows.more ?_ m
  have : setBlk (setBlk (parseW w s) (w.heap.size + 1) c) w.heap.size d = (w.alloc (.cells d 24)).alloc (.cells c 37) := by
    unfold parseW; simp [go_sem]
  rw [this]
  exact ((Grows.refl _).alloc _).alloc _
/-- What is known of a world is all that is used of it. -/
theorem post_any {P : Program} {f : Func} {Q : Ending → World → Prop} {x : Exit} {a : Act} {W : World} {R : World → Prop} (hR : R W) (h : ∀ W', R W' → bodyPost P f Q x a W') : bodyPost P f Q x a W := h W hR
theorem operV_place (s : ByteArray) (k : Key) (i : Nat) (what : Int) (hi : i ≤ s.size) : (operV (codes s) k i what).2.1 ≤ s.size := by
  have := countV_bound s i what hi
  have hn := nextV_place s _ (countV (codes s) i what).2.2 this.2.2.2.2
  unfold operV
  simp only
  repeat' split
  · exact this.2.2.2.2
  · exact hn
  · exact this.2.2.2.2

set_option maxHeartbeats 1000000 in
theorem parse_any (s : ByteArray) (w : World) (hs : s.size ≤ 9223372036854775806) :
    Calls Try.prog 7 #[.string s] w fun e w' =>
      e = .returned (.tuple #[.agg (keyC (parseV (codes s)).1), .int .i64 (parseV (codes s)).2.1, .int .i64 (parseV (codes s)).2.2]) ∧ Grows w w' := by
  have hne : w.heap.size + 1 ≠ w.heap.size := by omega
  have hz : ∀ i what, 0 < (hand s i what).size := by simp [hand]
  have kz : ∀ k, 0 < (keyC k).size := by simp [keyC]
  have HB := Lib.hid (parseW_hand w s)
  have HK := Lib.hid (parseW_key w s)
  have T := Turned2.refl HB.out (hz _ _) HK.out (kz _)
  have HZ := Lib.hid hz
  have KZ := Lib.hid kz
  clear hz kz
  have hr := regV_place s
  obtain ⟨r, i, what, hx⟩ : ∃ r i what, regV (codes s) = (r, i, what) := ⟨_, _, _, rfl⟩
  rw [hx] at hr
  obtain ⟨hi, hr0, hr9⟩ := hr
  simp only at hi hr0 hr9
  have hbd := countV_bound s i what hi
  obtain ⟨n, c, j, is, hy⟩ : ∃ n c j is, countV (codes s) i what = ((n, c), j, is) := ⟨_, _, _, _, rfl⟩
  rw [hy] at hbd
  obtain ⟨hn0, hn9, hc0, hc9, hj⟩ := hbd
  simp only at hn0 hn9 hc0 hc9 hj
  have HX := Lib.hid hx
  have HY := Lib.hid hy
  clear hx hy
  go_enter Try.func7, Try.ntmps7
  go_wp2_with fail
  change Calls _ _ _ (parseW w s) _
  (with_reducible refine (register_any _ s _ HB.out hs).mono ?_)
  rw [HX.out]
  rintro e w1 ⟨rfl, T1⟩
  have T2 := T.turn1 T1 hne HB.out (HZ.out _ _)
  obtain ⟨k0, k1, k2, k3, k4, f0, f1, f2, f3, f4⟩ := key_cells (T2.blk2 hne HK.out (KZ.out _))
  have T3 := (T2.set2 hne HK.out (KZ.out _) (KZ.out _) 0 (.int .u8 r)).to (d' := keyC { key0 with reg := r }) rfl (by simp [keyC])
  go_wp2_with fail
  (with_reducible refine (count_any _ s i what _ (T3.blk1 hne HB.out (HZ.out _ _)) hs hi).mono ?_)
  rw [HY.out]
  rintro e w2 ⟨rfl, T4⟩
  have T5 := T3.turn1 T4 hne HB.out (HZ.out _ _)
  clear k0 k1 k2 k3 k4 f0 f1 f2 f3 f4
  obtain ⟨k0, k1, k2, k3, k4, f0, f1, f2, f3, f4⟩ := key_cells (T5.blk2 hne HK.out (KZ.out _))
  have T6 := ((T5.set2 hne HK.out (KZ.out _) (KZ.out _) 1 (.int .i64 n)).set2 hne HK.out (KZ.out _) (by simp [keyC]) 2 (.int .u8 c)).to (d' := keyC ⟨r, n, c, 0, 0⟩) rfl (by simp [keyC, key0])
  go_upto_block 0 with (fail)
  go_cut [6] (fun s6 wx => ∃ (k : Key) (q : Nat) (z : Int), Turned2 (parseW w s) (w.heap.size + 1) (hand s q z) w.heap.size (keyC k) wx ∧ finV (k, q, z) = parseV (codes s) ∧ q ≤ s.size)
  case first =>
    have HP := Lib.hid (parse_fin _ _ _ _ _ _ _ _ HX.out HY.out)
    obtain ⟨g0, g1, g2, -, -, -⟩ := hand_cells (T5.blk1 hne HB.out (HZ.out _ _))
    by_cases h1 : is = 1
    · subst h1
      cases h2 : isOp c with
      | true =>
        go_wp2_with fail
        (with_reducible refine (in_any c _ _ hc0 hc9).mono ?_)
        rw [inS_op, h2]
        rintro e w3 ⟨rfl, rfl⟩
        go_wp2_with fail
        (with_reducible refine (operator_any _ _ s j 1 ⟨r, n, c, 0, 0⟩ _ (T6.blk1 hne HB.out (HZ.out _ _)) (T6.blk2 hne HK.out (KZ.out _)) hne hs hj hn0 hn9).mono ?_)
        rintro e w3 ⟨rfl, T7⟩
        go_wp2_with fail
        go_meet
        exact ⟨_, _, _, T6.both T7 hne HB.out (HZ.out _ _) HK.out (KZ.out _), by rw [HP.out, if_neg (by simp), if_pos h2], operV_place s _ j 1 hj⟩
      | false =>
        by_cases h3 : isLet c = true ∨ c = 114 ∨ c = 109
        · have hor : isLet c = true ∨ (isLet c = false ∧ (c == 114) = true) ∨ (isLet c = false ∧ (c == 114) = false ∧ (c == 109) = true) := by
            cases e : isLet c with
            | true => exact .inl rfl
            | false =>
              rcases h3 with h3 | h3 | h3
              · rw [e] at h3; cases h3
              · exact .inr (.inl ⟨rfl, by simpa using h3⟩)
              · exact .inr (.inr ⟨rfl, by simp; omega, by simpa using h3⟩)
          have H3 := Lib.hid h3
          clear h3
          rcases hor with hor | ⟨hor, hor2⟩ | ⟨hor, hor2, hor3⟩
          all_goals
            go_wp2_with fail
            (with_reducible refine (in_any c _ _ hc0 hc9).mono ?_)
            rw [inS_op, h2]
            rintro e w3 ⟨rfl, rfl⟩
            go_wp2_with fail
            (with_reducible refine (in_any c _ _ hc0 hc9).mono ?_)
            rw [inS_let, hor]
            rintro e w3 ⟨rfl, rfl⟩
            go_wp2_with fail
            (with_reducible refine (next_any _ s j 1 _ (T6.blk1 hne HB.out (HZ.out _ _)) hs hj).mono ?_)
            rintro e w3 ⟨rfl, T7⟩
            have T8 := T6.turn1 T7 hne HB.out (HZ.out _ _)
            have T9 := T8.set2 hne HK.out (KZ.out _) (KZ.out _) 4 (.int .u8 (nextV (codes s) j 1).1)
            obtain ⟨-, -, -, -, q4, -, -, -, -, q9⟩ := key_cells (T8.blk2 hne HK.out (KZ.out _))
            go_wp2_with fail
            go_meet
            exact ⟨⟨r, n, c, 0, (nextV (codes s) j 1).1⟩, _, _, T9.to rfl (by simp [keyC]), by rw [HP.out, if_neg (by simp), if_neg (by simp [h2]), if_pos H3.out], nextV_place s j 1 hj⟩
        · have hl : isLet c = false := by rw [← Bool.not_eq_true]; exact fun e => h3 (.inl e)
          have hr : (c == 114) = false := by simp; exact fun e => h3 (.inr (.inl e))
          have hm : (c == 109) = false := by simp; exact fun e => h3 (.inr (.inr e))
          have H3 := Lib.hid h3
          clear h3
          by_cases h4 : isMot c = true ∨ isOth c = true ∨ c = 12
          · have hor : isMot c = true ∨ (isMot c = false ∧ isOth c = true) ∨ (isMot c = false ∧ isOth c = false ∧ (c == 12) = true) := by
              cases e : isMot c with
              | true => exact .inl rfl
              | false =>
                cases e2 : isOth c with
                | true => exact .inr (.inl ⟨rfl, rfl⟩)
                | false =>
                  rw [e, e2] at h4
                  exact .inr (.inr ⟨rfl, rfl, by simpa using h4⟩)
            have H4 := Lib.hid h4
            clear h4
            rcases hor with hor | ⟨hor, hor2⟩ | ⟨hor, hor2, hor3⟩
            all_goals
              go_wp2_with fail
              (with_reducible refine (in_any c _ _ hc0 hc9).mono ?_)
              rw [inS_op, h2]
              rintro e w3 ⟨rfl, rfl⟩
              go_wp2_with fail
              (with_reducible refine (in_any c _ _ hc0 hc9).mono ?_)
              rw [inS_let, hl]
              rintro e w3 ⟨rfl, rfl⟩
              go_wp2_with fail
              (with_reducible refine (in_any c _ _ hc0 hc9).mono ?_)
              rw [inS_mot, hor]
              rintro e w3 ⟨rfl, rfl⟩
              go_wp2_with fail
              try
                ((with_reducible refine (in_any c _ _ hc0 hc9).mono ?_)
                 rw [inS_oth, hor2]
                 rintro e w3 ⟨rfl, rfl⟩
                 go_wp2_with fail)
              go_meet
              exact ⟨⟨r, n, c, 0, 0⟩, j, 1, T6, by rw [HP.out, if_neg (by simp), if_neg (by simp [h2]), if_neg H3.out, if_pos H4.out], hj⟩
          · have hmo : isMot c = false := by rw [← Bool.not_eq_true]; exact fun e => h4 (.inl e)
            have hot : isOth c = false := by rw [← Bool.not_eq_true]; exact fun e => h4 (.inr (.inl e))
            have h12 : (c == 12) = false := by simp; exact fun e => h4 (.inr (.inr e))
            have H4 := Lib.hid h4
            clear h4
            go_wp2_with fail
            (with_reducible refine (in_any c _ _ hc0 hc9).mono ?_)
            rw [inS_op, h2]
            rintro e w3 ⟨rfl, rfl⟩
            go_wp2_with fail
            (with_reducible refine (in_any c _ _ hc0 hc9).mono ?_)
            rw [inS_let, hl]
            rintro e w3 ⟨rfl, rfl⟩
            go_wp2_with fail
            (with_reducible refine (in_any c _ _ hc0 hc9).mono ?_)
            rw [inS_mot, hmo]
            rintro e w3 ⟨rfl, rfl⟩
            go_wp2_with fail
            (with_reducible refine (in_any c _ _ hc0 hc9).mono ?_)
            rw [inS_oth, hot]
            rintro e w3 ⟨rfl, rfl⟩
            go_wp2_with fail
            (with_reducible refine (bad_any _ s j 1 _ (T6.blk1 hne HB.out (HZ.out _ _))).mono ?_)
            rintro e w3 ⟨rfl, T7⟩
            have T8 := T6.turn1 T7 hne HB.out (HZ.out _ _)
            go_wp2_with fail
            go_meet
            exact ⟨⟨r, n, c, 0, 0⟩, j, _, T8, by rw [HP.out, if_neg (by simp), if_neg (by simp [h2]), if_neg H3.out, if_neg H4.out], hj⟩
    · have h1' : (is != 1) = true := by simpa using h1
      go_wp2_with fail
      go_meet
      exact ⟨⟨r, n, c, 0, 0⟩, j, is, T6, by rw [HP.out, if_pos h1], hj⟩
  case rest =>
    obtain ⟨k, q, z, T7, hf, hq⟩ := hcut
    have HF := Lib.hid hf
    clear hf
    obtain ⟨g0, g1, g2, e0, e1, e2⟩ := hand_cells (T7.blk1 hne HB.out (HZ.out _ _))
    clear k0 k1 k2 k3 k4 f0 f1 f2 f3 f4
    obtain ⟨k0, k1, k2, k3, k4, f0, f1, f2, f3, f4⟩ := key_cells (T7.blk2 hne HK.out (KZ.out _))
    by_cases h1 : z = 1
    · subst h1
      have T8 := key_store k T7 hne HK.out (KZ.out _)
      go_wp2_with fail
      go_region
      go_wp2_with fail
      rw [← HF.out]
      refine bodyPost_ret (v := .tuple #[.agg (keyC k), .int .i64 q, .int .i64 1]) (by simp [results, Try.results7, go_sem, keyC, k0, k1, k2, k3, k4]) rfl ⟨rfl, (parse_grows T8).drew⟩
    · have h1' : (z != 1) = true := by simpa using h1
      have T8 := key_store key0 T7 hne HK.out (KZ.out _)
      have T10 := key_store key0 T8 hne HK.out (KZ.out _)
      by_cases h2 : z = 0
      · subst h2
        have T9 := (T8.swap hne).set2 hne.symm HB.out (HZ.out _ _) (HZ.out _ _) 1 (.int .i64 0)
        have T11 := key_store key0 (T9.swap hne.symm) hne HK.out (KZ.out _)
        go_wp2_with fail
        go_region
        go_wp2_with fail
        rw [← HF.out]
        refine post_any (R := fun W => Turned2 (parseW w s) (w.heap.size + 1) _ w.heap.size (keyC key0) W) (T11.drewN 1) ?_
        intro W TF
        obtain ⟨m0, m1, m2, m3, m4, -⟩ := key_cells (TF.blk2 hne HK.out (KZ.out _))
        refine bodyPost_ret (v := .tuple #[.agg (keyC key0), .int .i64 0, .int .i64 0]) (by simp [results, Try.results7, go_sem, m0, m1, m2, m3, m4]; rfl) rfl ⟨rfl, parse_grows TF⟩
      · have h2' : (z == 0) = false := by simpa using h2
        have hf : finV (k, q, z) = (key0, q, z) := by simp [finV, h1, h2]
        have HG := Lib.hid hf
        clear hf
        go_wp2_with fail
        go_region
        go_wp2_with fail
        rw [← HF.out, HG.out]
        refine post_any (R := fun W => Turned2 (parseW w s) (w.heap.size + 1) _ w.heap.size (keyC key0) W) (T10.drewN 1) ?_
        intro W TF
        obtain ⟨m0, m1, m2, m3, m4, -⟩ := key_cells (TF.blk2 hne HK.out (KZ.out _))
        refine bodyPost_ret (v := .tuple #[.agg (keyC key0), .int .i64 q, .int .i64 z]) (by simp [results, Try.results7, go_sem, m0, m1, m2, m3, m4]; rfl) rfl ⟨rfl, parse_grows TF⟩

end Go.Proofs.Ytljahcdnleefbaa
