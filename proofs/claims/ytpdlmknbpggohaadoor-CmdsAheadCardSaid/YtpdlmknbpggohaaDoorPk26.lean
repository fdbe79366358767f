/-
  Commands: a command in memory; trim, suffix, letter, dest, count, Asks, walked. (Printed by cmdw.py.)
-/
import Derived.Test.YtpdlmknbpggohaaDoorPk12
import Derived.Test.YtpdlmknbpggohaaDoorPk24
import Derived.Test.YtpdlmknbpggohaaDoorPk25
import Derived.Test.YtpdlmknbpggohaaDoorPk23
namespace Go.Proofs.YtpdlmknbpggohaaDoor
open Go.RowKit

attribute [local go_sem] tx_bt tx_from
/-- A command's cells. -/
abbrev cmC (lv sv : Value) (x : Cm) : Array Value := #[lv, sv, .int .u8 x.name, .int .i64 x.dest.kind, .int .i64 x.dest.n, .string (tx x.dest.re), .int .i64 x.dest.add, .int .u8 x.letter, .string (tx x.re), .string (tx x.repl), .bool x.all, .int .i64 x.nth, .string (tx x.sub), .string (tx x.name2), .int .u8 x.print]
/-- A command lies at block g. -/
def CmAt (w : World) (g : Nat) (lv sv : Value) (x : Cm) : Prop := blk w g = cmC lv sv x
section
variable {w w' : World} {g : Nat} {lv sv : Value} {x y : Cm}
set_option maxRecDepth 3000 in
theorem cmC_size : (cmC lv sv x).size = 15 := rfl
set_option maxRecDepth 3000 in
theorem CmAt.inh (h : CmAt w g lv sv x) : InHeap g w := Blk.inHeap h (by simp)
set_option maxRecDepth 3000 in
theorem CmAt.cell (h : CmAt w g lv sv x) (i : Nat) : w.cell? ⟨g, i, none⟩ = (cmC lv sv x)[i]? := Blk.cell h (by simp) i
set_option maxRecDepth 3000 in
theorem CmAt.free (h : CmAt w g lv sv x) : ∀ k, w.frozen? ⟨g, k, none⟩ = false := fun k => Blk.free h (by simp) k
set_option maxRecDepth 3000 in
theorem CmAt.put (h : CmAt w g lv sv x) (i : Nat) (v : Value) (he : (cmC lv sv x).setIfInBounds i v = cmC lv sv y) : CmAt (w.setCell ⟨g, i, none⟩ v) g lv sv y := (pa_put h (by simp) i v).trans he
set_option maxRecDepth 3000 in
theorem CmAt.grows (h : CmAt w g lv sv x) (hg : Grows w w') : CmAt w' g lv sv x := by
  have := h.inh
  obtain ⟨m, rfl⟩ := hg
  exact (blk_more _ _ _ this).trans h
end
/-- What a step over a command leaves. -/
def CmPost (w : World) (g : Nat) (lv sv : Value) (r : Except Nat Cm) (e : Ending) (w' : World) : Prop :=
  Chg (fun b => b = g) w w' ∧ match r with
    | .error n => e = .returned (.int .i64 n)
    | .ok y => e = .returned (.int .i64 0) ∧ CmAt w' g lv sv y
set_option maxRecDepth 3000 in
theorem CmPost.pre {w0 w w' : World} {g : Nat} {lv sv : Value} {r : Except Nat Cm} {e : Ending} (h : CmPost w g lv sv r e w') (hc : Chg (fun b => b = g) w0 w) : CmPost w0 g lv sv r e w' := ⟨hc.trans h.1, h.2⟩
set_option maxRecDepth 3000 in
theorem CmPost.ret {w w' : World} {g : Nat} {lv sv : Value} {r : Except Nat Cm} {e : Ending} (h : CmPost w g lv sv r e w') : ∃ k : Int, e = .returned (.int .i64 k) ∧ CmPost w g lv sv r (.returned (.int .i64 k)) w' := by
  obtain ⟨h1, h2⟩ := h
  cases r with
  | error n => have h2 : e = .returned (.int .i64 n) := h2; subst h2; exact ⟨_, rfl, h1, rfl⟩
  | ok y => obtain ⟨h2, h3⟩ := h2; subst h2; exact ⟨_, rfl, h1, rfl, h3⟩
set_option maxRecDepth 3000 in
theorem empty_tx (l : List UInt8) : (tx l).toList.isEmpty = l.isEmpty := by rw [ByteArray.toList_eq, tx_data]
set_option maxRecDepth 3000 in
theorem bt_zero (c : UInt8) (r : List UInt8) : bt (c :: r) 0 = c.toNat := by simp [bt]
/-! ### trim -/
set_option maxRecDepth 3000 in
theorem contains_bl : ([32, 9] : List UInt8).contains = isBl := by
  funext c
  rw [Bool.eq_iff_iff]
  simp only [List.contains_iff_mem, List.mem_cons, List.not_mem_nil, or_false, isBl, Bool.or_eq_true, beq_iff_eq]
  constructor
  · rintro (rfl | rfl)
    · exact .inl rfl
    · exact .inr rfl
  · rintro (h | h)
    · exact .inl (UInt8.toNat_inj.1 h)
    · exact .inr (UInt8.toNat_inj.1 h)
set_option maxRecDepth 3000 in
theorem trimLeft_bl (l : List UInt8) (hl : l.length ≤ 1000000) (w : World) : Calls Tryd.prog 27 #[.string (tx l), .string ⟨#[32, 9]⟩] w fun e w' => e = .returned (.string (tx (skipL l))) ∧ Grows w w' := by
  have h := trimSet [32, 9] l 32 9 [] rfl (by decide) (by decide) hl w
  rw [contains_bl] at h
  exact h
set_option maxRecDepth 3000 in
theorem trim_any (l : List UInt8) (hl : l.length ≤ 1000000) (w : World) : Calls Tryd.prog 15 #[.string (tx l)] w fun e w' => e = .returned (.string (tx (skipL l))) ∧ Grows w w' := by
  have hcall := trimLeft_bl l hl w
  go_enter Tryd.func15, Tryd.ntmps15
  go_wp2_with fail
  refine Calls.mono (f := 27) hcall ?_
  rintro e w1 ⟨rfl, hg⟩
  go_wp2_with fail
  go_ret
  exact ⟨rfl, hg⟩
/-! ### suffix -/
set_option maxRecDepth 3000 in
theorem index_pln (c : UInt8) : decide (0 ≤ Lib.indexByte [112, 108, 110] c) = isPln c := by
  by_cases h1 : c = 112
  · subst h1; decide
  by_cases h2 : c = 108
  · subst h2; decide
  by_cases h3 : c = 110
  · subst h3; decide
  rw [index_no _ _ (by simp [h1, h2, h3])]
  have n1 : ¬ c.toNat = 112 := fun h => h1 (UInt8.toNat_inj.1 h)
  have n2 : ¬ c.toNat = 108 := fun h => h2 (UInt8.toNat_inj.1 h)
  have n3 : ¬ c.toNat = 110 := fun h => h3 (UInt8.toNat_inj.1 h)
  symm
  simp [isPln, n1, n2, n3]
set_option maxRecDepth 3000 in
theorem contains_pln (c : UInt8) (w : World) : Calls Tryd.prog 47 #[.string ⟨#[112, 108, 110]⟩, .string (tx [c])] w fun e w' => e = .returned (.bool (isPln c)) ∧ w' = w := by
  rw [← index_pln c]
  exact Tryd.strings_Contains_one ⟨#[112, 108, 110]⟩ c w
set_option maxRecDepth 3000 in
theorem suffix_any {w : World} {g : Nat} {lv sv : Value} {x : Cm} (h : CmAt w g lv sv x) (s : List UInt8) (hl : s.length ≤ 1000) :
    Calls Tryd.prog 29 #[.pointer (some ⟨g, 0, none⟩), .string (tx s)] w (CmPost w g lv sv (sufL x s)) := by
  have H := Lib.hid h
  have c14 : w.cell? ⟨g, 14, none⟩ = some (.int .u8 x.print) := h.cell 14
  have hfr := h.free
  have he := empty_tx s
  clear h
  match s with
  | [] =>
    go_enter Tryd.func29, Tryd.ntmps29
    go_wp2_with fail
    go_ret
    exact ⟨Chg.refl _ _, rfl, H.out⟩
  | [c] =>
    have he : (tx [c]).toList.isEmpty = false := he
    have hp := bt_zero c []
    obtain ⟨n, hn⟩ : ∃ n, c.toNat = n := ⟨_, rfl⟩
    rw [hn] at hp
    have HN := Lib.hid hn
    clear hn
    cases hb : isPln c with
    | true =>
      have HB := Lib.hid hb
      clear hb
      go_enter Tryd.func29, Tryd.ntmps29
      go_wp2_with fail
      (with_reducible refine (contains_pln c _).mono ?_)
      rw [HB.out]
      rintro e w1 ⟨rfl, hw⟩
      have hw := hw.symm
      subst hw
      go_wp2_with fail
      go_ret
      refine ⟨chg_cell _ _ _ _, ?_⟩
      have e : sufL x [c] = .ok { x with print := c.toNat } := by unfold sufL; simp only []; rw [if_pos HB.out]
      rw [e, HN.out]
      exact ⟨rfl, H.out.put 14 _ rfl⟩
    | false =>
      have HB := Lib.hid hb
      clear hb
      go_enter Tryd.func29, Tryd.ntmps29
      go_wp2_with fail
      (with_reducible refine (contains_pln c _).mono ?_)
      rw [HB.out]
      rintro e w1 ⟨rfl, hw⟩
      have hw := hw.symm
      subst hw
      go_wp2_with fail
      go_ret
      refine ⟨Chg.refl _ _, ?_⟩
      have e : sufL x [c] = .error 211 := by unfold sufL; simp only []; rw [if_neg (by rw [HB.out]; decide)]
      rw [e]
      rfl
  | c :: d :: r =>
    have he : (tx (c :: d :: r)).toList.isEmpty = false := he
    obtain ⟨S, hS⟩ : ∃ S, c :: d :: r = S := ⟨_, rfl⟩
    have h1 : ((S.length : Int) == 1) = false := by rw [← hS, beq_eq_false_iff_ne]; simp; omega
    have h1n : (S.length == 1) = false := by rw [← hS, beq_eq_false_iff_ne]; simp
    have HS := Lib.hid hS
    rw [hS] at he ⊢
    clear hS
    go_enter Tryd.func29, Tryd.ntmps29
    go_wp2_with fail
    go_ret
    refine ⟨Chg.refl _ _, ?_⟩
    rw [← HS.out]
    rfl
/-! ### letter -/
def letOk (must : Bool) : List UInt8 → Bool
  | [] => false
  | c :: _ => (decide (97 ≤ c.toNat) && decide (c.toNat ≤ 122)) || (!must && decide (65 ≤ c.toNat) && decide (c.toNat ≤ 90))
set_option maxRecDepth 3000 in
theorem let_nil {x : Cm} {must : Bool} {s : List UInt8} (h : skipL s = []) : letL x must s = if must then .error 211 else .ok x := by unfold letL; rw [h]
set_option maxRecDepth 3000 in
theorem let_yes {x : Cm} {must : Bool} {s l : List UInt8} {c : UInt8} (h : skipL s = c :: l) (hc : letOk must (c :: l) = true) : letL x must s = sufL { x with letter := c.toNat } l := by
  unfold letL; rw [h]; simp only []
  rw [if_pos]
  simpa [letOk, and_assoc] using hc
set_option maxRecDepth 3000 in
theorem let_no {x : Cm} {must : Bool} {s l : List UInt8} {c : UInt8} (h : skipL s = c :: l) (hc : letOk must (c :: l) = false) : letL x must s = .error 211 := by
  unfold letL; rw [h]; simp only []
  rw [if_neg]
  intro h2
  have : letOk must (c :: l) = true := by simpa [letOk, and_assoc] using h2
  rw [hc] at this
  cases this
set_option maxRecDepth 3000 in
theorem suffix_lit {w : World} {g : Nat} {lv sv : Value} {x : Cm} (h : CmAt w g lv sv x) (s : List UInt8) (hl : s.length ≤ 1000) (X : ByteArray) (hX : X = tx s) :
    Calls Tryd.prog 29 #[.pointer (some ⟨g, 0, none⟩), .string X] w (CmPost w g lv sv (sufL x s)) := by subst hX; exact suffix_any h s hl
set_option maxRecDepth 3000 in
set_option maxHeartbeats 2000000 in
theorem letter_cmd {w : World} {g : Nat} {lv sv : Value} {x : Cm} (h : CmAt w g lv sv x) (s : List UInt8) (hl : s.length ≤ 1000) (must : Bool) :
    Calls Tryd.prog 17 #[.pointer (some ⟨g, 0, none⟩), .string (tx s), .bool must] w (CmPost w g lv sv (letL x must s)) := by
  have H := Lib.hid h
  clear h
  go_enter Tryd.func17, Tryd.ntmps17
  go_wp2_with fail
  (with_reducible refine (trim_any s (by omega) _).mono ?_)
  rintro e w1 ⟨rfl, m, rfl⟩
  obtain ⟨t, ht⟩ : ∃ t, skipL s = t := ⟨_, rfl⟩
  rw [ht]
  have HT := Lib.hid ht
  have htl : t.length ≤ 1000 := by have := skip_le s; rw [ht] at this; omega
  have H1 := Lib.hid (H.out.grows (Grows.of w m))
  have hC1 := Lib.hid (Chg.of_grows (p := fun b => b = g) (Grows.of w m))
  have c7 : (more w m).cell? ⟨g, 7, none⟩ = some (.int .u8 x.letter) := H1.out.cell 7
  have hfr := H1.out.free
  clear ht
  generalize more w m = w1 at H1 hC1 c7 hfr ⊢
  cases t with
  | nil =>
    have he : (tx []).toList.isEmpty = true := empty_tx []
    cases must with
    | true =>
      go_wp2_with fail
      go_ret
      refine ⟨hC1.out, ?_⟩
      rw [let_nil HT.out]
      rfl
    | false =>
      go_wp2_with fail
      go_ret
      refine ⟨hC1.out, ?_⟩
      rw [let_nil HT.out]
      exact ⟨rfl, H1.out⟩
  | cons c r =>
    have he : (tx (c :: r)).toList.isEmpty = false := empty_tx (c :: r)
    have hb := bt_zero c r
    have hlt : 0 < (c :: r).length := by simp
    obtain ⟨n, hn⟩ : ∃ n, c.toNat = n := ⟨_, rfl⟩
    rw [hn] at hb
    have HN := Lib.hid hn
    have hLr := Lib.hid (show letOk must (c :: r) = ((decide (97 ≤ n) && decide (n ≤ 122)) || (!must && decide (65 ≤ n) && decide (n ≤ 90))) by rw [← hn]; rfl)
    have htail : (tx (c :: r)).extract 1 (c :: r).length = tx r := tail_tx c r
    have htail2 : (tx (c :: r)).extract 1 (r.length + 1) = tx r := tail_tx c r
    obtain ⟨S, hS⟩ : ∃ S, c :: r = S := ⟨_, rfl⟩
    have hSl : S.length = r.length + 1 := by rw [← hS]; rfl
    have HS := Lib.hid hS
    have HSL := Lib.hid hSl
    rw [hS] at he hb hlt htl htail hLr ⊢
    obtain ⟨L, hL⟩ : ∃ b, letOk must S = b := ⟨_, rfl⟩
    have HL := Lib.hid hL
    rw [hS] at htail2
    rw [← hSl] at htail2
    clear hn hS hL hSl htail2
    go_upto_region 2 with fail
    go_cut [10] (fun v10 wx => v10 = .bool L ∧ wx = w1)
    case first =>
      obtain ⟨b1, h1⟩ : ∃ b, decide (97 ≤ n) = b := ⟨_, rfl⟩
      obtain ⟨b2, h2⟩ : ∃ b, decide (n ≤ 122) = b := ⟨_, rfl⟩
      obtain ⟨b3, h3⟩ : ∃ b, decide (65 ≤ n) = b := ⟨_, rfl⟩
      obtain ⟨b4, h4⟩ : ∃ b, decide (n ≤ 90) = b := ⟨_, rfl⟩
      have i1 : decide ((97 : Int) ≤ (n : Int)) = b1 := by rw [← h1, decide_eq_decide]; omega
      have i2 : decide ((n : Int) ≤ 122) = b2 := by rw [← h2, decide_eq_decide]; omega
      have i3 : decide ((65 : Int) ≤ (n : Int)) = b3 := by rw [← h3, decide_eq_decide]; omega
      have i4 : decide ((n : Int) ≤ 90) = b4 := by rw [← h4, decide_eq_decide]; omega
      have hLL := hLr.out
      rw [h1, h2, h3, h4, HL.out] at hLL
      have HLL := Lib.hid hLL
      clear hLL
      cases b1 <;> cases b2 <;> cases must <;> cases b3 <;> cases b4 <;> first | (exfalso; clear HLL i1 i2 i3 i4; simp only [decide_eq_false_iff_not, decide_eq_true_eq] at h1 h2 h3 h4; omega) | (go_wp2_with fail; go_meet; exact ⟨by rw [HLL.out]; rfl, rfl⟩)
    case rest =>
      obtain ⟨rfl, hw⟩ := hcut
      have hw := hw.symm
      subst hw
      cases L with
      | false =>
        have hR := Lib.hid (let_no (x := x) HT.out (by rw [HS.out]; exact HL.out))
        cases must with
        | true =>
          go_wp2_with fail
          go_ret
          refine ⟨hC1.out, ?_⟩
          rw [hR.out]
          rfl
        | false =>
          go_wp2_with fail
          go_ret
          refine ⟨hC1.out, ?_⟩
          rw [hR.out]
          rfl
      | true =>
        have hR := Lib.hid (let_yes (x := x) HT.out (by rw [HS.out]; exact HL.out))
        go_wp2_with fail
        (with_reducible refine (suffix_any (H1.out.put 7 (.int .u8 n) (y := { x with letter := n }) rfl) r (by have := HSL.out; omega)).mono ?_)
        intro e w2 hp
        obtain ⟨k, rfl, hpp⟩ := (hp.pre (hC1.out.trans (chg_cell _ _ _ _))).ret
        have HP := Lib.hid hpp
        clear hpp hp
        go_wp2_with fail
        go_ret
        rw [hR.out, ← HN.out]
        have := HP.out
        rw [← HN.out] at this
        exact this
/-! ### dest -/
set_option maxRecDepth 3000 in
theorem dest_none {x : Cm} {s : List UInt8} (h : oneL s = none) : destL x s = .error 200 := by unfold destL; rw [h]
set_option maxRecDepth 3000 in
theorem dest_some {x : Cm} {s : List UInt8} {y : Adr × List UInt8} (h : oneL s = some y) : destL x s = sufL { x with dest := y.1 } y.2 := by unfold destL; rw [h]
set_option maxRecDepth 3000 in
theorem one_here (s : List UInt8) (hl : s.length ≤ 1000) (w : World) : Calls Tryd.prog 20 #[.string (tx s)] w fun e w' => OnePost s (oneL s) e ∧ Grows w w' := one_any s hl w
set_option maxRecDepth 3000 in
set_option maxHeartbeats 2000000 in
theorem dest_cmd {w : World} {g : Nat} {lv sv : Value} {x : Cm} (h : CmAt w g lv sv x) (s : List UInt8) (hl : s.length ≤ 1000) :
    Calls Tryd.prog 30 #[.pointer (some ⟨g, 0, none⟩), .string (tx s)] w (CmPost w g lv sv (destL x s)) := by
  have H := Lib.hid h
  clear h
  go_enter Tryd.func30, Tryd.ntmps30
  go_wp2_with fail
  (with_reducible refine (one_here s hl _).mono ?_)
  rintro e w1 ⟨hp, m, rfl⟩
  have H1 := Lib.hid (H.out.grows (Grows.of w m))
  have hC1 := Lib.hid (Chg.of_grows (p := fun b => b = g) (Grows.of w m))
  have c3 : (more w m).cell? ⟨g, 3, none⟩ = some (.int .i64 x.dest.kind) := H1.out.cell 3
  have c4 : (more w m).cell? ⟨g, 4, none⟩ = some (.int .i64 x.dest.n) := H1.out.cell 4
  have c5 : (more w m).cell? ⟨g, 5, none⟩ = some (.string (tx x.dest.re)) := H1.out.cell 5
  have c6 : (more w m).cell? ⟨g, 6, none⟩ = some (.int .i64 x.dest.add) := H1.out.cell 6
  have hfr := H1.out.free
  have ig := H1.out.inh
  generalize more w m = w1 at H1 hC1 c3 c4 c5 c6 hfr ig ⊢
  cases ho : oneL s with
  | none =>
    rw [ho] at hp
    have hp : e = .returned (.tuple #[.agg (adrC adr0), .int .i64 0, .int .i64 200]) := hp
    subst hp
    go_wp2_with fail
    go_ret
    refine ⟨hC1.out.trans (Chg.of_grows ((Grows.refl _).alloc _)), ?_⟩
    rw [dest_none ho]
    rfl
  | some y =>
    rw [ho] at hp
    obtain ⟨j, rfl, hA⟩ := hp
    have hjl := hA.le
    have hyl : y.2.length ≤ 1000 := by have := hA.len; omega
    have htail : (tx s).extract j s.length = tx y.2 := by rw [tx_from, hA.eq]
    have HO := Lib.hid ho
    clear ho hA
    obtain ⟨a, r⟩ := y
    go_upto_region 5 with fail
    have H2 := ((((((H1.out.put 3 (.int .i64 a.kind) (y := { x with dest := { x.dest with kind := a.kind } }) rfl).put 4 (.int .i64 a.n) (y := { x with dest := { x.dest with kind := a.kind, n := a.n } }) rfl).put 5 (.string (tx a.re)) (y := { x with dest := { x.dest with kind := a.kind, n := a.n, re := a.re } }) rfl)).put 6 (.int .i64 a.add) (y := { x with dest := a }) rfl)).grows ((Grows.refl _).alloc (.cells (adrC a) 28))
    have hC2 := (((((hC1.out.trans (chg_cell _ _ 3 (.int .i64 a.kind))).trans (chg_cell _ _ 4 (.int .i64 a.n))).trans (chg_cell _ _ 5 (.string (tx a.re)))).trans (chg_cell _ _ 6 (.int .i64 a.add)))).trans (Chg.of_grows ((Grows.refl _).alloc (.cells (adrC a) 28)))
    generalize ((((w1.setCell ⟨g, 3, none⟩ (.int .i64 a.kind)).setCell ⟨g, 4, none⟩ (.int .i64 a.n)).setCell ⟨g, 5, none⟩ (.string (tx a.re))).setCell ⟨g, 6, none⟩ (.int .i64 a.add)).alloc (.cells (adrC a) 28) = w2 at H2 hC2 ⊢
    have H2 := Lib.hid H2
    have hC2 := Lib.hid hC2
    clear c3 c4 c5 c6 hfr ig
    go_wp2_with fail
    (with_reducible refine (suffix_any H2.out r hyl).mono ?_)
    intro e w3 hp
    obtain ⟨k, rfl, hpp⟩ := (hp.pre hC2.out).ret
    have HP := Lib.hid hpp
    clear hpp hp
    go_wp2_with fail
    go_ret
    rw [dest_some HO.out]
    exact HP.out
/-! ### count -/
set_option maxRecDepth 3000 in
theorem count_no {x : Cm} {s : List UInt8} (h : ¬ (s.all isDig = true ∧ s.length ≤ 4)) : countL x s = .error 211 := by unfold countL; rw [if_neg h]
set_option maxRecDepth 3000 in
theorem count_yes {x : Cm} {s : List UInt8} (h : s.all isDig = true ∧ s.length ≤ 4) : countL x s = .ok { x with name2 := s } := by unfold countL; rw [if_pos h]
set_option maxRecDepth 3000 in
set_option maxHeartbeats 2000000 in
theorem count_cmd {w : World} {g : Nat} {lv sv : Value} {x : Cm} (h : CmAt w g lv sv x) (s : List UInt8) (hl : s.length ≤ 1000) :
    Calls Tryd.prog 33 #[.pointer (some ⟨g, 0, none⟩), .string (tx s)] w (CmPost w g lv sv (countL x s)) := by
  have H := Lib.hid h
  have c13 : w.cell? ⟨g, 13, none⟩ = some (.string (tx x.name2)) := h.cell 13
  have hfr := h.free
  clear h
  go_enter Tryd.func33, Tryd.ntmps33
  go_wp2_with fail
  go_loopg [5, 8] s.length (fun q _ v8 wr => ∃ (i : Nat) (t : List UInt8), q = t.length ∧ v8 = .int .i64 i ∧ At s i t ∧ (s.take i).all isDig = true ∧ i ≤ 4 ∧ wr = w)
  case atStart => exact ⟨0, s, rfl, rfl, At.start s, rfl, by omega, rfl⟩
  case round =>
    obtain ⟨i, t, hq, rfl, hA, hd, hi4, rfl⟩ := hrel
    have HQ := Lib.hid hq
    have HA := Lib.hid hA
    have HD := Lib.hid hd
    have hil := hA.le
    clear hq hA hd
    cases t with
    | nil =>
      have e1 : decide (i < s.length) = false := by rw [decide_eq_false_iff_not]; have := HA.out.nil; omega
      have hn := HA.out.nil
      have HR := Lib.hid (count_yes (x := x) (s := s) ⟨by have := HD.out; rw [hn, List.take_length] at this; exact this, by omega⟩)
      clear hn
      go_wp2_with fail
      go_ret
      refine ⟨chg_cell _ _ _ _, ?_⟩
      rw [HR.out]
      exact ⟨rfl, H.out.put 13 _ rfl⟩
    | cons c r =>
      have e1 : i < s.length := HA.out.lt
      have hb := HA.out.bt
      obtain ⟨n, hn⟩ : ∃ n, c.toNat = n := ⟨_, rfl⟩
      rw [hn] at hb
      have HN := Lib.hid hn
      clear hn
      have hget : s[i]'e1 = c := by
        have := HA.out.eq
        rw [List.drop_eq_getElem_cons e1] at this
        exact (List.cons.inj this).1
      have HG := Lib.hid hget
      clear hget
      have hbad : (n < 48 ∨ 57 < n) → ¬ (s.all isDig = true ∧ s.length ≤ 4) := fun h h2 => by
        have h3 := List.all_eq_true.1 h2.1 c (by rw [← HG.out]; exact List.getElem_mem _)
        unfold isDig at h3
        rw [HN.out] at h3
        simp at h3
        omega
      have HBAD := Lib.hid hbad
      clear hbad
      by_cases k1 : n < 48
      · have k1i : (n : Int) < 48 := by omega
        have HR := Lib.hid (count_no (x := x) (HBAD.out (.inl k1)))
        go_wp2_with fail
        go_ret
        refine ⟨Chg.refl _ _, ?_⟩
        rw [HR.out]
        rfl
      have d1 : decide (n < 48) = false := decide_eq_false k1
      have d1i : decide ((n : Int) < 48) = false := decide_eq_false (by omega)
      by_cases k2 : 57 < n
      · have k2i : (57 : Int) < (n : Int) := by omega
        have HR := Lib.hid (count_no (x := x) (HBAD.out (.inr k2)))
        go_wp2_with fail
        go_ret
        refine ⟨Chg.refl _ _, ?_⟩
        rw [HR.out]
        rfl
      have d2 : decide (57 < n) = false := decide_eq_false k2
      have d2i : decide ((57 : Int) < (n : Int)) = false := decide_eq_false (by omega)
      by_cases k3 : 4 ≤ i
      · have k3i : (4 : Int) ≤ (i : Int) := by omega
        have HR := Lib.hid (count_no (x := x) (s := s) fun h => by omega)
        go_wp2_with fail
        go_ret
        refine ⟨Chg.refl _ _, ?_⟩
        rw [HR.out]
        rfl
      have d3 : decide (4 ≤ i) = false := decide_eq_false k3
      have d3i : decide ((4 : Int) ≤ (i : Int)) = false := decide_eq_false (by omega)
      have hc : isDig c = true := by unfold isDig; rw [HN.out]; simp; omega
      have HC := Lib.hid hc
      have K3 := Lib.hid k3
      clear hc k1 k2 k3
      go_wp2_with fail
      go_roundg (gk - 1)
      case measure => have := HQ.out; simp at this; omega
      case rel => exact ⟨i + 1, r, by have := HQ.out; simp at this; omega, by simp, HA.out.next, by rw [List.take_add_one, List.all_append, HD.out, List.getElem?_eq_getElem e1, HG.out]; simp [HC.out], by have := K3.out; omega, rfl⟩
/-! ### Asks -/
/-- What Asks leaves. -/
def AsksPost (r : Except Nat (List UInt8)) (e : Ending) : Prop :=
  match r with
  | .error n => e = .returned (.tuple #[.string (tx []), .int .i64 n])
  | .ok n => e = .returned (.tuple #[.string (tx n), .int .i64 0])
set_option maxRecDepth 3000 in
theorem prefix_bang (t : List UInt8) : Lib.hasPrefix t [33] = decide (t.head? = some 33) := by
  cases t with
  | nil => rfl
  | cons c r =>
    by_cases h : c = 33
    · subst h; simp [Lib.hasPrefix, List.isPrefixOf]
    · simp [Lib.hasPrefix, List.isPrefixOf, h, Ne.symm h]
set_option maxRecDepth 3000 in
theorem hasPrefix_bang (t : List UInt8) (w : World) : Calls Tryd.prog 16 #[.string (tx t), .string ⟨#[33]⟩] w fun e w' => e = .returned (.bool (decide (t.head? = some 33))) ∧ w' = w := by
  have h := Tryd.strings_HasPrefix (tx t) ⟨#[33]⟩ w
  rw [show Lib.hasPrefix (tx t).data.toList (⟨#[33]⟩ : ByteArray).data.toList = decide (t.head? = some 33) by rw [tx_data]; exact prefix_bang t] at h
  exact h
set_option maxRecDepth 3000 in
set_option maxHeartbeats 2000000 in
theorem asks_any (s : List UInt8) (hl : s.length ≤ 1000) (w : World) : Calls Tryd.prog 34 #[.string (tx s)] w fun e w' => AsksPost (asksL s) e ∧ Grows w w' := by
  cases s with
  | nil =>
    have he : (tx []).toList.isEmpty = true := empty_tx []
    go_enter Tryd.func34, Tryd.ntmps34
    go_wp2_with fail
    refine bodyPost_ret (v := .tuple #[.string (tx []), .int .i64 0]) (by simp [results, Tryd.results34, go_sem]; try rfl) rfl ⟨rfl, Grows.refl _⟩
  | cons c r =>
    have he : (tx (c :: r)).toList.isEmpty = false := empty_tx (c :: r)
    obtain ⟨S, hS⟩ : ∃ S, c :: r = S := ⟨_, rfl⟩
    rw [hS] at he hl ⊢
    have hne : S ≠ [] := by rw [← hS]; simp
    have HNE := Lib.hid hne
    clear hS hne
    go_enter Tryd.func34, Tryd.ntmps34
    go_wp2_with fail
    (with_reducible refine (trim_any S (by omega) _).mono ?_)
    rintro e w1 ⟨rfl, m, rfl⟩
    obtain ⟨t, ht⟩ : ∃ t, skipL S = t := ⟨_, rfl⟩
    rw [ht]
    have htl : t.length ≤ 1000 := by have := skip_le S; rw [ht] at this; omega
    have HT := Lib.hid ht
    clear ht
    by_cases k1 : t.length = S.length
    · have k1i : ((t.length : Int) == (S.length : Int)) = true := by rw [k1]; simp
      have k1n : (t.length == S.length) = true := by rw [k1]; simp
      have HR : Hid (asksL S = .error 211) := Lib.hid (by unfold asksL; rw [if_neg HNE.out, HT.out, if_pos k1])
      go_wp2_with fail
      refine bodyPost_ret (v := .tuple #[.string (tx []), .int .i64 211]) (by simp [results, Tryd.results34, go_sem]; try rfl) rfl ⟨by rw [HR.out]; rfl, (Grows.refl _).more _⟩
    have k1i : ((t.length : Int) == (S.length : Int)) = false := by rw [beq_eq_false_iff_ne]; omega
    have k1n : (t.length == S.length) = false := by rw [beq_eq_false_iff_ne]; omega
    cases hb : t.any isBl with
    | true =>
      have HB := Lib.hid hb
      have HR : Hid (asksL S = .error 210) := Lib.hid (by unfold asksL; rw [if_neg HNE.out, HT.out, if_neg k1, if_pos (.inl hb)])
      clear hb k1
      go_wp2_with fail
      (with_reducible refine (containsAny_bl t _ (by omega)).mono ?_)
      rw [HB.out]
      rintro e w1 ⟨rfl, m2, rfl⟩
      go_wp2_with fail
      refine bodyPost_ret (v := .tuple #[.string (tx []), .int .i64 210]) (by simp [results, Tryd.results34, go_sem]; try rfl) rfl ⟨by rw [HR.out]; rfl, by repeat' first | exact Grows.refl _ | refine Grows.more ?_ _⟩
    | false =>
      have HB := Lib.hid hb
      clear hb
      obtain ⟨b, hbb⟩ : ∃ b, decide (t.head? = some 33) = b := ⟨_, rfl⟩
      have HBB := Lib.hid hbb
      have HR : Hid (asksL S = if b = true then .error 210 else .ok t) := Lib.hid (by
        unfold asksL; rw [if_neg HNE.out, HT.out, if_neg k1, HB.out, ← hbb]
        by_cases k : t.head? = some 33
        · rw [if_pos (.inr k), if_pos (by simp [k])]
        · rw [if_neg (by simp [k]), if_neg (by simp [k])])
      clear k1
      by_cases k2 : t = [33]
      · have heq : ((tx t).toList == ([33] : List UInt8)) = true := by rw [ByteArray.toList_eq, tx_data, k2]; rfl
        have hbt : b = true := by rw [← hbb, k2]; rfl
        subst hbt
        clear hbb k2
        go_wp2_with fail
        (with_reducible refine (containsAny_bl t _ (by omega)).mono ?_)
        rw [HB.out]
        rintro e w1 ⟨rfl, m2, rfl⟩
        go_wp2_with fail
        refine bodyPost_ret (v := .tuple #[.string (tx []), .int .i64 210]) (by simp [results, Tryd.results34, go_sem]; try rfl) rfl ⟨by rw [HR.out]; rfl, by repeat' first | exact Grows.refl _ | refine Grows.more ?_ _⟩
      have heq : ((tx t).toList == ([33] : List UInt8)) = false := by rw [ByteArray.toList_eq, tx_data, beq_eq_false_iff_ne]; exact k2
      clear hbb k2
      go_wp2_with fail
      (with_reducible refine (containsAny_bl t _ (by omega)).mono ?_)
      rw [HB.out]
      rintro e w1 ⟨rfl, m2, rfl⟩
      go_wp2_with fail
      (with_reducible refine (hasPrefix_bang t _).mono ?_)
      rw [HBB.out]
      rintro e w1 ⟨rfl, hw⟩
      have hw := hw.symm
      subst hw
      cases b with
      | true =>
        go_wp2_with fail
        refine bodyPost_ret (v := .tuple #[.string (tx []), .int .i64 210]) (by simp [results, Tryd.results34, go_sem]; try rfl) rfl ⟨by rw [HR.out]; rfl, by repeat' first | exact Grows.refl _ | refine Grows.more ?_ _⟩
      | false =>
        go_wp2_with fail
        refine bodyPost_ret (v := .tuple #[.string (tx t), .int .i64 0]) (by simp [results, Tryd.results34, go_sem]; try rfl) rfl ⟨by rw [HR.out]; rfl, by repeat' first | exact Grows.refl _ | refine Grows.more ?_ _⟩
end Go.Proofs.YtpdlmknbpggohaaDoor
