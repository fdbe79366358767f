/-
  Registers: the walk, where neither text is whole, of the document's Join.
-/
import Derived.Test.YthanghgfakibnaaPk16
import Derived.Test.YthanghgfakibnaaPk17
namespace Go.Proofs.Ythanghgfakibnaa
open Go.RowKit
attribute [local go_sem ↓] zeroReg
set_option maxRecDepth 3000 in
theorem own_next3 {W w1 w2 : World} {B : Nat} (hB : B = W.heap.size) {v : Value} {n : Nat} {xs : List Value} (hb : Grows W w1) (hown : w1.ownsRow B 9 1 v n xs) (hgrow : w1.grownBy w2 v.ownBlock) : Grows W w2 := by
  subst hB
  exact Grows.of_below (own_next hb.below hown hgrow)
set_option maxRecDepth 3000 in
theorem own_form1 {w : World} {base n : Nat} {v : Value} {xs : List Value} (h : w.ownsRow base 9 1 v n xs) : ∃ A cap, v = .slice A n cap ∧ (A = none → n = 0) := by
  rcases h.2 with ⟨e, h0⟩ | ⟨g, cap, cur, e, _⟩
  · subst h0; exact ⟨none, 0, e, fun _ => rfl⟩
  · exact ⟨_, _, e, fun h => by cases h⟩
set_option maxRecDepth 3000 in
set_option maxHeartbeats 4000000 in
theorem rjoinD_any {ok ok' : Nat → Prop} (A B : Option Addr) (ca cb : Nat) (d0 d1 : List (List UInt8)) (x y : List UInt8) (w : World) (ha : LRd ok w A ca (d0 ++ [x])) (hb : LRd ok' w B cb (y :: d1)) (hsum : d0.length + (1 + d1.length) ≤ 1000000) (hxy : x.length + y.length ≤ 1000000) :
    Calls Try.prog 83 #[.agg #[.slice A (d0.length + 1) ca, .bool false], .agg #[.slice B (d1.length + 1) cb, .bool false]] w (NewReg ⟨d0 ++ ([x ++ y] ++ d1), false⟩ w) := by
  obtain ⟨i0, hi, hz0, hz1, hz2⟩ := info_parts infoStr
  have hra : Rd w 1 A (d0.length + 1) (lv (d0 ++ [x])) := by have := ha.rd; simpa using this
  have hna : Hid (A = none → d0.length + 1 = 0 ∧ ca = 0) := Lib.hid (by have := ha.nil; simpa using this)
  have hrb := hb.rd
  have lb := hb.le
  simp only [List.length_cons] at lb
  obtain ⟨b2, o2, rfl, hb2, hy⟩ := hrb.line 0 (by simp)
  have hy : w.cell? ⟨b2, o2, none⟩ = some (.string (tx y)) := by simpa using hy
  have hb2 : InHeap b2 w := hb2
  have hD : Hid (Rd w 1 (if cb = 1 then some ⟨b2, o2, none⟩ else some ⟨b2, o2 + 1, none⟩) d1.length (lv d1)) := Lib.hid (by
    split
    · obtain rfl : d1 = [] := List.eq_nil_of_length_eq_zero (by omega)
      exact Rd.nil_
    · have := rd_drop hrb 1 d1.length (by simp); simpa [Addr.add] using this)
  have hDn : Hid ((if cb = 1 then some (⟨b2, o2, none⟩ : Addr) else some ⟨b2, o2 + 1, none⟩) = none → d1.length = 0 ∧ cb - 1 = 0) := Lib.hid (by split <;> intro h <;> cases h)
  clear ha hb hrb
  obtain ⟨A3, hA3⟩ : ∃ A3 : Option Addr, (if cb = 1 then some ⟨b2, o2, none⟩ else some ⟨b2, o2 + 1, none⟩) = A3 := ⟨_, rfl⟩
  rw [hA3] at hD hDn
  have g1 : (0 : Int) < (d0.length : Int) + 1 := by omega
  have g2 : (0 : Int) < (d1.length : Int) + 1 := by omega
  have k0 : IntKind.i64.wrap ((d0.length : Int) + 1 - 1) = d0.length := by rw [IntWalk.i64_left]; unfold wrap64; omega
  have k1 : IntKind.i64.wrap (d0.length : Int) = d0.length := by rw [IntWalk.i64_left]; unfold wrap64; omega
  have k2 : (0 : Int) ≤ (d0.length : Int) := by omega
  have k3 : (d0.length : Int) < (d0.length : Int) + 1 := by omega
  have k7 : ¬ 9223372036854775807 < x.length + y.length := by omega
  have k8 : tx x ++ tx y = tx (x ++ y) := tx_append x y
  have k6 : (1 : Int) ≤ (d1.length : Int) + 1 := by omega
  clear hxy
  go_enter Try.func83, Try.ntmps83
  go_wp2_with (at_builtin; refine wpList_append_rd _ rfl (.const (.slice none 0 0)) (.tmp 7) 22 rfl (w.heap.size + 3) 9 i0 (.string ⟨#[]⟩) 16 Try.underlying22 hi hz0 hz1 hz2 rfl (.slice none 0 0) 0 [] rfl (World.ownsRow_nil _ _ _ _) A _ ca (lv (d0 ++ [x])) rfl hna.out (hra.grows (by repeat' first | exact Grows.refl _ | refine Grows.more ?_ _ | refine Grows.alloc ?_ _ | refine Grows.drew ?_)) (lv_one _) (by unfold maxLen; omega) (by omega) (by simp) ?_; intro v1 w2 hown hgrow; obtain ⟨m2, rfl⟩ := grown_none hgrow; clear hgrow; rw [Nat.zero_add, List.nil_append] at hown; obtain ⟨A1, c1, rfl, -⟩ := own_form1 hown; have hown := Lib.hid hown)
  obtain ⟨g, rfl, hg1, hg2⟩ := own_some hown.out (by omega)
  obtain ⟨W2, hW2⟩ : ∃ W, W = more (((w.alloc (.cells #[.slice A (d0.length + 1) ca, .bool false] 68)).alloc (.cells #[.slice (some ⟨b2, o2, none⟩) (d1.length + 1) cb, .bool false] 68)).alloc (.cells #[.slice none 0 0, .bool false] 68)) m2 := ⟨_, rfl⟩
  rw [← hW2] at hown hg2 ⊢
  have hgi : InHeap g W2 := hg2
  have hy2 : W2.cell? ⟨b2, o2, none⟩ = some (.string (tx y)) := by rw [hW2]; simp [go_sem, hb2, hy]
  have hb22 : InHeap b2 W2 := by rw [hW2]; simp [go_sem, hb2]
  have hx2 : W2.cell? ⟨g, d0.length, none⟩ = some (.string (tx x)) := by have := hown.out.cellAt d0.length (by omega); simpa [lv] using this
  have hfz := hown.out.frozenAt d0.length
  have c30 : W2.cell? ⟨w.heap.size + 1, 0, none⟩ = some (.slice (some ⟨b2, o2, none⟩) (d1.length + 1) cb) := by rw [hW2]; simp [go_sem]
  have c40 : W2.cell? ⟨w.heap.size + 1 + 1, 0, none⟩ = some (.slice none 0 0) := by rw [hW2]; simp [go_sem]
  have c41 : W2.cell? ⟨w.heap.size + 1 + 1, 1, none⟩ = some (.bool false) := by rw [hW2]; simp [go_sem]
  have f40 : ∀ i, W2.frozen? ⟨w.heap.size + 1 + 1, i, none⟩ = false := by intro i; rw [hW2]; simp [go_sem]
  have i3 : InHeap (w.heap.size + 1) W2 := by rw [hW2]; simp [go_sem]
  have i4 : InHeap (w.heap.size + 1 + 1) W2 := by rw [hW2]; simp [go_sem]
  have hGW : Hid (Grows w W2) := Lib.hid (by rw [hW2]; exact (by repeat' first | exact Grows.refl _ | refine Grows.more ?_ _ | refine Grows.alloc ?_ _ | refine Grows.drew ?_))
  have hGW0 : Hid (Grows (((w.alloc (.cells #[.slice A (d0.length + 1) ca, .bool false] 68)).alloc (.cells #[.slice (some ⟨b2, o2, none⟩) (d1.length + 1) cb, .bool false] 68)).alloc (.cells #[.slice none 0 0, .bool false] 68)) W2) := Lib.hid (by rw [hW2]; exact (by repeat' first | exact Grows.refl _ | refine Grows.more ?_ _ | refine Grows.alloc ?_ _ | refine Grows.drew ?_))
  have hg3 : Hid (w.heap.size + 3 ≤ g) := Lib.hid hg1
  clear hW2 hg1
  have hown4 : Hid ((W2.setCell ⟨g, d0.length, none⟩ (.string (tx (x ++ y)))).ownsRow (w.heap.size + 3) 9 1 (.slice (some ⟨g, 0, none⟩) (d0.length + 1) c1) (d0.length + 1) (lv (d0 ++ [x ++ y]))) := Lib.hid (by
    have := (hown.out.stored d0.length (.string (tx (x ++ y)))).1
    rw [lv_set] at this
    simpa using this)
  have hG4 : Hid (Grows w (W2.setCell ⟨g, d0.length, none⟩ (.string (tx (x ++ y))))) := Lib.hid (Grows.setCell hGW.out (p := ⟨g, d0.length, none⟩) (by have := hg3.out; simp; omega) _)
  have hG04 : Hid (Grows (((w.alloc (.cells #[.slice A (d0.length + 1) ca, .bool false] 68)).alloc (.cells #[.slice (some ⟨b2, o2, none⟩) (d1.length + 1) cb, .bool false] 68)).alloc (.cells #[.slice none 0 0, .bool false] 68)) (W2.setCell ⟨g, d0.length, none⟩ (.string (tx (x ++ y))))) := Lib.hid (Grows.setCell hGW0.out (p := ⟨g, d0.length, none⟩) (by have := hg3.out; simp; omega) _)
  have nb : ¬ w.heap.size + 1 = g := by have := hg3.out; omega
  have nb4 : ¬ w.heap.size + 1 + 1 = g := by have := hg3.out; omega
  have hc4 : Chg (fun b => b = g) W2 (W2.setCell ⟨g, d0.length, none⟩ (.string (tx (x ++ y)))) := Chg.setCell (p := fun b => b = g) (a := ⟨g, d0.length, none⟩) rfl _
  have d30 := (hc4.cell (a := ⟨w.heap.size + 1, 0, none⟩) i3 nb).trans c30
  have d40 := (hc4.cell (a := ⟨w.heap.size + 1 + 1, 0, none⟩) i4 nb4).trans c40
  have d41 := (hc4.cell (a := ⟨w.heap.size + 1 + 1, 1, none⟩) i4 nb4).trans c41
  have j3 : InHeap (w.heap.size + 1) (W2.setCell ⟨g, d0.length, none⟩ (.string (tx (x ++ y)))) := Nat.lt_of_lt_of_le i3 hc4.size
  have j4 : InHeap (w.heap.size + 1 + 1) (W2.setCell ⟨g, d0.length, none⟩ (.string (tx (x ++ y)))) := Nat.lt_of_lt_of_le i4 hc4.size
  have hbs : w.heap.size + 3 ≤ (W2.setCell ⟨g, d0.length, none⟩ (.string (tx (x ++ y)))).heap.size := by have := hG04.out.below.size; simpa using this
  clear hc4
  go_region_law (fail)
  all_goals
    clear c30 c40 c41 hx2 hy2
    generalize W2.setCell ⟨g, d0.length, none⟩ (.string (tx (x ++ y))) = W4 at *
    go_wp2_with (at_builtin; refine wpList_append_rd _ rfl (.tmp 45) (.tmp 48) 22 rfl (w.heap.size + 3) 9 i0 (.string ⟨#[]⟩) 16 Try.underlying22 hi hz0 hz1 hz2 rfl _ (d0.length + 1) (lv (d0 ++ [x ++ y])) rfl hown4.out.drew A3 d1.length (cb - 1) (lv d1) rfl hDn.out (hD.out.grows hG4.out.drew) (lv_one _) (by unfold maxLen; omega) (by omega) hbs ?_; intro v5 w5 hown5 hgrow5; obtain ⟨m5, rfl⟩ := own_next3 (W := (((w.alloc (.cells #[.slice A (d0.length + 1) ca, .bool false] 68)).alloc (.cells #[.slice (some ⟨b2, o2, none⟩) (d1.length + 1) cb, .bool false] 68)).alloc (.cells #[.slice none 0 0, .bool false] 68))) (by simp) hG04.out.drew hown4.out.drew hgrow5; clear hgrow5; rw [lv_append, show d0.length + 1 + d1.length = (d0 ++ ([x ++ y] ++ d1)).length by simp; omega, List.append_assoc] at hown5; obtain ⟨A6, c6, rfl, hL⟩ := LRd.of_own (ok := fun b => w.heap.size + 3 ≤ b) hown5 (fun b hb => hb); clear hown5)
    exact bodyPost_ret (v := .agg #[.slice A6 (d0 ++ ([x ++ y] ++ d1)).length c6, .bool false]) (by simp [results, Try.results83, go_sem]) rfl ⟨A6, c6, rfl, ((hL.chg (chg_box _ _ _) (fun b _ hb hp => by simp at hb hp; omega)).mono (fun b _ hb => by omega)), (by repeat' first | exact Grows.refl _ | refine Grows.more ?_ _ | refine Grows.alloc ?_ _ | refine Grows.drew ?_)⟩
end Go.Proofs.Ythanghgfakibnaa
