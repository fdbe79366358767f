/-
  Classes: named, walked.
-/
import Derived.Test.YtkomggeionofbaaGreatDoorPk03
set_option linter.unusedSimpArgs false
set_option linter.unusedVariables false
namespace Go.Proofs.YtkomggeionofbaaGreatDoor
open Go.RowKit Go.MapKept

/-- The map of the classes, in memory. -/
def IsMap (lo : Nat) (w : World) (r : Nat) : Prop := ∃ es clk, w.heap[r]? = some (.map es clk) ∧ StrKeys es.toList ∧ ∀ k, match clsOf k with
  | none => look es.toList k = none
  | some (_, p) => ∃ v, look es.toList k = some v ∧ Tells lo w v p
set_option maxRecDepth 3000 in
theorem none_done (n i : Nat) : (Array.replicate n false).getD i false = false := by
  simp only [Array.getD_eq_getD_getElem?, Array.getElem?_replicate]
  split <;> rfl

set_option maxRecDepth 3000 in
theorem region_from {P : Program} {Q : Exit → Act → World → Prop} {id : Nat} {a : Act} {w : World} {l : List Oper} (J : Act → Array Bool → Act → World → Prop) (hm : P.follows .mixedOrders = true) (hb : backB l = true) (hsz : ∀ a0 done a w, J a0 done a w → done.size = l.length)
    (hstart : J a (Array.replicate l.length false) a { w with drawn := w.drawn + 1 })
    (hstep : ∀ done a' w i, J a done a' w → i ∈ Region.ready .any l.toArray done → wpOp P l.toArray Q i (J a (done.setIfInBounds i true)) a' w)
    (hend : ∀ done a' w, J a done a' w → (∀ i, i < l.length → done.getD i false = true) → Q .normal a' w) : (Code.region id l.toArray true).wp P Q a w :=
  region_all (J := J a) hm hb (fun done a' w h => hsz _ _ _ _ h) hstart hstep hend
set_option maxRecDepth 100000 in
set_option maxHeartbeats 4000000 in
theorem named_any (w : World) : Calls Tryz.prog 99 #[] w fun e w' => ∃ r, e = .returned (.map (some r)) ∧ IsMap w.heap.size w' r ∧ Grows w w' := by
  go_enter Tryz.func99, Tryz.ntmps99
  go_wp2_with fail
  (with_reducible refine (span_any 97 122 _).mono ?_)
  rintro e w1 ⟨v1, rfl, h1, m1, rfl⟩
  obtain ⟨f1, k1, rfl⟩ := h1.form
  have h1 := h1.mono (show w.heap.size ≤ _ by simp [go_sem]; try omega)
  go_wp2_with fail
  (with_reducible refine (span_any 65 90 _).mono ?_)
  rintro e w1 ⟨v2, rfl, h2, m2, rfl⟩
  obtain ⟨f2, k2, rfl⟩ := h2.form
  have h2 := h2.mono (show w.heap.size ≤ _ by simp [go_sem]; try omega)
  go_wp2_with fail
  (with_reducible refine (span_any 48 57 _).mono ?_)
  rintro e w1 ⟨v3, rfl, h3, m3, rfl⟩
  obtain ⟨f3, k3, rfl⟩ := h3.form
  have h3 := h3.mono (show w.heap.size ≤ _ by simp [go_sem]; try omega)
  go_wp2_with fail
  (with_reducible refine (some_new #[.func (.func f1) #[] k1, .func (.func f2) #[] k2, .func (.func f3) #[] k3] [spanP 97 122, spanP 65 90, spanP 48 57] w.heap.size _ 3 3 _ _ ?_ ?_ rfl (by simp) ?_).mono ?_)
  · simp [go_sem]
  · simp [go_sem]; try omega
  · exact TellAll.three (h1.grows (by repeat' first | exact Grows.refl _ | refine Grows.more ?_ _ | refine Grows.alloc ?_ _ | refine Grows.drew ?_)) (h2.grows (by repeat' first | exact Grows.refl _ | refine Grows.more ?_ _ | refine Grows.alloc ?_ _ | refine Grows.drew ?_)) (h3.grows (by repeat' first | exact Grows.refl _ | refine Grows.more ?_ _ | refine Grows.alloc ?_ _ | refine Grows.drew ?_))
  rintro e w1 ⟨v4, rfl, h4, m4, rfl⟩
  obtain ⟨f4, k4, rfl⟩ := h4.form
  go_wp2_with fail
  (with_reducible refine (span_any 33 126 _).mono ?_)
  rintro e w1 ⟨v5, rfl, h5, m5, rfl⟩
  obtain ⟨f5, k5, rfl⟩ := h5.form
  have h5 := h5.mono (show w.heap.size ≤ _ by simp [go_sem]; try omega)
  go_wp2_with fail
  have hsz : ∀ x y : Obj, ((((more (more ((more (more (more w m1) m2) m3).alloc (.cells #[.func (.func f1) #[] k1, .func (.func f2) #[] k2, .func (.func f3) #[] k3] 141)) m4) m5).alloc x).alloc y)).heap.size = w.heap.size + m1.bs.size + m2.bs.size + m3.bs.size + 1 + m4.bs.size + m5.bs.size + 1 + 1 := fun x y => by simp [go_sem]
  obtain ⟨X, hX⟩ : ∃ X, X = ((more (more ((more (more (more w m1) m2) m3).alloc (.cells #[.func (.func f1) #[] k1, .func (.func f2) #[] k2, .func (.func f3) #[] k3] 141)) m4) m5).alloc (.cells #[.func (.func f4) #[] k4] 141)).alloc (.cells #[.func (.func f5) #[] k5] 141) := ⟨_, rfl⟩
  have h1 : Tells w.heap.size X (.func (.func f1) #[] k1) (spanP 97 122) := by rw [hX]; exact h1.grows (by repeat' first | exact Grows.refl _ | refine Grows.more ?_ _ | refine Grows.alloc ?_ _ | refine Grows.drew ?_)
  have h2 : Tells w.heap.size X (.func (.func f2) #[] k2) (spanP 65 90) := by rw [hX]; exact h2.grows (by repeat' first | exact Grows.refl _ | refine Grows.more ?_ _ | refine Grows.alloc ?_ _ | refine Grows.drew ?_)
  have h3 : Tells w.heap.size X (.func (.func f3) #[] k3) (spanP 48 57) := by rw [hX]; exact h3.grows (by repeat' first | exact Grows.refl _ | refine Grows.more ?_ _ | refine Grows.alloc ?_ _ | refine Grows.drew ?_)
  have t4 : Tells w.heap.size X (.func (.func f4) #[] k4) (someP [spanP 97 122, spanP 65 90, spanP 48 57]) := by rw [hX]; exact h4.grows (by repeat' first | exact Grows.refl _ | refine Grows.more ?_ _ | refine Grows.alloc ?_ _ | refine Grows.drew ?_)
  have t5 : Tells w.heap.size X (.func (.func f5) #[] k5) (spanP 33 126) := by rw [hX]; exact h5.grows (by repeat' first | exact Grows.refl _ | refine Grows.more ?_ _ | refine Grows.alloc ?_ _ | refine Grows.drew ?_)
  have c4 : X.cell? ⟨w.heap.size + m1.bs.size + m2.bs.size + m3.bs.size + 1 + m4.bs.size + m5.bs.size, 0, none⟩ = some (.func (.func f4) #[] k4) := by rw [hX]; simp [go_sem]
  have c5 : X.cell? ⟨w.heap.size + m1.bs.size + m2.bs.size + m3.bs.size + 1 + m4.bs.size + m5.bs.size + 1, 0, none⟩ = some (.func (.func f5) #[] k5) := by rw [hX]; simp [go_sem]
  have hgX : Grows w X := by rw [hX]; exact (by repeat' first | exact Grows.refl _ | refine Grows.more ?_ _ | refine Grows.alloc ?_ _ | refine Grows.drew ?_)
  have hlo := hgX.below.size
  have i4 : w.heap.size ≤ w.heap.size + m1.bs.size + m2.bs.size + m3.bs.size + 1 + m4.bs.size + m5.bs.size ∧ Tells w.heap.size X (.func (.func f4) #[] k4) (someP [spanP 97 122, spanP 65 90, spanP 48 57]) := ⟨by omega, t4⟩
  have i5 : w.heap.size ≤ w.heap.size + m1.bs.size + m2.bs.size + m3.bs.size + 1 + m4.bs.size + m5.bs.size + 1 ∧ Tells w.heap.size X (.func (.func f5) #[] k5) (spanP 33 126) := ⟨by omega, t5⟩
  rw [← hX]
  clear hX hsz
  refine region_from (NJ w.heap.size X) (by kernel_rfl) (by kernel_rfl) (fun a0 done a w' hJ => hJ.size) ?start ?step ?fin
  case start =>
    exact ⟨by simp, by simp, fun t _ _ => rfl, rfl, hlo, (Grows.refl X).drew, (Grows.refl X).drew.ext _, fun i d _ h => (by rw [none_done] at h; cases h), fun h => (by rw [none_done] at h; cases h), fun _ c _ => none_done _ _, fun _ => ⟨none_done _ _, none_done _ _⟩, fun h => (by rw [none_done] at h; cases h), fun h => (by rw [none_done] at h; cases h)⟩
  case step =>
    intro done a w' i hJ hr
    have hi : i < 43 := by
      obtain ⟨_, o, ho, _⟩ := mem_ready.1 hr
      have := (Array.getElem?_eq_some_iff.1 ho).1
      simpa using this
    match i, hi, hr with
    | 0, _, hr =>
      exact hJ.make hr rfl rfl rfl rfl
    | 1, _, hr =>
      exact hJ.move hr 1 16 1 (spanP 97 122) rfl rfl rfl rfl (by decide) rfl rfl (by decide) h1
    | 2, _, hr =>
      exact hJ.ins hr 2 ⟨#[108, 111, 119, 101, 114]⟩ 1 16 _ rfl rfl rfl rfl (by decide) rfl rfl (by kernel_rfl) (by kernel_rfl) (by kernel_rfl)
    | 3, _, hr =>
      exact hJ.move hr 3 17 2 (spanP 65 90) rfl rfl rfl rfl (by decide) rfl rfl (by decide) h2
    | 4, _, hr =>
      exact hJ.ins hr 4 ⟨#[117, 112, 112, 101, 114]⟩ 3 17 _ rfl rfl rfl rfl (by decide) rfl rfl (by kernel_rfl) (by kernel_rfl) (by kernel_rfl)
    | 5, _, hr =>
      exact hJ.move hr 5 18 3 (spanP 48 57) rfl rfl rfl rfl (by decide) rfl rfl (by decide) h3
    | 6, _, hr =>
      exact hJ.ins hr 6 ⟨#[100, 105, 103, 105, 116]⟩ 5 18 _ rfl rfl rfl rfl (by decide) rfl rfl (by kernel_rfl) (by kernel_rfl) (by kernel_rfl)
    | 7, _, hr =>
      exact hJ.load hr 7 19 4 (someP [(spanP 97 122), (spanP 65 90), (spanP 48 57)]) rfl rfl rfl rfl (by decide) rfl rfl (by decide) rfl c4 i4
    | 8, _, hr =>
      exact hJ.ins hr 8 ⟨#[97, 108, 110, 117, 109]⟩ 7 19 _ rfl rfl rfl rfl (by decide) rfl rfl (by kernel_rfl) (by kernel_rfl) (by kernel_rfl)
    | 9, _, hr =>
      exact hJ.load hr 9 20 5 (spanP 33 126) rfl rfl rfl rfl (by decide) rfl rfl (by decide) rfl c5 i5
    | 10, _, hr =>
      exact hJ.ins hr 10 ⟨#[103, 114, 97, 112, 104]⟩ 9 20 _ rfl rfl rfl rfl (by decide) rfl rfl (by kernel_rfl) (by kernel_rfl) (by kernel_rfl)
    | 11, _, hr =>
      exact hJ.move hr 11 21 1 (spanP 97 122) rfl rfl rfl rfl (by decide) rfl rfl (by decide) h1
    | 12, _, hr =>
      exact hJ.move hr 12 22 2 (spanP 65 90) rfl rfl rfl rfl (by decide) rfl rfl (by decide) h2
    | 13, _, hr =>
      exact hJ.row2 hr 13 23 11 21 (spanP 97 122) 12 22 (spanP 65 90) rfl rfl rfl rfl (by decide) rfl rfl rfl (by kernel_rfl) rfl rfl (by kernel_rfl)
    | 14, _, hr =>
      exact hJ.call_ hr 14 24 13 23 _ rfl rfl rfl rfl (by decide) rfl rfl (by kernel_rfl)
    | 15, _, hr =>
      exact hJ.ins hr 15 ⟨#[97, 108, 112, 104, 97]⟩ 14 24 _ rfl rfl rfl rfl (by decide) rfl rfl (by kernel_rfl) (by kernel_rfl) (by kernel_rfl)
    | 16, _, hr =>
      exact hJ.move hr 16 25 3 (spanP 48 57) rfl rfl rfl rfl (by decide) rfl rfl (by decide) h3
    | 17, _, hr =>
      exact hJ.span hr 17 26 97 102 rfl rfl rfl rfl (by decide) rfl
    | 18, _, hr =>
      exact hJ.span hr 18 27 65 70 rfl rfl rfl rfl (by decide) rfl
    | 19, _, hr =>
      exact hJ.row3 hr 19 28 16 25 (spanP 48 57) 17 26 (spanP 97 102) 18 27 (spanP 65 70) rfl rfl rfl rfl (by decide) rfl rfl rfl (by kernel_rfl) rfl rfl (by kernel_rfl) rfl rfl (by kernel_rfl)
    | 20, _, hr =>
      exact hJ.call_ hr 20 29 19 28 _ rfl rfl rfl rfl (by decide) rfl rfl (by kernel_rfl)
    | 21, _, hr =>
      exact hJ.ins hr 21 ⟨#[120, 100, 105, 103, 105, 116]⟩ 20 29 _ rfl rfl rfl rfl (by decide) rfl rfl (by kernel_rfl) (by kernel_rfl) (by kernel_rfl)
    | 22, _, hr =>
      exact hJ.span hr 22 30 9 13 rfl rfl rfl rfl (by decide) rfl
    | 23, _, hr =>
      exact hJ.span hr 23 31 32 32 rfl rfl rfl rfl (by decide) rfl
    | 24, _, hr =>
      exact hJ.row2 hr 24 32 22 30 (spanP 9 13) 23 31 (spanP 32 32) rfl rfl rfl rfl (by decide) rfl rfl rfl (by kernel_rfl) rfl rfl (by kernel_rfl)
    | 25, _, hr =>
      exact hJ.call_ hr 25 33 24 32 _ rfl rfl rfl rfl (by decide) rfl rfl (by kernel_rfl)
    | 26, _, hr =>
      exact hJ.ins hr 26 ⟨#[115, 112, 97, 99, 101]⟩ 25 33 _ rfl rfl rfl rfl (by decide) rfl rfl (by kernel_rfl) (by kernel_rfl) (by kernel_rfl)
    | 27, _, hr =>
      exact hJ.span hr 27 34 9 9 rfl rfl rfl rfl (by decide) rfl
    | 28, _, hr =>
      exact hJ.span hr 28 35 32 32 rfl rfl rfl rfl (by decide) rfl
    | 29, _, hr =>
      exact hJ.row2 hr 29 36 27 34 (spanP 9 9) 28 35 (spanP 32 32) rfl rfl rfl rfl (by decide) rfl rfl rfl (by kernel_rfl) rfl rfl (by kernel_rfl)
    | 30, _, hr =>
      exact hJ.call_ hr 30 37 29 36 _ rfl rfl rfl rfl (by decide) rfl rfl (by kernel_rfl)
    | 31, _, hr =>
      exact hJ.ins hr 31 ⟨#[98, 108, 97, 110, 107]⟩ 30 37 _ rfl rfl rfl rfl (by decide) rfl rfl (by kernel_rfl) (by kernel_rfl) (by kernel_rfl)
    | 32, _, hr =>
      exact hJ.span hr 32 38 0 31 rfl rfl rfl rfl (by decide) rfl
    | 33, _, hr =>
      exact hJ.span hr 33 39 127 127 rfl rfl rfl rfl (by decide) rfl
    | 34, _, hr =>
      exact hJ.row2 hr 34 40 32 38 (spanP 0 31) 33 39 (spanP 127 127) rfl rfl rfl rfl (by decide) rfl rfl rfl (by kernel_rfl) rfl rfl (by kernel_rfl)
    | 35, _, hr =>
      exact hJ.call_ hr 35 41 34 40 _ rfl rfl rfl rfl (by decide) rfl rfl (by kernel_rfl)
    | 36, _, hr =>
      exact hJ.ins hr 36 ⟨#[99, 110, 116, 114, 108]⟩ 35 41 _ rfl rfl rfl rfl (by decide) rfl rfl (by kernel_rfl) (by kernel_rfl) (by kernel_rfl)
    | 37, _, hr =>
      exact hJ.span hr 37 42 32 126 rfl rfl rfl rfl (by decide) rfl
    | 38, _, hr =>
      exact hJ.ins hr 38 ⟨#[112, 114, 105, 110, 116]⟩ 37 42 _ rfl rfl rfl rfl (by decide) rfl rfl (by kernel_rfl) (by kernel_rfl) (by kernel_rfl)
    | 39, _, hr =>
      exact hJ.fn hr rfl rfl rfl rfl rfl rfl rfl c4 c5 i4 i5
    | 40, _, hr =>
      exact hJ.ins hr 40 ⟨#[112, 117, 110, 99, 116]⟩ 39 43 _ rfl rfl rfl rfl (by decide) rfl rfl (by kernel_rfl) (by kernel_rfl) (by kernel_rfl)
    | 41, _, hr =>
      exact hJ.last_ hr rfl rfl rfl rfl (by kernel_rfl)
    | 42, _, hr =>
      exact hJ.back_ hr rfl rfl rfl rfl (by kernel_rfl) (by kernel_rfl)
    | n + 43, h, _ => exact absurd h (by omega)
  case fin =>
    intro done a w' hJ hall
    obtain ⟨r, es, clk, e1, e2, e3, hk, hm⟩ := hJ.map (hall 0 (by simp))
    have hb := hJ.back (hall 42 (by simp))
    rw [e1] at hb
    have hmap : IsMap w.heap.size w' r := ⟨es, clk, e3, hk, fun k => by
      have := hm k
      cases hc : clsOf k with
      | none => rw [hc] at this; exact this
      | some x =>
        obtain ⟨i, p⟩ := x
        rw [hc] at this
        obtain ⟨c, hc1, _, hc3⟩ := cls_key hc
        have hlt : ∀ c ∈ clsL, c.2.1 < 43 := by decide
        have h9 := hall i (by have := hlt c hc1; rw [hc3] at this; simpa using this)
        simp only [h9, if_true] at this
        exact this⟩
    have hg9 := hgX.trans hJ.grows
    have hdf := hJ.defers
    have htm := hJ.tmps
    clear hJ hall hm
    go_wp2_with fail
    have hb2 : a.tmps[0]?.getD undef = .map (some r) := by simpa [Act.eval] using hb
    exact bodyPost_ret (v := .map (some r)) (by simp [results, Tryz.results99, go_sem, hb2]) hdf ⟨r, rfl, hmap, hg9⟩
end Go.Proofs.YtkomggeionofbaaGreatDoor
