/-
  Templates: Parse, Most and Expand of a text that is a replacement, and of one that is none; some and does, walked.
-/
import Derived.Test.YtdgahppgpldnpaaTplRefExp
namespace Go.Proofs.Ytdgahppgpldnpaa
open Go.RowKit

attribute [local go_sem] tx_bt tx_from
theorem fits_behind (c : UInt8) (N : Nat) (h : 1 ≤ N) : longT (behindV c) ≤ N := by
  unfold behindV
  split
  · simp [longT]
  · split <;> (simp [longT]; omega)
theorem tokV_len (n : Nat) : ∀ (s : List UInt8) (l : List Tok), tokV n s = some l → l.length ≤ s.length ∧ Fits l s.length := by
  induction n with
  | zero => intro s l h; cases h
  | succ n ih =>
    intro s l h
    cases s with
    | nil => injection h with h; subst h; exact ⟨by simp, fun t ht => by cases ht⟩
    | cons c s =>
      unfold tokV at h
      split at h
      · rename_i h0
        rw [Option.map_eq_some_iff] at h
        obtain ⟨l', h1, rfl⟩ := h
        obtain ⟨h2, h3⟩ := ih _ _ h1
        rw [List.length_drop] at h2
        refine ⟨by simp at h2 ⊢; omega, fun t ht => ?_⟩
        rcases List.mem_cons.1 ht with rfl | ht
        · simp [longT]; omega
        · have := h3 t ht
          rw [List.length_drop] at this
          omega
      · split at h
        · rw [Option.map_eq_some_iff] at h
          obtain ⟨l', h1, rfl⟩ := h
          obtain ⟨h2, h3⟩ := ih _ _ h1
          refine ⟨by simp; omega, fun t ht => ?_⟩
          rcases List.mem_cons.1 ht with rfl | ht
          · simp [longT]
          · have := h3 t ht
            simp; omega
        · cases s with
          | nil => cases h
          | cons d t =>
            simp only [] at h
            rw [Option.map_eq_some_iff] at h
            obtain ⟨l', h1, rfl⟩ := h
            obtain ⟨h2, h3⟩ := ih _ _ h1
            refine ⟨by simp; omega, fun x hx => ?_⟩
            rcases List.mem_cons.1 hx with rfl | hx
            · exact fits_behind d _ (by simp)
            · have := h3 x hx
              simp; omega
theorem tokF_len (s : List UInt8) (l : List Tok) (h : tokF s = some l) : l.length ≤ s.length ∧ Fits l s.length := tokV_len _ s l h
/-- The block g is the replacement of a text. -/
def TplIs (s : List UInt8) (w : World) (g : Nat) : Prop := ∃ l, tokF s = some l ∧ IsTpl w g l
theorem TplIs.grows {s : List UInt8} {w w' : World} {g : Nat} (h : TplIs s w g) (hg : Grows w w') : TplIs s w' g := by
  obtain ⟨l, h1, h2⟩ := h
  exact ⟨l, h1, h2.grows hg⟩
theorem parse_yes (s : List UInt8) (w : World) (hl : s.length ≤ 1000000) (hc : chkB s = true) : Calls Try.prog 9 #[.string (tx s)] w fun e w' => ∃ g, e = .returned (.tuple #[.pointer (some ⟨g, 0, none⟩), .int .i64 0]) ∧ TplIs s w' g ∧ Grows w w' := by
  refine (parse_any s w hl).mono fun e w' h => ?_
  have hk := tokF_law s
  unfold TplPost at h
  cases ht : tokF s with
  | none => rw [ht] at hk; rw [hc] at hk; cases hk
  | some l =>
    rw [ht] at h
    obtain ⟨g, he, hi, _, hg⟩ := h
    exact ⟨g, he, ⟨l, ht, hi⟩, hg⟩
theorem parse_no (s : List UInt8) (w : World) (hl : s.length ≤ 1000000) (hc : chkB s = false) : Calls Try.prog 9 #[.string (tx s)] w fun e w' => e = .returned (.tuple #[.pointer none, .int .i64 110]) ∧ Grows w w' := by
  refine (parse_any s w hl).mono fun e w' h => ?_
  have hk := tokF_law s
  unfold TplPost at h
  cases ht : tokF s with
  | none => rw [ht] at h; exact h
  | some l => rw [ht] at hk; rw [hc] at hk; cases hk.1
theorem most_yes (t : List UInt8) (g : Nat) (w : World) (h : TplIs t w g) (hl : t.length ≤ 100000) : Calls Try.prog 11 #[.pointer (some ⟨g, 0, none⟩)] w fun e w' => e = .returned (.int .i64 (mostB t)) ∧ w = w' := by
  obtain ⟨l, h1, h2⟩ := h
  have hk := tokF_law t
  rw [h1] at hk
  rw [← hk.2.1]
  exact most_some g l w h2 (tokF_small t l h1) (by have := (tokF_len t l h1).1; omega)
theorem expand_yes (t s : List UInt8) (ms : List Int) (g : Nat) (w : World) (h : TplIs t w g) (hl : t.length ≤ 100000) (hm : ms.length = 20) (hs : s.length ≤ 1000000) : Calls Try.prog 12 #[.pointer (some ⟨g, 0, none⟩), .string (tx s), .agg (nums ms)] w fun e w' => e = .returned (.string (tx (expB (strV s ms) t))) ∧ Grows w w' := by
  obtain ⟨l, h1, h2⟩ := h
  have hk := tokF_law t
  rw [h1] at hk
  obtain ⟨h3, h4⟩ := tokF_len t l h1
  rw [← hk.2.2 (strV s ms)]
  exact expand_some g l s ms w h2 (tokF_small t l h1) (by omega) (fun x hx => by have := h4 x hx; omega) hm hs
/-- Cells of numbers, changed. -/
theorem nums_set (ms : List Int) (j : Nat) (x : Int) : (nums ms).setIfInBounds j (.int .i64 x) = nums (ms.set j x) := by
  unfold nums
  rw [List.map_set]
  simp
/-- Twenty zeros. -/
def zs : List Int := List.replicate 20 0
theorem zs_length : zs.length = 20 := rfl
def someN : Nat → List Int
  | 0 => zs
  | i + 1 => ((someN i).set (i * 2) (-1)).set (i * 2 + 1) (-1)
theorem someN_length (i : Nat) : (someN i).length = 20 := by
  induction i with
  | zero => rfl
  | succ i ih => simp [someN, ih]
/-- The spans of the chapter's match. -/
def someM : List Int := [1, 3, 2, 3, -1, -1, -1, -1, -1, -1, -1, -1, -1, -1, -1, -1, -1, -1, -1, -1]
theorem zeroS (w : World) : (zeroValue 23).run Try.prog w = .ok (.agg (nums zs)) w := by kernel_rfl
attribute [local go_sem ↓] zeroS
attribute [local go_sem] nums_set nums_size zs_length
theorem some_end : ((((someN 10).set 0 1).set 1 3).set 2 2).set 3 3 = someM := by decide
set_option maxRecDepth 100000 in
set_option maxHeartbeats 2000000 in
theorem some_any (w : World) : Calls Try.prog 20 #[] w fun e w' => e = .returned (.agg (nums someM)) ∧ Grows w w' := by
  go_enter Try.func20, Try.ntmps20
  go_wp2_with fail
  go_loopg [2] 10 (fun q v2 wr => ∃ i : Nat, q + i = 10 ∧ v2 = .int .i64 i ∧ wr = (w.alloc (.cells (nums zs) 23)).alloc (.cells (nums (someN i)) 23))
  case atStart => exact ⟨0, by omega, rfl, rfl⟩
  case round =>
    obtain ⟨i, hq, rfl, rfl⟩ := hrel
    have HQ := Lib.hid hq
    clear hq
    have hl := someN_length i
    have i0 : (0 : Int) ≤ (i : Int) := by omega
    by_cases h1 : i < 10
    · have i1 : (i : Int) < 10 := by omega
      have j1 : i * 2 < 20 := by omega
      have j2 : i * 2 + 1 < 20 := by omega
      have HS : Hid (someN (i + 1) = ((someN i).set (i * 2) (-1)).set (i * 2 + 1) (-1)) := Lib.hid rfl
      go_wp2_with fail
      go_roundg (gk - 1)
      case measure => have := HQ.out; omega
      case rel => exact ⟨i + 1, by have := HQ.out; omega, by go_num, by rw [HS.out]⟩
    · have i1 : ¬(i : Int) < 10 := by omega
      have hi : i = 10 := by have := HQ.out; omega
      subst hi
      have h1c := nums_one (((((someN 10).set 0 1).set 1 3).set 2 2).set 3 3)
      go_wp2_with fail
      rw [some_end]
      exact bodyPost_ret (v := .agg (nums someM)) (by simp [results, Try.results20, go_sem, someM]) rfl ⟨rfl, ((Grows.refl _).alloc _).alloc _⟩
theorem tx_toList (l : List UInt8) : (tx l).toList = l := by rw [ByteArray.toList_eq, tx_data]
attribute [local go_sem] tx_toList
theorem parse_yes_lit (a : Array UInt8) (w : World) (hl : a.toList.length ≤ 1000000) (hc : chkB a.toList = true) : Calls Try.prog 9 #[.string ⟨a⟩] w fun e w' => ∃ g, e = .returned (.tuple #[.pointer (some ⟨g, 0, none⟩), .int .i64 0]) ∧ TplIs a.toList w' g ∧ Grows w w' := parse_yes a.toList w hl hc
theorem parse_no_lit (a : Array UInt8) (w : World) (hl : a.toList.length ≤ 1000000) (hc : chkB a.toList = false) : Calls Try.prog 9 #[.string ⟨a⟩] w fun e w' => e = .returned (.tuple #[.pointer none, .int .i64 110]) ∧ Grows w w' := parse_no a.toList w hl hc
theorem expand_lit (t r : List UInt8) (a : Array UInt8) (ms : List Int) (g : Nat) (w : World) (h : TplIs t w g) (hl : t.length ≤ 100000) (hm : ms.length = 20) (hs : a.toList.length ≤ 1000000) (hr : expB (strV a.toList ms) t = r) : Calls Try.prog 12 #[.pointer (some ⟨g, 0, none⟩), .string ⟨a⟩, .agg (nums ms)] w fun e w' => e = .returned (.string (tx r)) ∧ Grows w w' := by
  subst hr
  exact expand_yes t a.toList ms g w h hl hm hs
theorem most_lit (t : List UInt8) (n g : Nat) (w : World) (h : TplIs t w g) (hl : t.length ≤ 100000) (hn : mostB t = n) : Calls Try.prog 11 #[.pointer (some ⟨g, 0, none⟩)] w fun e w' => e = .returned (.int .i64 n) ∧ w = w' := by
  subst hn
  exact most_yes t g w h hl
set_option maxRecDepth 100000 in
set_option maxHeartbeats 2000000 in
theorem does_any (w : World) : Calls Try.prog 13 #[] w fun e w' => e = .returned (.bool true) ∧ Grows w w' := by
  go_enter Try.func13, Try.ntmps13
  go_wp2_with fail
  (with_reducible refine (parse_yes_lit _ _ (by decide) (by decide)).mono ?_)
  rintro e w1 ⟨g, rfl, hT, m1, rfl⟩
  have HT := Lib.hid hT
  clear hT
  go_wp2_with fail
  (with_reducible refine (parse_no_lit _ _ (by decide) (by decide)).mono ?_)
  rintro e w1 ⟨rfl, m2, rfl⟩
  go_wp2_with fail
  (with_reducible refine (some_any _).mono ?_)
  rintro e w1 ⟨rfl, m3, rfl⟩
  go_wp2_with fail
  (with_reducible refine (expand_lit _ [120, 98, 99, 121, 99, 99, 38, 92, 10, 113] _ _ _ _ (HT.out.grows (by repeat' first | exact Grows.refl _ | refine Grows.more ?_ _ | refine Grows.alloc ?_ _ | refine Grows.drewN ?_ _ | refine Grows.drew ?_)) (by decide) rfl (by decide) (by decide)).mono ?_)
  rintro e w1 ⟨rfl, m4, rfl⟩
  go_wp2_with fail
  (with_reducible refine (most_lit _ 2 _ _ (HT.out.grows (by repeat' first | exact Grows.refl _ | refine Grows.more ?_ _ | refine Grows.alloc ?_ _ | refine Grows.drewN ?_ _ | refine Grows.drew ?_)) (by decide) (by decide)).mono ?_)
  rintro e w1 ⟨rfl, rfl⟩
  go_wp2_with fail
  go_ret
  exact ⟨rfl, (by repeat' first | exact Grows.refl _ | refine Grows.more ?_ _ | refine Grows.alloc ?_ _ | refine Grows.drewN ?_ _ | refine Grows.drew ?_)⟩
end Go.Proofs.Ytdgahppgpldnpaa
