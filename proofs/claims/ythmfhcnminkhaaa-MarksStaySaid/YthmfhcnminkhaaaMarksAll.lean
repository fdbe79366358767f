/-
  Marks: the walk of marks.All.
-/
import Derived.Test.YthmfhcnminkhaaaMarksLives
namespace Go.Proofs.Ythmfhcnminkhaaa
open Go.RowKit
attribute [local go_sem ↓] zero23
attribute [local go_sem] set_MA

/-- The marks behind splices, one behind the other. -/
def allV (ms : List Int) (L : List Spl) : List Int := L.foldl (fun a s => shiftV a s.at_ s.del s.len) ms
theorem length_allV (L : List Spl) : ∀ ms : List Int, (allV ms L).length = ms.length := by
  induction L with
  | nil => intro ms; rfl
  | cons s L ih => intro ms; show (allV (shiftV ms s.at_ s.del s.len) L).length = _; rw [ih]; simp
theorem shiftV_i64 (ms : List Int) (at_ del len : Int) (h : ∀ n ∈ ms, I64 n) : ∀ n ∈ shiftV ms at_ del len, I64 n := by
  intro n hn
  obtain ⟨x, hx, rfl⟩ := List.mem_map.1 hn
  exact lineV_i64 _ _ _ _ (h x hx)
theorem allV_i64 (L : List Spl) : ∀ ms : List Int, (∀ n ∈ ms, I64 n) → ∀ n ∈ allV ms L, I64 n := by
  induction L with
  | nil => intro ms h; exact h
  | cons s L ih => intro ms h; exact ih _ (shiftV_i64 _ _ _ _ h)
theorem allV_succ (ms : List Int) (L : List Spl) (k : Nat) (hk : k < L.length) : allV ms (L.take (k + 1)) = shiftV (allV ms (L.take k)) L[k].at_ L[k].del L[k].len := by
  unfold allV
  rw [List.take_succ_eq_append_getElem hk, List.foldl_append]
  rfl
/-- Splices that may be in memory. -/
def Spl.ok (s : Spl) : Prop := I64 s.at_ ∧ I64 s.del ∧ s.len ≤ 9223372036854775807

set_option maxHeartbeats 1000000 in
theorem all_any (ms : List Int) (L : List Spl) (A : Option Addr) (cap : Nat) (w : World) (hms : ms.length = 26) (hm : ∀ n ∈ ms, I64 n) (hL : Rd w 3 A L.length (L.flatMap Spl.cells)) (hlen : L.length ≤ 9223372036854775807) (hl : ∀ s ∈ L, s.ok) :
    Calls Try.prog 16 #[.agg (MA ms), .slice A L.length cap] w fun e w' => e = .returned (.agg (MA (allV ms L))) ∧ Grows w w' := by
  have hlenA : ∀ K, (allV ms K).length = 26 := fun K => (length_allV K ms).trans hms
  go_enter Try.func16, Try.ntmps16
  go_wp2_with fail
  go_loopw [9] (fun i wr => ∃ k : Nat, k ≤ L.length ∧ i = .int .i64 k ∧ Grows ((w.alloc (.cells (MA (allV ms (L.take k))) 23)).alloc (.cells (MA zeros) 23)) wr) (fun i _ => L.length - (intOf i).toNat)
  case atStart => exact ⟨0, by omega, rfl, Grows.refl _⟩
  case round =>
    obtain ⟨k, hk, rfl, m, rfl⟩ := hrel
    by_cases hlt : k < L.length
    · obtain ⟨b, o, rfl, hb, hc⟩ := hL.2 (by omega)
      obtain ⟨hc0, hc1, hc2⟩ := cells_at L k hlt
      have hc0 := hc _ _ hc0
      have hc1 := hc _ _ hc1
      have hc2 := hc _ _ hc2
      rw [← Nat.add_assoc] at hc1 hc2
      have hb : InHeap b w := hb
      have HC := Lib.hid hc
      clear hc
      obtain ⟨ha, hd, hsl⟩ := hl _ (List.getElem_mem hlt)
      have H := Lib.hid (allV_succ ms L k hlt)
      have hmk := allV_i64 (L.take k) ms hm
      go_wp2_with fail
      (with_reducible refine (shift_any _ _ _ _ _ _ _ (hlenA _) hmk ha hd hsl).mono ?_); rintro e w' ⟨rfl, m', rfl⟩
      go_wp2_with fail
      refine ⟨⟨k + 1, by omega, by go_num, ?_⟩, by simp [intOf]; omega⟩
      rw [H.out]
      exact ((Grows.of _ _).alloc _).more _
    · have hkL : k = L.length := by omega
      subst hkL
      rw [List.take_length]
      go_wp2_with fail
      exact bodyPost_ret (v := .agg (MA (allV ms L))) (by simp [results, Try.results16, go_sem, hlenA]) rfl ⟨rfl, (((Grows.refl w).alloc _).alloc _).more _⟩

end Go.Proofs.Ythmfhcnminkhaaa
