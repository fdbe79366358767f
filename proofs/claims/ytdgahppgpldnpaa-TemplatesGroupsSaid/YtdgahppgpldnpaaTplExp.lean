/-
  Templates: told and Expand, walked.
-/
import Derived.Test.YtdgahppgpldnpaaTplMost
import Derived.Test.YtdgahppgpldnpaaOpenArr
namespace Go.Proofs.Ytdgahppgpldnpaa
open Go.RowKit

attribute [local go_sem] tx_bt tx_from
/-- A number of the spans. -/
def sp (ms : List Int) (j : Nat) : Int := ms.getD j 0
theorem nums_size (ms : List Int) : (nums ms).size = ms.length := by simp [nums]
theorem nums_get (ms : List Int) (j : Nat) (h : j < ms.length) : (nums ms)[j]? = some (.int .i64 (sp ms j)) := by
  simp [nums, sp, h]
theorem nums_one (ms : List Int) : OneCells (nums ms) := by
  unfold OneCells nums
  simp
  intro x _
  rfl
/-- The stretch of a group. -/
def strV (s : List UInt8) (ms : List Int) (n : Nat) : List UInt8 :=
  if 0 ≤ sp ms (n * 2) ∧ sp ms (n * 2) ≤ sp ms (n * 2 + 1) ∧ sp ms (n * 2 + 1) ≤ s.length then (s.drop (sp ms (n * 2)).toNat).take ((sp ms (n * 2 + 1)).toNat - (sp ms (n * 2)).toNat) else []
set_option maxRecDepth 100000 in
set_option maxHeartbeats 2000000 in
theorem told_text (l s : List UInt8) (ms : List Int) (w : World) : Calls Try.prog 50 #[.string (tx l), .string (tx s), .agg (nums ms)] w fun e w' => e = .returned (.string (tx l)) ∧ Grows w w' := by
  go_enter Try.func50, Try.ntmps50
  go_wp2_with fail
  go_ret
  exact ⟨rfl, (Grows.refl _).alloc _⟩
set_option maxRecDepth 100000 in
set_option maxHeartbeats 2000000 in
theorem told_group (n : Nat) (s : List UInt8) (ms : List Int) (w : World) (hn : n ≤ 9) (hm : ms.length = 20) (hs : s.length ≤ 1000000) : Calls Try.prog 51 #[.int .i64 n, .string (tx s), .agg (nums ms)] w fun e w' => e = .returned (.string (tx (strV s ms n))) ∧ Grows w w' := by
  have hsz := nums_size ms
  rw [hm] at hsz
  have h0 := nums_get ms (n * 2) (by omega)
  have h1 := nums_get ms (n * 2 + 1) (by omega)
  have n0 : (0 : Int) ≤ (n : Int) := by omega
  have n1 : (n : Int) < 10 := by omega
  have hV : strV s ms n = if 0 ≤ sp ms (n * 2) ∧ sp ms (n * 2) ≤ sp ms (n * 2 + 1) ∧ sp ms (n * 2 + 1) ≤ s.length then (s.drop (sp ms (n * 2)).toNat).take ((sp ms (n * 2 + 1)).toNat - (sp ms (n * 2)).toNat) else [] := rfl
  have HV := Lib.hid hV
  have HM := Lib.hid hm
  clear hV hm
  generalize sp ms (n * 2) = a at *
  generalize sp ms (n * 2 + 1) = b at *
  go_enter Try.func51, Try.ntmps51
  go_wp2_with fail
  go_quiet (fail)
  by_cases ha : a < 0
  · have HZ := Lib.hid (HV.out.trans (if_neg (by omega)))
    go_wp2_with fail
    go_ret
    exact ⟨by rw [HZ.out]; rfl, ((Grows.refl _).alloc _).drewN _⟩
  by_cases hb : b < a
  · have HZ := Lib.hid (HV.out.trans (if_neg (by omega)))
    go_wp2_with fail
    go_ret
    exact ⟨by rw [HZ.out]; rfl, ((Grows.refl _).alloc _).drewN _⟩
  by_cases hc : (s.length : Int) < b
  · have HZ := Lib.hid (HV.out.trans (if_neg (by omega)))
    go_wp2_with fail
    go_ret
    exact ⟨by rw [HZ.out]; rfl, ((Grows.refl _).alloc _).drewN _⟩
  have HZ := Lib.hid (HV.out.trans (if_pos (by omega)))
  clear h0 h1 HV
  obtain ⟨k, rfl⟩ : ∃ k : Nat, a = k := ⟨a.toNat, by omega⟩
  obtain ⟨m, rfl⟩ : ∃ m : Nat, b = m := ⟨b.toNat, by omega⟩
  have hx := tx_mid s k m
  have k1 : k ≤ m := by omega
  have k2 : m ≤ s.length := by omega
  go_wp2_with fail
  go_ret
  exact ⟨by rw [HZ.out]; rfl, ((Grows.refl _).alloc _).drewN _⟩
set_option maxRecDepth 100000 in
set_option maxHeartbeats 2000000 in
theorem expand_nil (s : List UInt8) (ms : List Int) (w : World) : Calls Try.prog 12 #[.pointer none, .string (tx s), .agg (nums ms)] w fun e w' => e = .returned (.string (tx [])) ∧ Grows w w' := by
  go_enter Try.func12, Try.ntmps12
  go_wp2_with fail
  go_ret
  exact ⟨rfl, ((Grows.refl _).alloc _).alloc _⟩
theorem method_text (n : Nat) (s : ByteArray) (w : World) : (method (n + 1) 45 (.string s) "inkhorn/templates.told").run Try.prog w = .ok (50, .string s) w := by kernel_rfl
theorem method_group (n : Nat) (k : Int) (w : World) : (method (n + 1) 46 (.int .i64 k) "inkhorn/templates.told").run Try.prog w = .ok (51, .int .i64 k) w := by kernel_rfl
attribute [local go_sem] method_text method_group
def outV (s : List UInt8) (ms : List Int) (l : List Tok) : List UInt8 := (l.map (toldV (strV s ms))).flatten
theorem strV_len (s : List UInt8) (ms : List Int) (n : Nat) : (strV s ms n).length ≤ s.length := by
  unfold strV
  split
  · simp; omega
  · simp
/-- How long the texts of pieces are. -/
def longT : Tok → Nat
  | .text l => l.length
  | .grp _ => 0
theorem outV_snoc (s : List UInt8) (ms : List Int) (l : List Tok) (t : Tok) : outV s ms (l ++ [t]) = outV s ms l ++ toldV (strV s ms) t := by simp [outV]
theorem builder_grows {T e : TypeId} {B b : Nat} {bs : List Value} {w w' : World} (h : Lib.IsBuilder T e B b bs w) (hg : Grows w w') : Lib.IsBuilder T e B b bs w' := by
  have key : ∀ p, Lib.BuilderAt T e B b p bs w → Lib.BuilderAt T e B b p bs w' := by
    rintro p ⟨hB, v, hb, hown, hne⟩
    refine ⟨hB, v, ?_, own_growsG hown hg, hne⟩
    obtain ⟨m, rfl⟩ := hg
    rw [heap_more w m b (Array.getElem?_eq_some_iff.1 hb).1]; exact hb
  exact h.imp (key _) (key _)
def Fits (l : List Tok) (N : Nat) : Prop := ∀ t ∈ l, longT t ≤ N
theorem outV_len (s : List UInt8) (ms : List Int) (l : List Tok) (N : Nat) (h : Fits l N) (hs : s.length ≤ N) : (outV s ms l).length ≤ l.length * N := by
  induction l with
  | nil => simp [outV]
  | cons t l ih =>
    have h1 := ih (fun x hx => h x (by simp [hx]))
    have h2 : (toldV (strV s ms) t).length ≤ N := by
      cases t with
      | text x => exact h (.text x) (by simp)
      | grp n => exact Nat.le_trans (strV_len s ms n) hs
    have h3 : outV s ms (t :: l) = toldV (strV s ms) t ++ outV s ms l := by simp [outV]
    rw [h3, List.length_append, List.length_cons, Nat.succ_mul]; omega
set_option maxRecDepth 100000 in
set_option maxHeartbeats 2000000 in
theorem expand_some (g : Nat) (l : List Tok) (s : List UInt8) (ms : List Int) (w : World) (h : IsTpl w g l) (hsm : Small l) (hl : l.length ≤ 100000) (hf : Fits l 1000000) (hm : ms.length = 20) (hs : s.length ≤ 1000000) : Calls Try.prog 12 #[.pointer (some ⟨g, 0, none⟩), .string (tx s), .agg (nums ms)] w fun e w' => e = .returned (.string (tx (outV s ms l))) ∧ Grows w w' := by
  have hsz := nums_size ms
  rw [hm] at hsz
  have h1c := nums_one ms
  obtain ⟨A, cap, h1, h2, h3, h4, h5⟩ := h
  have h2 : InHeap g w := h2
  have H5 := Lib.hid h5
  have HM := Lib.hid hm
  clear h5 hm
  go_enter Try.func12, Try.ntmps12
  go_wp2_with fail
  go_loopg [9, 17] l.length (fun q _ v17 wr => ∃ i : Nat, q + i = l.length ∧ v17 = .int .i64 i ∧ Lib.IsBuilder 52 5 (w.heap.size + 1) (w.heap.size + 1) (Lib.byteCells (outV s ms (l.take i))) wr ∧ Below (w.heap.size + 1) (w.alloc (.cells (nums ms) 23)) wr)
  case atStart =>
    refine ⟨0, by omega, rfl, .inl ⟨Nat.le_refl _, .slice none 0 0, ?_, World.ownsRow_nil _ _ _ _, by simp [Value.ownBlock]⟩, (Below.refl _ _).alloc (by simp) _⟩
    have := World.alloc_heap_new (w.alloc (.cells (nums ms) 23)) (.cells #[.pointer none, .slice none 0 0] 52)
    rw [show (w.alloc (.cells (nums ms) 23)).heap.size = w.heap.size + 1 by simp] at this
    exact this
  case round =>
    obtain ⟨i, hq, rfl, hI, hB⟩ := hrel
    have HQ := Lib.hid hq
    have hil : i ≤ l.length := by omega
    clear hq
    have hG : Grows (w.alloc (.cells (nums ms) 23)) wr := Grows.of_below (by simpa using hB)
    have hblk : blk wr w.heap.size = nums ms := by
      obtain ⟨m, rfl⟩ := hG
      simp [go_sem]
    have hsz2 := hB.size
    have HG := Lib.hid hG
    clear hG
    by_cases hi : i < l.length
    · have i0 : (0 : Int) ≤ (i : Int) := by omega
      have i1 : (i : Int) < (l.length : Int) := by omega
      obtain ⟨b, o, rfl, hb, hc⟩ := (H5.out.grows (((Grows.refl w).alloc _).trans HG.out)).at_ (j := i) (by rw [tl_length]; exact hi)
      have hb : InHeap b wr := hb
      have hv : (tl l)[i]'(by rw [tl_length]; exact hi) = tokVal l[i] := by simp [tl]
      rw [hv] at hc
      have hmem := List.getElem_mem hi
      have hst : outV s ms (l.take (i + 1)) = outV s ms (l.take i) ++ toldV (strV s ms) l[i] := by
        rw [List.take_add_one, List.getElem?_eq_getElem hi, Option.toList_some, outV_snoc]
      have hlo := outV_len s ms (l.take i) 1000000 (fun t ht => hf t (List.mem_of_mem_take ht)) hs
      have hlo2 : (outV s ms (l.take i)).length ≤ 100000000000 := by
        have : (l.take i).length ≤ 100000 := by simp; omega
        have := Nat.mul_le_mul_right 1000000 this
        omega
      have HST := Lib.hid hst
      clear hst hv hlo
      cases ht : l[i] with
      | text x =>
        rw [ht] at hc hmem HST
        have hx := hf _ hmem
        simp only [longT] at hx
        unfold tokVal at hc
        simp only [] at hc
        clear ht hmem
        generalize outV s ms (l.take i) = out at *
        go_wp2_with fail
        (with_reducible refine (told_text x s ms _).mono ?_)
        rintro e w1 ⟨rfl, hg1⟩
        have hI1 := builder_grows hI hg1
        have hs1 := hg1.below.size
        go_wp2_with fail
        (with_reducible refine (writeString_any (w.heap.size + 1) (w.heap.size + 1) _ (tx x) _ hI1 (by rw [Lib.byteCells_length, tx_size]; omega) (by simp at hsz2; omega)).mono ?_)
        rintro e w2 ⟨rfl, hI2, hB2⟩
        have hB3 := below_grows hB (by simp) hg1
        go_wp2_with fail
        go_roundg (gk - 1)
        case measure => have := HQ.out; omega
        case rel =>
          refine ⟨i + 1, by have := HQ.out; omega, by go_num, .inr ?_, hB3.trans hB2⟩
          rw [HST.out, Lib.byteCells_append]
          exact hI2
      | grp n =>
        rw [ht] at hc hmem HST
        have hn9 := hsm n hmem
        have hsl := strV_len s ms n
        unfold tokVal at hc
        simp only [] at hc
        clear ht hmem
        generalize outV s ms (l.take i) = out at *
        go_wp2_with fail
        (with_reducible refine (told_group n s ms _ hn9 HM.out hs).mono ?_)
        rintro e w1 ⟨rfl, hg1⟩
        have hI1 := builder_grows hI hg1
        have hs1 := hg1.below.size
        go_wp2_with fail
        (with_reducible refine (writeString_any (w.heap.size + 1) (w.heap.size + 1) _ (tx (strV s ms n)) _ hI1 (by rw [Lib.byteCells_length, tx_size]; omega) (by simp at hsz2; omega)).mono ?_)
        rintro e w2 ⟨rfl, hI2, hB2⟩
        have hB3 := below_grows hB (by simp) hg1
        go_wp2_with fail
        go_roundg (gk - 1)
        case measure => have := HQ.out; omega
        case rel =>
          refine ⟨i + 1, by have := HQ.out; omega, by go_num, .inr ?_, hB3.trans hB2⟩
          rw [HST.out, Lib.byteCells_append]
          exact hI2
    · have i1 : ¬(i : Int) < (l.length : Int) := by omega
      have hti : l.take i = l := List.take_of_length_le (by omega)
      rw [hti] at hI
      clear hti
      go_wp2_with fail
      (with_reducible refine (Try.Builder_String_any (w.heap.size + 1) (w.heap.size + 1) _ _ hI (by simp at hsz2; omega)).mono ?_)
      rintro e w1 ⟨rfl, hB1⟩
      have hG1 := (Grows.refl w).alloc (.cells (nums ms) 23)
      have hB2 := hB.trans hB1
      go_wp2_with fail
      go_ret
      exact ⟨rfl, hG1.trans (Grows.of_below (by simpa using hB2))⟩
end Go.Proofs.Ytdgahppgpldnpaa
