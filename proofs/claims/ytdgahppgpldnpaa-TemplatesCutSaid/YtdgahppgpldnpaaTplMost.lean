/-
  Templates: Most and Expand, and the document's, walked.
-/
import Derived.Test.YtdgahppgpldnpaaTplParse
namespace Go.Proofs.Ytdgahppgpldnpaa
open Go.RowKit

attribute [local go_sem] tx_bt tx_from
/-- A pointer to a replacement; none: nil. -/
def TplPtr (w : World) (v : Value) (x : Option (List Tok)) : Prop := match x with
  | none => v = .pointer none
  | some l => ∃ g, v = .pointer (some ⟨g, 0, none⟩) ∧ IsTpl w g l
theorem TplPtr.grows {w w' : World} {v : Value} {x : Option (List Tok)} (h : TplPtr w v x) (hg : Grows w w') : TplPtr w' v x := by
  cases x with
  | none => exact h
  | some l => obtain ⟨g, hv, h⟩ := h; exact ⟨g, hv, h.grows hg⟩
/-- Its pieces; of none: none. -/
def toksV (x : Option (List Tok)) : List Tok := x.getD []
/-- Groups are few. -/
def Small (l : List Tok) : Prop := ∀ n, Tok.grp n ∈ l → n ≤ 9
theorem Small.tail {t : Tok} {l : List Tok} (h : Small (t :: l)) : Small l := fun n hn => h n (by simp [hn])
theorem small_behind (c : UInt8) (n : Nat) (h : behindV c = .grp n) : n ≤ 9 := by
  unfold behindV at h
  split at h
  · injection h with h; omega
  · split at h <;> cases h
theorem tokV_small (n : Nat) : ∀ (s : List UInt8) (l : List Tok), tokV n s = some l → Small l := by
  induction n with
  | zero => intro s l h; cases h
  | succ n ih =>
    intro s l h
    cases s with
    | nil => injection h with h; subst h; intro n hn; cases hn
    | cons c s =>
      unfold tokV at h
      split at h
      · rw [Option.map_eq_some_iff] at h
        obtain ⟨l', h1, rfl⟩ := h
        intro k hk
        rcases List.mem_cons.1 hk with hk | hk
        · cases hk
        · exact ih _ _ h1 k hk
      · split at h
        · rw [Option.map_eq_some_iff] at h
          obtain ⟨l', h1, rfl⟩ := h
          intro k hk
          rcases List.mem_cons.1 hk with hk | hk
          · injection hk with hk; omega
          · exact ih _ _ h1 k hk
        · cases s with
          | nil => cases h
          | cons d t =>
            simp only [] at h
            rw [Option.map_eq_some_iff] at h
            obtain ⟨l', h1, rfl⟩ := h
            intro k hk
            rcases List.mem_cons.1 hk with hk | hk
            · exact small_behind d k hk.symm
            · exact ih _ _ h1 k hk
theorem tokF_small (s : List UInt8) (l : List Tok) (h : tokF s = some l) : Small l := tokV_small _ s l h
theorem mostT_append (a b : List Tok) : mostT (a ++ b) = max (mostT a) (mostT b) := by
  induction a with
  | nil => simp [mostT]
  | cons t a ih => cases t <;> simp only [List.cons_append, mostT, ih, Nat.max_assoc]
theorem mostT_small (l : List Tok) (h : Small l) : mostT l ≤ 9 := by
  induction l with
  | nil => simp [mostT]
  | cons t l ih =>
    cases t with
    | text _ => exact ih h.tail
    | grp n => have := ih h.tail; have := h n (by simp); simp only [mostT]; omega
theorem assert_group (n : Int) (w : World) : (Instr.typeAssert (.iface 46 (.int .i64 n)) 48 46 true).run Try.prog w = .ok (.tuple #[.int .i64 n, .bool true]) w := by kernel_rfl
theorem assert_text (s : ByteArray) (w : World) : (Instr.typeAssert (.iface 45 (.string s)) 48 46 true).run Try.prog w = .ok (.tuple #[.int .i64 0, .bool false]) w := by kernel_rfl
theorem assert_text2 (s : ByteArray) (w : World) : (Instr.typeAssert (.iface 45 (.string s)) 48 45 true).run Try.prog w = .ok (.tuple #[.string s, .bool true]) w := by kernel_rfl
attribute [local go_sem] assert_group assert_text assert_text2
set_option maxRecDepth 100000 in
set_option maxHeartbeats 2000000 in
theorem most_nil (w : World) : Calls Try.prog 11 #[.pointer none] w fun e w' => e = .returned (.int .i64 0) ∧ w = w' := by
  go_enter Try.func11, Try.ntmps11
  go_wp2_with fail
  go_ret
  exact ⟨rfl, rfl⟩
set_option maxRecDepth 100000 in
set_option maxHeartbeats 2000000 in
theorem most_some (g : Nat) (l : List Tok) (w : World) (h : IsTpl w g l) (hs : Small l) (hl : l.length ≤ 1000000) : Calls Try.prog 11 #[.pointer (some ⟨g, 0, none⟩)] w fun e w' => e = .returned (.int .i64 (mostT l)) ∧ w = w' := by
  obtain ⟨A, cap, h1, h2, h3, h4, h5⟩ := h
  have H5 := Lib.hid h5
  clear h5
  go_enter Try.func11, Try.ntmps11
  go_wp2_with fail
  go_loopg [3, 5, 6, 7, 16] l.length (fun q v3 _ _ _ v16 wr => ∃ i : Nat, q + i = l.length ∧ v3 = .int .i64 (mostT (l.take i)) ∧ v16 = .int .i64 i ∧ w = wr)
  case atStart => exact ⟨0, by omega, rfl, rfl, rfl⟩
  case round =>
    obtain ⟨i, hq, rfl, rfl, rfl⟩ := hrel
    have HQ := Lib.hid hq
    clear hq
    by_cases hi : i < l.length
    · have i0 : (0 : Int) ≤ (i : Int) := by omega
      have i1 : (i : Int) < (l.length : Int) := by omega
      obtain ⟨b, o, rfl, hb, hc⟩ := H5.out.at_ (j := i) (by rw [tl_length]; exact hi)
      have hb : InHeap b w := hb
      have hv : (tl l)[i]'(by rw [tl_length]; exact hi) = tokVal l[i] := by simp [tl]
      rw [hv] at hc
      have hsm : mostT (l.take i) ≤ 9 := mostT_small _ (fun n hn => hs n (List.mem_of_mem_take hn))
      have hst : mostT (l.take (i + 1)) = max (mostT (l.take i)) (mostT [l[i]]) := by
        rw [List.take_add_one, List.getElem?_eq_getElem hi, Option.toList_some, mostT_append]
      have hti := hs
      have hmem := List.getElem_mem hi
      cases ht : l[i] with
      | text s =>
        rw [ht] at hc hst
        have hst' : mostT (l.take (i + 1)) = mostT (l.take i) := by rw [hst]; simp [mostT]
        have HST := Lib.hid hst'
        unfold tokVal at hc
        simp only [] at hc
        clear hst hst' hv ht hti hmem
        generalize mostT (l.take i) = m at *
        go_wp2_with fail
        go_roundg (gk - 1)
        case measure => have := HQ.out; omega
        case rel => exact ⟨i + 1, by have := HQ.out; omega, by rw [HST.out], by go_num, rfl⟩
      | grp n =>
        rw [ht] at hc hst hmem
        have hn9 := hs n hmem
        have hst' : mostT (l.take (i + 1)) = max (mostT (l.take i)) n := by rw [hst]; simp [mostT]
        have HST := Lib.hid hst'
        unfold tokVal at hc
        simp only [] at hc
        clear hst hst' hv ht hti hmem
        generalize mostT (l.take i) = m at *
        have hmax : (max (m : Int) (n : Int)) = ((max m n : Nat) : Int) := by omega
        go_wp2_with fail
        go_roundg (gk - 1)
        case measure => have := HQ.out; omega
        case rel => exact ⟨i + 1, by have := HQ.out; omega, by rw [HST.out], by go_num, rfl⟩
    · have i1 : ¬(i : Int) < (l.length : Int) := by omega
      have hti : l.take i = l := List.take_of_length_le (by omega)
      rw [hti]
      clear hti
      go_wp2_with fail
      go_ret
      exact ⟨rfl, rfl⟩
end Go.Proofs.Ytdgahppgpldnpaa
