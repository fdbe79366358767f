/-
  Several texts of the proof: Fold, CoreMem.
-/
import Derived.Test.YthanghgfakibnaaPk24
import Derived.Test.YthanghgfakibnaaPk04
import Derived.Test.YthanghgfakibnaaPk05
import Derived.Test.YthanghgfakibnaaPk12
import Derived.Test.YthanghgfakibnaaPk20
import Derived.Test.YthanghgfakibnaaPk23
/-
  Splices: fold, All, Apply.
-/
namespace Go.Proofs.Ythanghgfakibnaa
open Go.RowKit

/-- A splice in memory, with its lines. -/
structure Spx where
  at_ : Int
  del : Int
  A : Option Addr
  cap : Nat
  ins : List (List UInt8)
def Spx.cells (s : Spx) : List Value := [.int .i64 s.at_, .int .i64 s.del, .slice s.A s.ins.length s.cap]
def Spx.ok (w : World) (s : Spx) : Prop := I64 s.at_ ∧ I64 s.del ∧ Rd w 1 s.A s.ins.length (lv s.ins) ∧ (s.A = none → s.ins.length = 0 ∧ s.cap = 0) ∧ s.ins.length ≤ 1000000 ∧ ∀ t ∈ s.ins, t.length ≤ 9223372036854775807
set_option maxRecDepth 3000 in
theorem Spx.ok.grows {w w' : World} {s : Spx} (h : s.ok w) (hg : Grows w w') : s.ok w' := ⟨h.1, h.2.1, h.2.2.1.grows hg, h.2.2.2⟩
set_option maxRecDepth 3000 in
theorem spx_cells (L : List Spx) : ∀ (k : Nat) (h : k < L.length), (L.flatMap Spx.cells)[k * 3]? = some (.int .i64 L[k].at_) ∧ (L.flatMap Spx.cells)[k * 3 + 1]? = some (.int .i64 L[k].del) ∧ (L.flatMap Spx.cells)[k * 3 + 2]? = some (.slice L[k].A L[k].ins.length L[k].cap) := by
  induction L with
  | nil => intro k h; simp at h
  | cons s L ih =>
    intro k h
    match k with
    | 0 => simp [Spx.cells]
    | k + 1 =>
      have := ih k (by simpa using h)
      have e : (k + 1) * 3 = k * 3 + 3 := by omega
      simpa [Spx.cells, e] using this
/-- What comes of splices one behind the other. -/
def foldV (d : List (List UInt8)) : List Spx → List (List UInt8) × Int
  | [] => (d, 0)
  | s :: L => if (doneV d s.at_ s.del s.ins).2 ≠ 0 then ([], (doneV d s.at_ s.del s.ins).2) else foldV (doneV d s.at_ s.del s.ins).1 L
set_option maxRecDepth 3000 in
theorem doneV_len (d : List (List UInt8)) (a e : Int) (ins : List (List UInt8)) : (doneV d a e ins).1.length ≤ 2000 := by
  unfold doneV
  split
  · simp
  · rename_i h1
    have hmin : ¬ min a e < 0 := by
      intro h; simp [spCheckV, h] at h1
    split
    · simp
    · split
      · simp
      · simp; omega
set_option maxRecDepth 3000 in
theorem own_row {w : World} {base : Nat} {v : Value} {d : List (List UInt8)} (h : w.ownsRow base 9 1 v d.length (lv d)) : ∃ A cap, v = .slice A d.length cap ∧ d.length ≤ cap ∧ cap ≤ 9223372036854775807 ∧ Rd w 1 A d.length (lv d) ∧ (A = none → d.length = 0 ∧ cap = 0) ∧ ∀ a, A = some a → a.spot = none := by
  obtain ⟨A, cap, e, h1, h2, h3, h4⟩ := own_rd' h
  refine ⟨A, cap, e, h1, h2, h3, h4, fun a ha => ?_⟩
  subst ha
  rcases h.2 with ⟨e2, _⟩ | ⟨g, c, cur, e2, _⟩
  · rw [e] at e2; injection e2 with e3; cases e3
  · rw [e] at e2; injection e2 with e3; injection e3 with e3; rw [e3]

set_option maxRecDepth 3000 in
set_option maxHeartbeats 2000000 in
theorem fold_any (base : Nat) (v : Value) (d : List (List UInt8)) (L : List Spx) (A : Option Addr) (cap : Nat) (w : World) (hv : w.ownsRow base 9 1 v d.length (lv d)) (hb : base ≤ w.heap.size) (hd : d.length ≤ 1000000) (hL : Rd w 3 A L.length (L.flatMap Spx.cells)) (hlen : L.length ≤ 1000000) (hl : ∀ s ∈ L, s.ok w) :
    Calls Try.prog 49 #[v, .slice A L.length cap, .func (.func 50) #[] #[]] w fun e w' => ∃ v', e = .returned (.tuple #[v', .int .i64 (foldV d L).2]) ∧ w'.ownsRow base 9 1 v' (foldV d L).1.length (lv (foldV d L).1) ∧ Grows w w' := by
  have HL := Lib.hid hl
  clear hl
  go_enter Try.func49, Try.ntmps49
  go_wp2_with fail
  go_loopg [0, 15] L.length (fun q v i wr => ∃ (k : Nat) (dk : List (List UInt8)), q + k = L.length ∧ i = .int .i64 k ∧ foldV d L = foldV dk (L.drop k) ∧ dk.length ≤ 1000000 ∧ wr.ownsRow base 9 1 v dk.length (lv dk) ∧ ∃ m, wr = more w m)
  case atStart => exact ⟨0, d, by omega, rfl, rfl, hd, hv, ⟨#[], w.drawn⟩, by simp [more]⟩
  case round =>
    obtain ⟨k, dk, hq, rfl, hF, hdk, hown, m, rfl⟩ := hrel
    have HQ := Lib.hid hq
    have HF := Lib.hid hF
    have HO := Lib.hid hown
    obtain ⟨Ad, cd, rfl, hcap, hc63, hA, hnA, hsA⟩ := own_row hown
    have HNA := Lib.hid hnA
    have HSA := Lib.hid hsA
    have HHA := Lib.hid hA
    have hkl : k ≤ L.length := by omega
    clear hq hF hown hnA hsA hA hv
    by_cases hlt : k < L.length
    · obtain ⟨b, o, rfl, hb', hc⟩ := hL.2 (by omega)
      obtain ⟨hc0, hc1, hc2⟩ := spx_cells L k hlt
      have hc0 := hc _ _ hc0
      have hc1 := hc _ _ hc1
      have hc2 := hc _ _ hc2
      rw [← Nat.add_assoc] at hc1 hc2
      have hb' : InHeap b w := hb'
      have HC := Lib.hid hc
      obtain ⟨ka, kd, kI, kn, ki, kl⟩ := HL.out _ (List.getElem_mem hlt)
      have KI := Lib.hid kI
      have KN := Lib.hid kn
      have KL := Lib.hid kl
      clear kI kn kl
      have HD : Hid (foldV dk (L.drop k) = if (doneV dk L[k].at_ L[k].del L[k].ins).2 ≠ 0 then ([], (doneV dk L[k].at_ L[k].del L[k].ins).2) else foldV (doneV dk L[k].at_ L[k].del L[k].ins).1 (L.drop (k + 1))) := Lib.hid (by rw [List.drop_eq_getElem_cons hlt]; rfl)
      clear hc
      go_wp2_with fail
      (with_reducible refine (done_any Ad L[k].A cd L[k].cap dk L[k].ins L[k].at_ L[k].del _ (HHA.out.grows ((Grows.refl _).alloc _)) HNA.out HSA.out hcap hc63 (KI.out.grows (((Grows.refl _).more _).alloc _)) KN.out hdk ki KL.out ka kd).mono ?_)
      rintro e w' ⟨v', rfl, hown', m', rfl⟩
      have HO' := Lib.hid hown'
      clear hown'
      by_cases hz : (doneV dk L[k].at_ L[k].del L[k].ins).2 = 0
      · rw [hz]
        have hl2 := doneV_len dk L[k].at_ L[k].del L[k].ins
        go_wp2_with fail
        go_roundg (gk - 1)
        case measure => have := HQ.out; omega
        case rel => exact ⟨k + 1, _, by have := HQ.out; omega, by go_num, by rw [HF.out, HD.out, if_neg (by simpa using hz)], by omega, own_le HO'.out (by simp [go_sem]; omega), (((Grows.refl _).more _).alloc _).more _⟩
      · have hz' : ((doneV dk L[k].at_ L[k].del L[k].ins).2 != 0) = true := by simpa using hz
        go_wp2_with fail
        go_ret2
        rw [HF.out, HD.out, if_pos hz]
        exact ⟨_, rfl, World.ownsRow_nil _ _ _ _, (((Grows.refl _).more _).alloc _).more _⟩
    · have hk : L.drop k = [] := List.drop_eq_nil_of_le (by omega)
      go_wp2_with fail
      go_ret2
      rw [HF.out, hk]
      exact ⟨_, rfl, HO.out, (Grows.refl _).more _⟩

/-- What All answers. -/
def spAllV (d : List (List UInt8)) (L : List Spx) : List (List UInt8) × Int := if lcheckV d ≠ 0 then ([], lcheckV d) else foldV d L
set_option maxRecDepth 3000 in
theorem lcheckV_len {d : List (List UInt8)} (h : lcheckV d = 0) : d.length ≤ 2000 := by
  unfold lcheckV at h
  split at h
  · cases h
  · split at h
    · cases h
    · rename_i h2
      simp only [Bool.or_eq_true, decide_eq_true_eq, not_or] at h2
      omega

set_option maxRecDepth 3000 in
set_option maxHeartbeats 2000000 in
theorem spAll_any (Ad A : Option Addr) (cd cap : Nat) (d : List (List UInt8)) (L : List Spx) (w : World) (hA : Rd w 1 Ad d.length (lv d)) (hnA : Ad = none → d.length = 0 ∧ cd = 0) (hd : d.length ≤ 8000000000000) (hdl : ∀ t ∈ d, t.length ≤ 9223372036854775807) (hL : Rd w 3 A L.length (L.flatMap Spx.cells)) (hlen : L.length ≤ 1000000) (hl : ∀ s ∈ L, s.ok w) :
    Calls Try.prog 28 #[.slice Ad d.length cd, .slice A L.length cap] w (DonePost (spAllV d L) w) := by
  have HL := Lib.hid hl
  have HD := Lib.hid hdl
  have HN := Lib.hid hnA
  clear hl hdl hnA
  by_cases h : lcheckV d = 0
  · have HV : Hid (spAllV d L = foldV d L) := Lib.hid (by simp [spAllV, h])
    have hd2 := lcheckV_len h
    go_enter Try.func28, Try.ntmps28
    go_wp2_with fail
    (with_reducible refine (lcheck_any Ad cd d _ hA (by omega) HD.out).mono ?_)
    rw [h]
    rintro e w' ⟨rfl, rfl⟩
    go_wp2_with fail
    (with_reducible refine (clone_any Ad cd d _ hA hd HN.out).mono ?_)
    rintro e w' ⟨v, rfl, hown, m, rfl⟩
    go_wp2_with fail
    (with_reducible refine (fold_any _ v d L A cap _ hown (by simp [go_sem]) (by omega) (hL.grows ((Grows.refl _).more _)) hlen (fun s hs => (HL.out s hs).grows ((Grows.refl _).more _))).mono ?_)
    rintro e w' ⟨v', rfl, hown', m', rfl⟩
    go_wp2_with fail
    go_ret2
    rw [HV.out]
    exact ⟨_, rfl, hown', ((Grows.refl _).more _).more _⟩
  · have HV : Hid (spAllV d L = ([], lcheckV d)) := Lib.hid (by simp [spAllV, h])
    have hz' : (lcheckV d != 0) = true := by simpa using h
    go_enter Try.func28, Try.ntmps28
    go_wp2_with fail
    (with_reducible refine (lcheck_any Ad cd d _ hA (by omega) HD.out).mono ?_)
    rintro e w' ⟨rfl, rfl⟩
    go_wp2_with fail
    go_ret2
    rw [HV.out]
    exact ⟨_, rfl, World.ownsRow_nil _ _ _ _, Grows.refl _⟩

set_option maxRecDepth 3000 in
theorem spAll_n (Ad A : Option Addr) (cd n cap : Nat) (d : List (List UInt8)) (L : List Spx) (w : World) (hn : n = L.length) (hA : Rd w 1 Ad d.length (lv d)) (hnA : Ad = none → d.length = 0 ∧ cd = 0) (hd : d.length ≤ 8000000000000) (hdl : ∀ t ∈ d, t.length ≤ 9223372036854775807) (hL : Rd w 3 A L.length (L.flatMap Spx.cells)) (hlen : L.length ≤ 1000000) (hl : ∀ s ∈ L, s.ok w) :
    Calls Try.prog 28 #[.slice Ad d.length cd, .slice A n cap] w (DonePost (spAllV d L) w) := by
  subst hn
  exact spAll_any Ad A cd cap d L w hA hnA hd hdl hL hlen hl

end Go.Proofs.Ythanghgfakibnaa

/-
  Core: a buffer that is being edited, in memory: the package's and the document's.
-/
namespace Go.Proofs.Ythanghgfakibnaa
open Go.RowKit

/-! ### the cells -/
/-- The cells of a state. -/
def stC (t : Value) (cur : Int) (ms : List Int) : Array Value := #[t, .int .i64 cur] ++ MA ms
/-- The cells of a buffer. -/
def coC (t : Value) (cur : Int) (ms : List Int) (last regs dirty undo was held did : Value) : Array Value := stC t cur ms ++ #[last, regs, dirty, undo, was, held, did]
section
variable (t : Value) (cur : Int) (ms : List Int) (last regs dirty undo was held did v t' : Value) (n : Int) (ns : List Int)
set_option maxRecDepth 3000 in
theorem stC_size : (stC t cur ms).size = ms.length + 2 := by simp [stC]; omega
set_option maxRecDepth 3000 in
theorem coC_size : (coC t cur ms last regs dirty undo was held did).size = ms.length + 9 := by simp [coC, stC_size]
set_option maxRecDepth 3000 in
theorem stC_one (ht : t.oneCell' = true) : OneCells (stC t cur ms) := by
  have := oneCells_MA ms
  unfold OneCells at *
  simp only [stC, Array.all_append, this]
  have h2 : (Value.int .i64 cur).oneCell' = true := rfl
  simp [ht, h2]
set_option maxRecDepth 3000 in
theorem coC_list (h : ms.length = 26) : (coC t cur ms last regs dirty undo was held did).toList = t :: .int .i64 cur :: (ms.map (Value.int .i64) ++ [last, regs, dirty, undo, was, held, did]) := by simp [coC, stC, MA]
variable (h : ms.length = 26)
include h
set_option maxRecDepth 3000 in
theorem coC_0 : (coC t cur ms last regs dirty undo was held did)[0]? = some t := by rw [← Array.getElem?_toList, coC_list _ _ _ _ _ _ _ _ _ _ h]; rfl
set_option maxRecDepth 3000 in
theorem coC_1 : (coC t cur ms last regs dirty undo was held did)[1]? = some (.int .i64 cur) := by rw [← Array.getElem?_toList, coC_list _ _ _ _ _ _ _ _ _ _ h]; rfl
set_option maxRecDepth 3000 in
theorem coC_tail (i : Nat) : (coC t cur ms last regs dirty undo was held did)[28 + i]? = [last, regs, dirty, undo, was, held, did][i]? := by
  rw [← Array.getElem?_toList, coC_list _ _ _ _ _ _ _ _ _ _ h, show 28 + i = (26 + i) + 1 + 1 by omega, List.getElem?_cons_succ, List.getElem?_cons_succ, List.getElem?_append_right (by simp; omega)]
  congr 1
  simp [h]
set_option maxRecDepth 3000 in
theorem coC_set0 : (coC t cur ms last regs dirty undo was held did).setIfInBounds 0 v = coC v cur ms last regs dirty undo was held did := by
  apply Array.toList_inj.1; rw [Array.toList_setIfInBounds, coC_list _ _ _ _ _ _ _ _ _ _ h, coC_list _ _ _ _ _ _ _ _ _ _ h]; rfl
set_option maxRecDepth 3000 in
theorem coC_set1 : (coC t cur ms last regs dirty undo was held did).setIfInBounds 1 (.int .i64 n) = coC t n ms last regs dirty undo was held did := by
  apply Array.toList_inj.1; rw [Array.toList_setIfInBounds, coC_list _ _ _ _ _ _ _ _ _ _ h, coC_list _ _ _ _ _ _ _ _ _ _ h]; rfl
set_option maxRecDepth 3000 in
theorem coC_setT (i : Nat) : (coC t cur ms last regs dirty undo was held did).toList.set (28 + i) v = t :: .int .i64 cur :: (ms.map (Value.int .i64) ++ [last, regs, dirty, undo, was, held, did].set i v) := by
  rw [coC_list _ _ _ _ _ _ _ _ _ _ h, show 28 + i = (26 + i) + 1 + 1 by omega, List.set_cons_succ, List.set_cons_succ, List.set_append_right _ _ (by simp; omega)]
  congr 3
  simp [h]
set_option maxRecDepth 3000 in
theorem coC_set28 : (coC t cur ms last regs dirty undo was held did).setIfInBounds 28 v = coC t cur ms v regs dirty undo was held did := by
  apply Array.toList_inj.1; rw [Array.toList_setIfInBounds]; exact (coC_setT _ _ _ _ _ _ _ _ _ _ _ h 0).trans (coC_list _ _ _ _ _ _ _ _ _ _ h).symm
set_option maxRecDepth 3000 in
theorem coC_set29 : (coC t cur ms last regs dirty undo was held did).setIfInBounds 29 v = coC t cur ms last v dirty undo was held did := by
  apply Array.toList_inj.1; rw [Array.toList_setIfInBounds]; exact (coC_setT _ _ _ _ _ _ _ _ _ _ _ h 1).trans (coC_list _ _ _ _ _ _ _ _ _ _ h).symm
set_option maxRecDepth 3000 in
theorem coC_set30 : (coC t cur ms last regs dirty undo was held did).setIfInBounds 30 v = coC t cur ms last regs v undo was held did := by
  apply Array.toList_inj.1; rw [Array.toList_setIfInBounds]; exact (coC_setT _ _ _ _ _ _ _ _ _ _ _ h 2).trans (coC_list _ _ _ _ _ _ _ _ _ _ h).symm
set_option maxRecDepth 3000 in
theorem coC_set31 : (coC t cur ms last regs dirty undo was held did).setIfInBounds 31 v = coC t cur ms last regs dirty v was held did := by
  apply Array.toList_inj.1; rw [Array.toList_setIfInBounds]; exact (coC_setT _ _ _ _ _ _ _ _ _ _ _ h 3).trans (coC_list _ _ _ _ _ _ _ _ _ _ h).symm
set_option maxRecDepth 3000 in
theorem coC_set32 : (coC t cur ms last regs dirty undo was held did).setIfInBounds 32 v = coC t cur ms last regs dirty undo v held did := by
  apply Array.toList_inj.1; rw [Array.toList_setIfInBounds]; exact (coC_setT _ _ _ _ _ _ _ _ _ _ _ h 4).trans (coC_list _ _ _ _ _ _ _ _ _ _ h).symm
set_option maxRecDepth 3000 in
theorem coC_set33 : (coC t cur ms last regs dirty undo was held did).setIfInBounds 33 v = coC t cur ms last regs dirty undo was v did := by
  apply Array.toList_inj.1; rw [Array.toList_setIfInBounds]; exact (coC_setT _ _ _ _ _ _ _ _ _ _ _ h 5).trans (coC_list _ _ _ _ _ _ _ _ _ _ h).symm
set_option maxRecDepth 3000 in
theorem coC_set34 : (coC t cur ms last regs dirty undo was held did).setIfInBounds 34 v = coC t cur ms last regs dirty undo was held v := by
  apply Array.toList_inj.1; rw [Array.toList_setIfInBounds]; exact (coC_setT _ _ _ _ _ _ _ _ _ _ _ h 6).trans (coC_list _ _ _ _ _ _ _ _ _ _ h).symm
set_option maxRecDepth 3000 in
theorem coC_state : span (coC t cur ms last regs dirty undo was held did) 0 28 = stC t cur ms := by
  have e : (stC t cur ms).toList = t :: .int .i64 cur :: ms.map (Value.int .i64) := by simp [stC, MA]
  apply Array.toList_inj.1
  rw [e]
  simp only [span, coC_list _ _ _ _ _ _ _ _ _ _ h, List.drop_zero, List.take_succ_cons]
  congr 2
  exact List.take_left' (by simp [h])
set_option maxRecDepth 3000 in
theorem coC_marks : span (coC t cur ms last regs dirty undo was held did) 2 26 = MA ms := by
  apply Array.toList_inj.1
  simp only [span, coC_list _ _ _ _ _ _ _ _ _ _ h, MA]
  exact List.take_left' (by simp [h])
set_option maxRecDepth 3000 in
theorem coC_overS (hn : ns.length = 26) : over (coC t cur ms last regs dirty undo was held did) 0 (stC t' n ns) = coC t' n ns last regs dirty undo was held did := by
  have e : (stC t' n ns).toList = t' :: .int .i64 n :: ns.map (Value.int .i64) := by simp [stC, MA]
  apply Array.toList_inj.1
  simp only [over, coC_list _ _ _ _ _ _ _ _ _ _ h, coC_list _ _ _ _ _ _ _ _ _ _ hn, e, stC_size, hn]
  simp [List.drop_append, h]
set_option maxRecDepth 3000 in
theorem coC_overM (hn : ns.length = 26) : over (coC t cur ms last regs dirty undo was held did) 2 (MA ns) = coC t cur ns last regs dirty undo was held did := by
  apply Array.toList_inj.1
  simp only [over, coC_list _ _ _ _ _ _ _ _ _ _ h, coC_list _ _ _ _ _ _ _ _ _ _ hn, size_MA, hn]
  simp [List.drop_append, h, MA]
end
set_option maxRecDepth 3000 in
theorem stC_all (t : Value) (cur : Int) (ms : List Int) (h : ms.length = 26) : span (stC t cur ms) 0 28 = stC t cur ms := by
  apply Array.toList_inj.1
  simp only [span, List.drop_zero]
  exact List.take_of_length_le (by simp [stC, h])
set_option maxRecDepth 3000 in
theorem stC_0 (t : Value) (cur : Int) (ms : List Int) : (stC t cur ms)[0]? = some t := by
  rw [← Array.getElem?_toList]
  simp [stC]
end Go.Proofs.Ythanghgfakibnaa
