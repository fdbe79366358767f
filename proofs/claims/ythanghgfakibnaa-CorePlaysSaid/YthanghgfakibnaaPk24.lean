/-
  Several texts of the proof: Tail, Splices, Done.
-/
import Derived.Test.YthanghgfakibnaaPk00
import Derived.StillTail
import Derived.Test.YthanghgfakibnaaPk17
/-
  A region that draws its order: operations that read, or call what only lays new blocks, come first, in whatever order; behind them a row of operations whose order is forced (an alloc, a store, an append).
  The law: one walk in the text's order serves every order. It leans on the library's laws on quiet operations (Deep/Quiet) and on forced tails (StillTail).
-/
namespace Go.Proofs.Ythanghgfakibnaa
open Go.RowKit

section
variable {P : Program} {ops : Array Oper} {md : Region.Mode} {C : World → Prop} {n : Nat} {L : Array Bool → Act → Prop}
/-- So many operations of the head are still to come, all of them quiet in the class C; then L. -/
def headQ (P : Program) (md : Region.Mode) (ops : Array Oper) (C : World → Prop) (n : Nat) (L : Array Bool → Act → Prop) : Nat → Array Bool → Act → Prop
  | 0, done, a => L done a
  | f + 1, done, a => Region.ready md ops done ≠ [] ∧ ∀ i ∈ Region.ready md ops done, i < n ∧ qOp P ops C i (headQ P md ops C n L f (done.setIfInBounds i true)) a
set_option maxRecDepth 3000 in
theorem headQ_any {g : Nat} {Q : Exit → Act → World → Prop} (hL : ∀ done a w, C w → L done a → wpAny P md ops Q g done a w) (f : Nat) :
    ∀ (done : Array Bool) (a : Act) (w : World), C w → headQ P md ops C n L f done a → wpAny P md ops Q (f + g) done a w := by
  induction f with
  | zero => intro done a w hw h; rw [Nat.zero_add]; exact hL _ _ _ hw h
  | succ f ih =>
    intro done a w hw h
    rw [Nat.add_right_comm]
    exact ⟨fun e => absurd e h.1, fun i hi => wpOp_of_qOp hw (fun a' w' hw' h' => ih _ a' w' hw' h') (h.2 i hi).2⟩
set_option maxRecDepth 3000 in
theorem headQ_first {i : Nat} {oi : Oper} {v : Value} (hi : ops[i]? = some oi) (hsel : ∀ (j : Nat) (o : Oper) cs b, ops[j]? = some o → o.op ≠ .select cs b)
    (hs : Region.sinkB md ops n = true) (hc : Region.chainB md ops n = true) (hn : n < ops.size) (hin : i < n) (hdone : ∀ done a, L done a → ∀ j ∈ Region.ready md ops done, n ≤ j) (f : Nat) :
    ∀ (done : Array Bool) (a : Act), HeadInv md ops n done →
      (∀ j oj, ops[j]? = some oj → j ≠ i → done.getD j true = false → (∀ e ∈ oj.after, Region.binds md e = true → e.on ≠ i) → oi.apart ops oj = true) →
      i ∈ Region.ready md ops done → YieldsIn P ops C oi v a → headQ P md ops C n L f (done.setIfInBounds i true) (a.put oi.dst v) → headQ P md ops C n L (f + 1) done a := by
  induction f with
  | zero =>
    intro done a inv _ hr hy H
    refine ⟨fun e => (by rw [e] at hr; cases hr), fun j hj => ?_⟩
    have hjn : j < n := Nat.lt_of_not_le fun h => tail_waits hs hc hn inv _ i rfl hin (mem_ready.1 hr).1 j h hj
    by_cases e : j = i
    · subst e; exact ⟨hjn, hy.qOp hi H⟩
    · exact absurd (hdone _ _ H j (ready_mono hj e)) (by omega)
  | succ f ih =>
    intro done a inv hfree hr hy H
    have hun := (mem_ready.1 hr).1
    refine ⟨fun e => (by rw [e] at hr; cases hr), fun j hj => ?_⟩
    have hjn : j < n := Nat.lt_of_not_le fun h => tail_waits hs hc hn inv _ i rfl hin hun j h hj
    by_cases e : j = i
    · subst e; exact ⟨hjn, hy.qOp hi H⟩
    · refine ⟨hjn, ?_⟩
      obtain ⟨hjun, oj, hoj, hall⟩ := mem_ready.1 hj
      have hnot : ∀ d ∈ oj.after, Region.binds md d = true → d.on ≠ i := fun d hd hb he => by
        have h1 := hall d hd hb
        rw [he, getD_both hun] at h1
        cases h1
      have h2 := qOp_put hoj (hfree j oj hoj e hjun hnot) (fun cs b => hsel i oi cs b hi) (fun cs b => hsel j oj cs b hoj) hy (H.2 j (ready_mono hj e)).2
      refine qOp_mono (fun a' h3 => ih (done.setIfInBounds j true) a' (inv.set hj hjn) (fun k ok hk hki hu hno => ?_) (ready_mono hr (Ne.symm e)) h3.1 ?_) h2
      · refine hfree k ok hk hki ?_ hno
        by_cases hjk : j = k
        · subst hjk; exact hjun
        · rwa [getD_set_ne true hjk] at hu
      · rw [Array.setIfInBounds_comm _ _ e]
        exact h3.2
set_option maxRecDepth 3000 in
theorem headQ_lex {g : Nat} {Lq : Act → Prop} (hsel : Region.noSelect ops = true) (hs : Region.sinkB md ops n = true) (hc : Region.chainB md ops n = true) (hn : n < ops.size) (l : List Oper) :
    ∀ (k : Nat) (done : Array Bool) (a : Act), (∀ j, j < l.length → l[j]? = ops[k + j]?) → k + l.length = n → HeadInv md ops n done →
      Region.lexHead md ops g l.length k done = true → wpQuiet P ops C Lq l a → headQ P md ops C n (fun d' a' => Region.seqB md ops g n d' = true ∧ Lq a') l.length done a := by
  induction l with
  | nil =>
    intro k done a _ hk _ hB h
    obtain rfl : k = n := by simpa using hk
    exact ⟨by simpa [Region.lexHead] using hB, h⟩
  | cons o l ih =>
    intro k done a hl hk inv hB h
    have h0 : ops[k]? = some o := by simpa using (hl 0 (by simp)).symm
    simp only [List.length_cons, Region.lexHead, Bool.and_eq_true] at hB hk
    have hkn : k < n := by omega
    have hr : k ∈ Region.ready md ops done := by simpa using hB.1.1
    have hq : qOp P ops C k (wpQuiet P ops C Lq l) a := by unfold qOp; simp only [h0]; exact h
    obtain ⟨v, hy, hK⟩ := yieldsIn_of_qOp h0 hq
    refine headQ_first h0 (Region.noSelect_spec hsel) hs hc hn hkn (fun _ _ hL => seqB_ready hL.1) l.length done a inv (Region.free_spec h0 hB.1.2) hr hy ?_
    refine ih (k + 1) _ _ (fun j hj => ?_) (by omega) (inv.set hr hkn) hB.2 hK
    have := hl (j + 1) (by simp; omega)
    rw [List.getElem?_cons_succ] at this
    rw [this]
    congr 1
    omega
end

set_option maxRecDepth 3000 in
/-- The head in a world that may grow; the tail (from operation n on) one by one. -/
theorem region_tail {P : Program} {id : Nat} {Q : Exit → Act → World → Prop} {a : Act} {w : World} {l : List Oper} (n : Nat) (hm : P.follows .mixedOrders = true) (hB : Region.lexTailB .any l.toArray n = true)
    (h : wpQuiet P l.toArray (fun w' => ∃ m, w' = more w m) (fun a' => ∀ w', (∃ m, w' = more w m) → wpList P l.toArray Q (l.drop n) a' w') (l.take n) a) : (Code.region id l.toArray true).wp P Q a w := by
  simp only [Region.lexTailB, Bool.and_eq_true, decide_eq_true_eq] at hB
  obtain ⟨⟨⟨⟨hsel, hn⟩, hs⟩, hc⟩, hlex⟩ := hB
  have hn' : n < l.length := by simpa using hn
  have ht : (l.take n).length = n := by simp; omega
  have hd : (l.drop n).length = l.toArray.size - n := by simp
  have H := headQ_lex (md := .any) (g := l.toArray.size - n) hsel hs hc hn (l.take n) 0 (Array.replicate l.toArray.size false) a
    (fun j hj => by
      rw [ht] at hj
      simp [hj])
    (by simpa using ht)
    ⟨by simp, fun j oj _ hl => (by rw [getD_replicate_false] at hl; cases hl), fun t _ ht => getD_in (by simpa using ht) (getD_replicate_false _ _)⟩ (by rw [ht]; exact hlex) h
  refine wp_region_any hm ?_
  have H2 := headQ_any (Q := Q) (g := l.toArray.size - n) (fun done a' w' hw' hL => by
    have := wpAny_of_seq (md := .any) (Q' := Q) (l.drop n) n done a' w' (fun j => by simp [List.getElem?_drop]) (by rw [hd]; exact hL.1) (hL.2 w' hw')
    rwa [hd] at this) _ _ _ { w with drawn := w.drawn + 1 } ⟨⟨#[], w.drawn + 1⟩, by simp [more]⟩ H
  rw [ht, show n + (l.toArray.size - n) = l.toArray.size by omega] at H2
  exact H2

end Go.Proofs.Ythanghgfakibnaa

/-
  Splices: the walks of Check and done.
-/
namespace Go.Proofs.Ythanghgfakibnaa
open Go.RowKit

/-- May a splice be? -/
def spCheckV (at_ del : Int) (ins : List (List UInt8)) : Int := if min at_ del < 0 then 2 else lcheckV ins
/-- What comes of a splice: the lines, and the error. -/
def doneV (d : List (List UInt8)) (at_ del : Int) (ins : List (List UInt8)) : List (List UInt8) × Int :=
  if spCheckV at_ del ins ≠ 0 then ([], spCheckV at_ del ins) else
  if (d.length : Int) < at_ ∨ (d.length : Int) - at_ < del then ([], 2) else
  if 2000 < (d.length : Int) - del + ins.length then ([], 3) else
  (d.take at_.toNat ++ (ins ++ d.drop (at_ + del).toNat), 0)
set_option maxRecDepth 3000 in
theorem lcheckV_range (d : List (List UInt8)) : lcheckV d = 0 ∨ lcheckV d = 2 ∨ lcheckV d = 3 := by
  unfold lcheckV; split
  · simp
  · split <;> simp

set_option maxRecDepth 3000 in
set_option maxHeartbeats 1000000 in
theorem spCheck_any (at_ del : Int) (A : Option Addr) (cap : Nat) (ins : List (List UInt8)) (w : World) (hA : Rd w 1 A ins.length (lv ins)) (hd : ins.length ≤ 9223372036854775807) (hl : ∀ s ∈ ins, s.length ≤ 9223372036854775807) :
    Calls Try.prog 74 #[.agg #[.int .i64 at_, .int .i64 del, .slice A ins.length cap]] w fun e w' => e = .returned (.int .i64 (spCheckV at_ del ins)) ∧ Grows w w' := by
  have HL := Lib.hid hl
  clear hl
  by_cases h : min at_ del < 0
  · have HV : Hid (spCheckV at_ del ins = 2) := Lib.hid (by simp [spCheckV, h])
    go_enter Try.func74, Try.ntmps74
    go_wp2_with fail
    go_ret
    exact ⟨by rw [HV.out]; rfl, (Grows.refl _).alloc _⟩
  · have HV : Hid (spCheckV at_ del ins = lcheckV ins) := Lib.hid (by simp only [spCheckV, h, if_false])
    go_enter Try.func74, Try.ntmps74
    go_wp2_with fail
    (with_reducible refine (lcheck_any A cap ins _ (by exact hA.grows ((Grows.refl _).alloc _)) hd HL.out).mono ?_)
    rintro e w' ⟨rfl, rfl⟩
    go_wp2_with fail
    go_ret
    exact ⟨by rw [HV.out]; rfl, (Grows.refl _).alloc _⟩

set_option maxRecDepth 3000 in
theorem Rd.take_ {w : World} {A : Option Addr} {d : List (List UInt8)} (h : Rd w 1 A d.length (lv d)) (k : Nat) : Rd w 1 A (d.take k).length (lv (d.take k)) := by
  refine ⟨by simp [lv], fun hn => ?_⟩
  obtain ⟨b, o, e, hb, hc⟩ := h.2 (by simp at hn; omega)
  refine ⟨b, o, e, hb, fun j u hu => hc j u ?_⟩
  simp only [lv, List.map_take, List.getElem?_take] at hu ⊢
  split at hu
  · exact hu
  · cases hu
set_option maxRecDepth 3000 in
theorem Rd.drop_ {w : World} {b o : Nat} {d : List (List UInt8)} (h : Rd w 1 (some ⟨b, o, none⟩) d.length (lv d)) (k : Nat) : Rd w 1 (some ⟨b, o + k, none⟩) (d.drop k).length (lv (d.drop k)) := by
  refine ⟨by simp [lv], fun hn => ?_⟩
  obtain ⟨b', o', e, hb, hc⟩ := h.2 (by simp at hn; omega)
  injection e with e
  injection e with e1 e2
  subst e1 e2
  refine ⟨b, o + k, rfl, hb, fun j u hu => ?_⟩
  have := hc (k + j) u (by simpa [lv, List.map_drop, List.getElem?_drop] using hu)
  rwa [← Nat.add_assoc] at this
set_option maxRecDepth 3000 in
theorem Rd.none_ {w : World} {A : Option Addr} {d : List (List UInt8)} (h : d.length = 0) : Rd w 1 A d.length (lv d) := by
  obtain rfl := List.eq_nil_of_length_eq_zero h
  exact Rd.nil_

/-- What done answers: nothing and an error, or new memory. -/
def DonePost (x : List (List UInt8) × Int) (w : World) (e : Ending) (w' : World) : Prop := ∃ v, e = .returned (.tuple #[v, .int .i64 x.2]) ∧ w'.ownsRow w.heap.size 9 1 v x.1.length (lv x.1) ∧ Grows w w'

set_option maxRecDepth 3000 in
set_option maxHeartbeats 2000000 in
theorem done_no (A I : Option Addr) (cap ci : Nat) (d ins : List (List UInt8)) (at_ del : Int) (w : World) (hI : Rd w 1 I ins.length (lv ins)) (hd : d.length ≤ 1000000) (hi : ins.length ≤ 1000000) (hl : ∀ s ∈ ins, s.length ≤ 9223372036854775807) (ha : I64 at_) (hde : I64 del)
    (hno : (doneV d at_ del ins).2 ≠ 0) :
    Calls Try.prog 50 #[.slice A d.length cap, .agg #[.int .i64 at_, .int .i64 del, .slice I ins.length ci]] w (DonePost (doneV d at_ del ins) w) := by
  have HL := Lib.hid hl
  clear hl
  unfold I64 at ha hde
  by_cases h1 : spCheckV at_ del ins ≠ 0
  · have HV : Hid (doneV d at_ del ins = ([], spCheckV at_ del ins)) := Lib.hid (by simp [doneV, h1])
    have h1' : (spCheckV at_ del ins != 0) = true := by simpa using h1
    clear h1 hno
    go_enter Try.func50, Try.ntmps50
    go_wp2_with fail
    (with_reducible refine (spCheck_any at_ del I ci ins _ (by exact hI.grows ((Grows.refl _).alloc _)) (by omega) HL.out).mono ?_)
    rintro e w' ⟨rfl, m1, rfl⟩
    go_wp2_with fail
    go_ret2
    rw [HV.out]
    exact ⟨_, rfl, World.ownsRow_nil _ _ _ _, ((Grows.refl _).alloc _).more _⟩
  · have h1' : spCheckV at_ del ins = 0 := by simpa using h1
    have hmin : ¬ min at_ del < 0 := by
      intro h; simp [spCheckV, h] at h1'
    have ha0 : 0 ≤ at_ := by omega
    have hd0 : 0 ≤ del := by omega
    have HC := Lib.hid h1'
    by_cases h2 : (d.length : Int) < at_ ∨ (d.length : Int) - at_ < del
    · have HV : Hid (doneV d at_ del ins = ([], 2)) := Lib.hid (by simp only [doneV, h1', h2, if_true, ne_eq, not_true_eq_false, if_false])
      clear h1 h1' hno
      have hor : (d.length : Int) < at_ ∨ (at_ ≤ (d.length : Int) ∧ (d.length : Int) - at_ < del) := by omega
      rcases hor with hor | ⟨hor, hor2⟩
      all_goals
        go_enter Try.func50, Try.ntmps50
        go_wp2_with fail
        (with_reducible refine (spCheck_any at_ del I ci ins _ (by exact hI.grows ((Grows.refl _).alloc _)) (by omega) HL.out).mono ?_)
        rw [HC.out]
        rintro e w' ⟨rfl, m1, rfl⟩
        go_wp2_with fail
        go_ret2
        rw [HV.out]
        exact ⟨_, rfl, World.ownsRow_nil _ _ _ _, ((Grows.refl _).alloc _).more _⟩
    · have h3 : 2000 < (d.length : Int) - del + ins.length := by
        apply Classical.byContradiction
        intro h3
        exact hno (by simp only [doneV, h1', h2, h3, ne_eq, not_true_eq_false, if_false])
      have HV : Hid (doneV d at_ del ins = ([], 3)) := Lib.hid (by simp only [doneV, h1', h2, h3, if_true, ne_eq, not_true_eq_false, if_false])
      have h4 : at_ ≤ (d.length : Int) := by omega
      have h5 : del ≤ (d.length : Int) - at_ := by omega
      clear h1 h1' hno h2
      go_enter Try.func50, Try.ntmps50
      go_wp2_with fail
      (with_reducible refine (spCheck_any at_ del I ci ins _ (by exact hI.grows ((Grows.refl _).alloc _)) (by omega) HL.out).mono ?_)
      rw [HC.out]
      rintro e w' ⟨rfl, m1, rfl⟩
      go_wp2_with fail
      go_ret2
      rw [HV.out]
      exact ⟨_, rfl, World.ownsRow_nil _ _ _ _, ((Grows.refl _).alloc _).more _⟩
end Go.Proofs.Ythanghgfakibnaa

/-
  Splices: done on a splice that may be.
-/
namespace Go.Proofs.Ythanghgfakibnaa
open Go.RowKit

set_option maxRecDepth 3000 in
/-- Concat of three parts that were laid in a block of their own. -/
theorem concat3 (A1 A2 A3 : Option Addr) (c1 c2 c3 n1 n2 n3 : Nat) (d1 d2 d3 : List (List UInt8)) (w : World) (g ty : Nat) (hg : g = w.heap.size) (h1 : n1 = d1.length) (h2 : n2 = d2.length) (h3 : n3 = d3.length)
    (r1 : (Part.mk A1 c1 d1).ok w) (r2 : (Part.mk A2 c2 d2).ok w) (r3 : (Part.mk A3 c3 d3).ok w) (hl : d1.length + (d2.length + d3.length) ≤ 8000000000000) :
    Calls Try.prog 75 #[.slice (some ⟨g, 0, none⟩) 3 3] (w.alloc (.cells #[.slice A1 n1 c1, .slice A2 n2 c2, .slice A3 n3 c3] ty)) (NewLines (d1 ++ (d2 ++ d3)) (w.alloc (.cells #[.slice A1 n1 c1, .slice A2 n2 c2, .slice A3 n3 c3] ty))) := by
  subst hg h1 h2 h3
  have hgr : Grows w (w.alloc (.cells #[.slice A1 d1.length c1, .slice A2 d2.length c2, .slice A3 d3.length c3] ty)) := (Grows.refl _).alloc _
  have := concat_any w.heap.size [⟨A1, c1, d1⟩, ⟨A2, c2, d2⟩, ⟨A3, c3, d3⟩] 3 3 (w.alloc (.cells #[.slice A1 d1.length c1, .slice A2 d2.length c2, .slice A3 d3.length c3] ty)) rfl ?_ ?_ ?_ (by simp)
  · simpa [partsL] using this
  · refine ⟨rfl, fun _ => ⟨w.heap.size, 0, rfl, ?_, fun j u hu => ?_⟩⟩
    · simp [go_sem]
    · simp only [List.map_cons, List.map_nil, Part.val] at hu
      match j, hu with
      | 0, hu => simp at hu; subst hu; simp [go_sem]
      | 1, hu => simp at hu; subst hu; simp [go_sem]
      | 2, hu => simp at hu; subst hu; simp [go_sem]
      | k + 3, hu => simp at hu
  · intro p hp
    simp only [List.mem_cons, List.not_mem_nil, or_false] at hp
    rcases hp with rfl | rfl | rfl
    · exact Part.grows r1 hgr
    · exact Part.grows r2 hgr
    · exact Part.grows r3 hgr
  · simpa [partsL] using hl

set_option maxRecDepth 3000 in
set_option maxHeartbeats 2000000 in
theorem done_yes1 (b o : Nat) (I : Option Addr) (cap ci : Nat) (d ins : List (List UInt8)) (a_ del : Nat) (w : World) (hA : Rd w 1 (some ⟨b, o, none⟩) d.length (lv d)) (hI : Rd w 1 I ins.length (lv ins)) (hcap : d.length ≤ cap) (hc63 : cap ≤ 9223372036854775807) (hd : d.length ≤ 1000000) (hi : ins.length ≤ 1000000) (hl : ∀ s ∈ ins, s.length ≤ 9223372036854775807) (hnil : I = none → ins.length = 0 ∧ ci = 0) (h1 : spCheckV a_ del ins = 0) (h2 : a_ + del ≤ d.length) (h3 : ¬ 2000 < (d.length : Int) - del + ins.length) (h4 : a_ + del < cap) :
    Calls Try.prog 50 #[.slice (some ⟨b, o, none⟩) d.length cap, .agg #[.int .i64 a_, .int .i64 del, .slice I ins.length ci]] w (DonePost (d.take a_ ++ (ins ++ d.drop (a_ + del)), 0) w) := by
  have HL := Lib.hid hl
  clear hl
  have HC := Lib.hid h1
  clear h1
  go_enter Try.func50, Try.ntmps50
  go_wp2_with fail
  (with_reducible refine (spCheck_any _ _ I ci ins _ (by exact hI.grows ((Grows.refl _).alloc _)) (by omega) HL.out).mono ?_)
  rw [HC.out]
  rintro e w' ⟨rfl, m1, rfl⟩
  go_wp2_with fail
  go_upto_region 9 with fail
  refine region_tail 13 (by kernel_rfl) (by kernel_rfl) ?_
  simp only [List.take_succ_cons, List.take_zero, List.drop_succ_cons, List.drop_zero]
  repeat (go_big_quiet_step (fail))
  refine wpQuiet_nil ?_
  intro _ hw'
  obtain ⟨m2, rfl⟩ := hw'
  go_wp2_with fail
  have hg : Grows w (more (more (w.alloc (.cells #[.int .i64 a_, .int .i64 del, .slice I ins.length ci] 24)) m1) m2) := (((Grows.refl _).alloc _).more _).more _
  (with_reducible refine (concat3 _ _ _ _ _ _ _ _ _ (d.take a_) ins (d.drop (a_ + del)) _ _ _ ?_ ?_ ?_ ?_ ?_ ?_ ?_ ?_).mono ?_)
  · simp [go_sem]
  · simp; omega
  · rfl
  · simp
  · exact ⟨(hA.grows hg).take_ _, fun h => by cases h⟩
  · exact ⟨hI.grows hg, hnil⟩
  · exact ⟨(hA.grows hg).drop_ _, fun h => by cases h⟩
  · simp; omega
  rintro e w3 ⟨v, rfl, hown, m3, rfl⟩
  go_wp2_with fail
  go_ret2
  refine ⟨_, rfl, own_le hown ?_, ?_⟩
  · simp [go_sem]; try omega
  · repeat' first | exact Grows.refl _ | refine Grows.more ?_ _ | refine Grows.alloc ?_ _

set_option maxRecDepth 3000 in
set_option maxHeartbeats 2000000 in
theorem done_yes2 (b o : Nat) (I : Option Addr) (cap ci : Nat) (d ins : List (List UInt8)) (a_ del : Nat) (w : World) (hA : Rd w 1 (some ⟨b, o, none⟩) d.length (lv d)) (hI : Rd w 1 I ins.length (lv ins)) (hcap : d.length ≤ cap) (hc63 : cap ≤ 9223372036854775807) (hd : d.length ≤ 1000000) (hi : ins.length ≤ 1000000) (hl : ∀ s ∈ ins, s.length ≤ 9223372036854775807) (hnil : I = none → ins.length = 0 ∧ ci = 0) (h1 : spCheckV a_ del ins = 0) (h2 : a_ + del ≤ d.length) (h3 : ¬ 2000 < (d.length : Int) - del + ins.length) (h4 : a_ + del = cap) :
    Calls Try.prog 50 #[.slice (some ⟨b, o, none⟩) d.length cap, .agg #[.int .i64 a_, .int .i64 del, .slice I ins.length ci]] w (DonePost (d.take a_ ++ (ins ++ d.drop (a_ + del)), 0) w) := by
  have HL := Lib.hid hl
  clear hl
  have HC := Lib.hid h1
  clear h1
  go_enter Try.func50, Try.ntmps50
  go_wp2_with fail
  (with_reducible refine (spCheck_any _ _ I ci ins _ (by exact hI.grows ((Grows.refl _).alloc _)) (by omega) HL.out).mono ?_)
  rw [HC.out]
  rintro e w' ⟨rfl, m1, rfl⟩
  go_wp2_with fail
  go_upto_region 9 with fail
  refine region_tail 13 (by kernel_rfl) (by kernel_rfl) ?_
  simp only [List.take_succ_cons, List.take_zero, List.drop_succ_cons, List.drop_zero]
  repeat (go_big_quiet_step (fail))
  refine wpQuiet_nil ?_
  intro _ hw'
  obtain ⟨m2, rfl⟩ := hw'
  go_wp2_with fail
  have hg : Grows w (more (more (w.alloc (.cells #[.int .i64 a_, .int .i64 del, .slice I ins.length ci] 24)) m1) m2) := (((Grows.refl _).alloc _).more _).more _
  (with_reducible refine (concat3 _ _ _ _ _ _ _ _ _ (d.take a_) ins (d.drop (a_ + del)) _ _ _ ?_ ?_ ?_ ?_ ?_ ?_ ?_ ?_).mono ?_)
  · simp [go_sem]
  · simp; omega
  · rfl
  · simp; omega
  · exact ⟨(hA.grows hg).take_ _, fun h => by cases h⟩
  · exact ⟨hI.grows hg, hnil⟩
  · exact ⟨Rd.none_ (by simp; omega), fun h => by cases h⟩
  · simp; omega
  rintro e w3 ⟨v, rfl, hown, m3, rfl⟩
  go_wp2_with fail
  go_ret2
  refine ⟨_, rfl, own_le hown ?_, ?_⟩
  · simp [go_sem]; try omega
  · repeat' first | exact Grows.refl _ | refine Grows.more ?_ _ | refine Grows.alloc ?_ _

set_option maxRecDepth 3000 in
set_option maxHeartbeats 2000000 in
theorem done_yes0 (I : Option Addr) (ci : Nat) (ins : List (List UInt8)) (w : World) (hI : Rd w 1 I ins.length (lv ins)) (hi : ins.length ≤ 1000000) (hl : ∀ s ∈ ins, s.length ≤ 9223372036854775807) (hnil : I = none → ins.length = 0 ∧ ci = 0) (h1 : spCheckV 0 0 ins = 0) (h3 : ¬ 2000 < (ins.length : Int)) :
    Calls Try.prog 50 #[.slice none 0 0, .agg #[.int .i64 0, .int .i64 0, .slice I ins.length ci]] w (DonePost (ins, 0) w) := by
  have HL := Lib.hid hl
  clear hl
  have HC := Lib.hid h1
  clear h1
  go_enter Try.func50, Try.ntmps50
  go_wp2_with fail
  (with_reducible refine (spCheck_any 0 0 I ci ins _ (by exact hI.grows ((Grows.refl _).alloc _)) (by omega) HL.out).mono ?_)
  rw [HC.out]
  rintro e w' ⟨rfl, m1, rfl⟩
  go_wp2_with fail
  go_upto_region 9 with fail
  refine region_tail 13 (by kernel_rfl) (by kernel_rfl) ?_
  simp only [List.take_succ_cons, List.take_zero, List.drop_succ_cons, List.drop_zero]
  repeat (go_big_quiet_step (fail))
  refine wpQuiet_nil ?_
  intro _ hw'
  obtain ⟨m2, rfl⟩ := hw'
  go_wp2_with fail
  have hg : Grows w (more (more (w.alloc (.cells #[.int .i64 0, .int .i64 0, .slice I ins.length ci] 24)) m1) m2) := (((Grows.refl _).alloc _).more _).more _
  (with_reducible refine (concat3 _ _ _ _ _ _ _ _ _ [] ins [] _ _ _ ?_ ?_ ?_ ?_ ?_ ?_ ?_ ?_).mono ?_)
  · simp [go_sem]
  · rfl
  · rfl
  · rfl
  · exact ⟨Rd.nil_, fun _ => ⟨rfl, rfl⟩⟩
  · exact ⟨hI.grows hg, hnil⟩
  · exact ⟨Rd.nil_, fun _ => ⟨rfl, rfl⟩⟩
  · simp; omega
  rw [List.nil_append, List.append_nil]
  rintro e w3 ⟨v, rfl, hown, m3, rfl⟩
  go_wp2_with fail
  go_ret2
  refine ⟨_, rfl, own_le hown ?_, ?_⟩
  · simp [go_sem]; try omega
  · repeat' first | exact Grows.refl _ | refine Grows.more ?_ _ | refine Grows.alloc ?_ _

set_option maxRecDepth 3000 in
theorem done_any (A I : Option Addr) (cap ci : Nat) (d ins : List (List UInt8)) (at_ del : Int) (w : World) (hA : Rd w 1 A d.length (lv d)) (hsl : A = none → d.length = 0 ∧ cap = 0) (hso : ∀ a, A = some a → a.spot = none) (hcap : d.length ≤ cap) (hc63 : cap ≤ 9223372036854775807) (hI : Rd w 1 I ins.length (lv ins)) (hnil : I = none → ins.length = 0 ∧ ci = 0) (hd : d.length ≤ 1000000) (hi : ins.length ≤ 1000000) (hl : ∀ s ∈ ins, s.length ≤ 9223372036854775807) (ha : I64 at_) (hde : I64 del) :
    Calls Try.prog 50 #[.slice A d.length cap, .agg #[.int .i64 at_, .int .i64 del, .slice I ins.length ci]] w (DonePost (doneV d at_ del ins) w) := by
  by_cases hno : (doneV d at_ del ins).2 ≠ 0
  · exact done_no A I cap ci d ins at_ del w hI hd hi hl ha hde hno
  · unfold I64 at ha hde
    have h1 : spCheckV at_ del ins = 0 := Classical.byContradiction fun h => hno (by simp [doneV, h])
    have h2 : ¬ ((d.length : Int) < at_ ∨ (d.length : Int) - at_ < del) := fun h => hno (by simp only [doneV, h1, h, if_true, ne_eq, not_true_eq_false, if_false]; decide)
    have h3 : ¬ 2000 < (d.length : Int) - del + ins.length := fun h => hno (by simp only [doneV, h1, h2, h, if_true, ne_eq, not_true_eq_false, if_false]; decide)
    have hV : doneV d at_ del ins = (d.take at_.toNat ++ (ins ++ d.drop (at_ + del).toNat), 0) := by simp only [doneV, h1, h2, h3, ne_eq, not_true_eq_false, if_false]
    have hmin : ¬ min at_ del < 0 := by
      intro h; simp [spCheckV, h] at h1
    rw [hV]
    obtain ⟨a_, rfl⟩ : ∃ n : Nat, at_ = n := ⟨at_.toNat, by omega⟩
    obtain ⟨e_, rfl⟩ : ∃ n : Nat, del = n := ⟨del.toNat, by omega⟩
    have e1 : ((a_ : Int)).toNat = a_ := by omega
    have e2 : ((a_ : Int) + (e_ : Int)).toNat = a_ + e_ := by omega
    rw [e1, e2]
    match A, hA, hsl, hso with
    | none, _, hsl, _ =>
      obtain ⟨hz, rfl⟩ := hsl rfl
      obtain rfl := List.eq_nil_of_length_eq_zero hz
      simp only [List.length_nil] at h2 h3
      obtain rfl : a_ = 0 := by omega
      obtain rfl : e_ = 0 := by omega
      simpa using done_yes0 I ci ins w hI hi hl hnil (by simpa using h1) (by omega)
    | some ⟨b, o, s⟩, hA, _, hso =>
      obtain rfl : s = none := hso _ rfl
      by_cases h4 : a_ + e_ < cap
      · exact done_yes1 b o I cap ci d ins a_ e_ w hA hI hcap hc63 hd hi hl hnil h1 (by omega) h3 h4
      · exact done_yes2 b o I cap ci d ins a_ e_ w hA hI hcap hc63 hd hi hl hnil h1 (by omega) h3 (by omega)
end Go.Proofs.Ythanghgfakibnaa
