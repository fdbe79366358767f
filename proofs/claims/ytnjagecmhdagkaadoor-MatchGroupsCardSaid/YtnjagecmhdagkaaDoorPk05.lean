/-
  Several texts of the proof: Tail, Sets, Class, ClsIn, ClsPlain.
-/
import Derived.Test.YtnjagecmhdagkaaDoorPk00
import Derived.StillTail
import Derived.Test.YtnjagecmhdagkaaDoorPk04
import Derived.Deep.LoopGhost
import Derived.Deep.DeepCutAuto
import Derived.Test.YtnjagecmhdagkaaDoorPk01
import Derived.Lib.IndexMore
set_option linter.unusedSimpArgs false
set_option linter.unusedVariables false
/-
  A region that draws its order: operations that read, or call what only lays new blocks, come first, in whatever order; behind them a row of operations whose order is forced (an alloc, a store, an append).
  The law: one walk in the text's order serves every order. It leans on the library's laws on quiet operations (Deep/Quiet) and on forced tails (StillTail).
-/
namespace Go.Proofs.YtnjagecmhdagkaaDoor
open Go.RowKit

section
variable {P : Program} {ops : Array Oper} {md : Region.Mode} {C : World → Prop} {n : Nat} {L : Array Bool → Act → Prop}
/-- So many operations of the head are still to come, all of them quiet in the class C; then L. -/
def headQ (P : Program) (md : Region.Mode) (ops : Array Oper) (C : World → Prop) (n : Nat) (L : Array Bool → Act → Prop) : Nat → Array Bool → Act → Prop
  | 0, done, a => L done a
  | f + 1, done, a => Region.ready md ops done ≠ [] ∧ ∀ i ∈ Region.ready md ops done, i < n ∧ qOp P ops C i (headQ P md ops C n L f (done.setIfInBounds i true)) a
set_option maxRecDepth 3000 in
theorem headQ_any {g : Nat} {Q : Exit → Act → World → Prop} (hL : ∀ done a w, C w → L done a → wpAny P md ops Q g done a w) (f : Nat) :
    ∀ (done : Array Bool) (a : Act) (w : World), C w → headQ P md ops C n L f done a → wpAny P md ops Q (f + g) done a w := by
  induction f with
  | zero => intro done a w hw h; rw [Nat.zero_add]; exact hL _ _ _ hw h
  | succ f ih =>
    intro done a w hw h
    rw [Nat.add_right_comm]
    exact ⟨fun e => absurd e h.1, fun i hi => wpOp_of_qOp hw (fun a' w' hw' h' => ih _ a' w' hw' h') (h.2 i hi).2⟩
set_option maxRecDepth 3000 in
theorem headQ_first {i : Nat} {oi : Oper} {v : Value} (hi : ops[i]? = some oi) (hsel : ∀ (j : Nat) (o : Oper) cs b, ops[j]? = some o → o.op ≠ .select cs b)
    (hs : Region.sinkB md ops n = true) (hc : Region.chainB md ops n = true) (hn : n < ops.size) (hin : i < n) (hdone : ∀ done a, L done a → ∀ j ∈ Region.ready md ops done, n ≤ j) (f : Nat) :
    ∀ (done : Array Bool) (a : Act), HeadInv md ops n done →
      (∀ j oj, ops[j]? = some oj → j ≠ i → done.getD j true = false → (∀ e ∈ oj.after, Region.binds md e = true → e.on ≠ i) → oi.apart ops oj = true) →
      i ∈ Region.ready md ops done → YieldsIn P ops C oi v a → headQ P md ops C n L f (done.setIfInBounds i true) (a.put oi.dst v) → headQ P md ops C n L (f + 1) done a := by
  induction f with
  | zero =>
    intro done a inv _ hr hy H
    refine ⟨fun e => (by rw [e] at hr; cases hr), fun j hj => ?_⟩
    have hjn : j < n := Nat.lt_of_not_le fun h => tail_waits hs hc hn inv _ i rfl hin (mem_ready.1 hr).1 j h hj
    by_cases e : j = i
    · subst e; exact ⟨hjn, hy.qOp hi H⟩
    · exact absurd (hdone _ _ H j (ready_mono hj e)) (by omega)
  | succ f ih =>
    intro done a inv hfree hr hy H
    have hun := (mem_ready.1 hr).1
    refine ⟨fun e => (by rw [e] at hr; cases hr), fun j hj => ?_⟩
    have hjn : j < n := Nat.lt_of_not_le fun h => tail_waits hs hc hn inv _ i rfl hin hun j h hj
    by_cases e : j = i
    · subst e; exact ⟨hjn, hy.qOp hi H⟩
    · refine ⟨hjn, ?_⟩
      obtain ⟨hjun, oj, hoj, hall⟩ := mem_ready.1 hj
      have hnot : ∀ d ∈ oj.after, Region.binds md d = true → d.on ≠ i := fun d hd hb he => by
        have h1 := hall d hd hb
        rw [he, getD_both hun] at h1
        cases h1
      have h2 := qOp_put hoj (hfree j oj hoj e hjun hnot) (fun cs b => hsel i oi cs b hi) (fun cs b => hsel j oj cs b hoj) hy (H.2 j (ready_mono hj e)).2
      refine qOp_mono (fun a' h3 => ih (done.setIfInBounds j true) a' (inv.set hj hjn) (fun k ok hk hki hu hno => ?_) (ready_mono hr (Ne.symm e)) h3.1 ?_) h2
      · refine hfree k ok hk hki ?_ hno
        by_cases hjk : j = k
        · subst hjk; exact hjun
        · rwa [getD_set_ne true hjk] at hu
      · rw [Array.setIfInBounds_comm _ _ e]
        exact h3.2
set_option maxRecDepth 3000 in
theorem headQ_lex {g : Nat} {Lq : Act → Prop} (hsel : Region.noSelect ops = true) (hs : Region.sinkB md ops n = true) (hc : Region.chainB md ops n = true) (hn : n < ops.size) (l : List Oper) :
    ∀ (k : Nat) (done : Array Bool) (a : Act), (∀ j, j < l.length → l[j]? = ops[k + j]?) → k + l.length = n → HeadInv md ops n done →
      Region.lexHead md ops g l.length k done = true → wpQuiet P ops C Lq l a → headQ P md ops C n (fun d' a' => Region.seqB md ops g n d' = true ∧ Lq a') l.length done a := by
  induction l with
  | nil =>
    intro k done a _ hk _ hB h
    obtain rfl : k = n := by simpa using hk
    exact ⟨by simpa [Region.lexHead] using hB, h⟩
  | cons o l ih =>
    intro k done a hl hk inv hB h
    have h0 : ops[k]? = some o := by simpa using (hl 0 (by simp)).symm
    simp only [List.length_cons, Region.lexHead, Bool.and_eq_true] at hB hk
    have hkn : k < n := by omega
    have hr : k ∈ Region.ready md ops done := by simpa using hB.1.1
    have hq : qOp P ops C k (wpQuiet P ops C Lq l) a := by unfold qOp; simp only [h0]; exact h
    obtain ⟨v, hy, hK⟩ := yieldsIn_of_qOp h0 hq
    refine headQ_first h0 (Region.noSelect_spec hsel) hs hc hn hkn (fun _ _ hL => seqB_ready hL.1) l.length done a inv (Region.free_spec h0 hB.1.2) hr hy ?_
    refine ih (k + 1) _ _ (fun j hj => ?_) (by omega) (inv.set hr hkn) hB.2 hK
    have := hl (j + 1) (by simp; omega)
    rw [List.getElem?_cons_succ] at this
    rw [this]
    congr 1
    omega
end

set_option maxRecDepth 3000 in
/-- The head in a world that may grow; the tail (from operation n on) one by one. -/
theorem region_tail {P : Program} {id : Nat} {Q : Exit → Act → World → Prop} {a : Act} {w : World} {l : List Oper} (n : Nat) (hm : P.follows .mixedOrders = true) (hB : Region.lexTailB .any l.toArray n = true)
    (h : wpQuiet P l.toArray (fun w' => ∃ m, w' = more w m) (fun a' => ∀ w', (∃ m, w' = more w m) → wpList P l.toArray Q (l.drop n) a' w') (l.take n) a) : (Code.region id l.toArray true).wp P Q a w := by
  simp only [Region.lexTailB, Bool.and_eq_true, decide_eq_true_eq] at hB
  obtain ⟨⟨⟨⟨hsel, hn⟩, hs⟩, hc⟩, hlex⟩ := hB
  have hn' : n < l.length := by simpa using hn
  have ht : (l.take n).length = n := by simp; omega
  have hd : (l.drop n).length = l.toArray.size - n := by simp
  have H := headQ_lex (md := .any) (g := l.toArray.size - n) hsel hs hc hn (l.take n) 0 (Array.replicate l.toArray.size false) a
    (fun j hj => by
      rw [ht] at hj
      simp [hj])
    (by simpa using ht)
    ⟨by simp, fun j oj _ hl => (by rw [getD_replicate_false] at hl; cases hl), fun t _ ht => getD_in (by simpa using ht) (getD_replicate_false _ _)⟩ (by rw [ht]; exact hlex) h
  refine wp_region_any hm ?_
  have H2 := headQ_any (Q := Q) (g := l.toArray.size - n) (fun done a' w' hw' hL => by
    have := wpAny_of_seq (md := .any) (Q' := Q) (l.drop n) n done a' w' (fun j => by simp [List.getElem?_drop]) (by rw [hd]; exact hL.1) (hL.2 w' hw')
    rwa [hd] at this) _ _ _ { w with drawn := w.drawn + 1 } ⟨⟨#[], w.drawn + 1⟩, by simp [more]⟩ H
  rw [ht, show n + (l.toArray.size - n) = l.toArray.size by omega] at H2
  exact H2

end Go.Proofs.YtnjagecmhdagkaaDoor

/-
  Classes: sets of bytes as arrays; add, Class.
-/
namespace Go.Proofs.YtnjagecmhdagkaaDoor
open Go.RowKit Go.MapKept

/-- A set of bytes, as an array. -/
def SA (p : Nat → Bool) : Array Value := ((List.range 256).map fun c => Value.bool (p c)).toArray
set_option maxRecDepth 3000 in
@[simp, go_sem] theorem size_SA (p : Nat → Bool) : (SA p).size = 256 := by simp [SA]
set_option maxRecDepth 3000 in
@[go_sem] theorem oneCells_SA (p : Nat → Bool) : OneCells (SA p) := by simp [OneCells, SA, Value.oneCell']
set_option maxRecDepth 3000 in
theorem get_SA (p : Nat → Bool) (i : Nat) (h : i < 256) : (SA p)[i]? = some (.bool (p i)) := by simp [SA, h]
set_option maxRecDepth 3000 in
theorem SA_ext {p q : Nat → Bool} (h : ∀ c, c < 256 → p c = q c) : SA p = SA q := by
  unfold SA
  congr 1
  exact List.map_congr_left fun c hc => by rw [h c (by simpa using hc)]
set_option maxRecDepth 3000 in
theorem set_SA (p : Nat → Bool) (i : Nat) (b : Bool) : (SA p).setIfInBounds i (.bool b) = SA fun c => if c = i then b else p c := by
  apply Array.ext_getElem?
  intro j
  rw [Array.getElem?_setIfInBounds]
  by_cases hj : j < 256
  · rw [get_SA _ _ hj, get_SA _ _ hj]
    by_cases h : i = j
    · subst h; simp [hj]
    · simp [h, Ne.symm h]
  · rw [Array.getElem?_eq_none (by simp; omega), Array.getElem?_eq_none (by simp; omega)]
    by_cases h : i = j
    · subst h; simp [hj]
    · simp [h]
set_option maxRecDepth 3000 in
theorem zero22 (w : World) : (zeroValue 72).run Tryd.prog w = .ok (.agg (SA fun _ => false)) w := by kernel_rfl
attribute [local go_sem ↓] zero22
set_option maxRecDepth 3000 in
theorem byte_conv (k : Nat) (h : k < 256) : IntKind.u8.wrap (k : Int) = k := by
  simp [IntKind.wrap, IntKind.bits, IntKind.signed]; omega

set_option maxRecDepth 3000 in
theorem Turned.ext {w w' : World} {s lo : Nat} {c : Array Value} (h : Turned w s c w') (hs : s < lo) : Ext lo w w' := by
  obtain ⟨m, rfl⟩ := h
  intro b cs t f hb hc
  rw [heap_more _ _ _ (by have := (Array.getElem?_eq_some_iff.1 hc).1; simpa using this)]
  unfold setBlk
  rw [setRow_other w s b c (by omega)]
  exact hc
set_option maxRecDepth 3000 in
/-- A value's telling inside a region that only looks. -/
theorem tells_quiet {lo : Nat} {w wr : World} {m : More} {f : FuncId} {caps : Array Value} {x : Int → Bool} {k : Int} (h : ∀ w' c, Ext lo w w' → 0 ≤ c → c ≤ 255 → Calls Tryd.prog f (#[.int .u8 c] ++ caps) w' fun e w'' => e = .returned (.bool (x c)) ∧ w' = w'') (hx : Ext lo w wr) (h0 : 0 ≤ k) (h1 : k ≤ 255) :
    Calls Tryd.prog f (#[.int .u8 k] ++ caps) (more wr m) fun e w'' => e = .returned (.bool (x k)) ∧ ∃ j, w'' = more wr j :=
  (h _ k (hx.trans ((Grows.of wr m).ext lo)) h0 h1).mono fun e w'' ⟨he, hw⟩ => ⟨he, m, hw.symm⟩
set_option maxRecDepth 100000 in
set_option maxHeartbeats 2000000 in
theorem add_any (s lo : Nat) (p : Nat → Bool) (v : Value) (x : Int → Bool) (w : World) (hb : blk w s = SA p) (hs : s < lo) (hv : Tells lo w v x) :
    Calls Tryd.prog 72 #[.pointer (some ⟨s, 0, none⟩), v] w fun e w' => e = .returned (.tuple #[]) ∧ Turned w s (SA fun c => p c || x c) w' := by
  obtain ⟨f, caps, rfl, hen, hcall⟩ := hv
  have HC := Lib.hid hcall
  clear hcall
  go_enter Tryd.func72, Tryd.ntmps72
  go_wp2_with fail
  go_loopg [4, 5] 256 (fun q _ i wr => ∃ k : Nat, q + k = 256 ∧ i = .int .i64 k ∧ Turned w s (SA fun c => if c < k then p c || x c else p c) wr)
  case atStart => exact ⟨0, by omega, rfl, Turned.refl (by rw [hb]; exact SA_ext fun c _ => by simp) (by simp)⟩
  case round =>
    obtain ⟨k, hq, rfl, hT⟩ := hrel
    have HQ := Lib.hid hq
    have HT := Lib.hid hT
    have hkl : k ≤ 256 := by omega
    clear hq
    by_cases h1 : k < 256
    · have hbk : blk wr s = SA fun c => if c < k then p c || x c else p c := hT.blk hb (by simp)
      have ec := Blk.cell hbk (by simp) k
      rw [get_SA _ _ h1] at ec
      simp only [Nat.lt_irrefl, if_false] at ec
      have hf := Blk.free hbk (by simp) k
      have hi := Blk.inHeap hbk (by simp)
      have hwr := byte_conv k h1
      have HST := fun b => Lib.hid (Blk.set hbk (by simp) k (.bool b))
      clear hT
      have hx := HT.out.ext hs
      have HX := Lib.hid hx
      have hen' : ∀ (args : Array Value) (w : World), (callFunc f args).run Tryd.prog w = .ok (.enter f args) w := hen
      clear hx
      have HS : ∀ b, (p k || x k) = b → Hid (∀ m, Turned w s (SA fun c => if c < k + 1 then p c || x c else p c) (more (wr.setCell ⟨s, k, none⟩ (.bool b)) m)) := fun b hb2 => Lib.hid fun m => by
        rw [(HST b).out, set_SA]
        obtain ⟨m0, rfl⟩ := HT.out
        have hi0 : InHeap s w := Blk.inHeap hb (by simp)
        rw [setBlk_more _ _ _ _ ((inHeap_setBlk s).2 hi0), Blk.set_set]
        refine Turned.more ?_ m
        have e : (SA fun c => if c = k then b else if c < k then p c || x c else p c) = SA fun c => if c < k + 1 then p c || x c else p c := SA_ext fun c _ => by
          by_cases h : c = k
          · subst h; simp [hb2]
          · by_cases h2 : c < k
            · rw [if_neg h, if_pos h2, if_pos (by omega)]
            · rw [if_neg h, if_neg h2, if_neg (by omega)]
        rw [e]
        exact Turned.mk _ _ _ m0
      clear HST
      cases hpk : p k with
      | true =>
        rw [hpk] at ec
        have HS2 := HS true (by rw [hpk]; rfl)
        clear HS hpk
        go_upto_region 3 with fail
        refine region_tail 15 (by kernel_rfl) (by kernel_rfl) ?_
        simp only [List.take_succ_cons, List.take_zero, List.drop_succ_cons, List.drop_zero]
        repeat (go_big_quiet_step (fail))
        refine wpQuiet_nil ?_
        intro _ hw'
        obtain ⟨m, rfl⟩ := hw'
        go_wp2_with fail
        go_roundg (gk - 1)
        case measure => have := HQ.out; omega
        case rel => exact ⟨k + 1, by have := HQ.out; omega, by go_num, HS2.out m⟩
      | false =>
        rw [hpk] at ec
        have HS2 := HS (x k) (by rw [hpk]; rfl)
        clear HS hpk
        go_upto_region 3 with fail
        refine region_tail 15 (by kernel_rfl) (by kernel_rfl) ?_
        simp only [List.take_succ_cons, List.take_zero, List.drop_succ_cons, List.drop_zero]
        repeat (go_big_quiet_step (first | exact tells_quiet HC.out HX.out (by omega) (by omega)))
        refine wpQuiet_nil ?_
        intro _ hw'
        obtain ⟨m, rfl⟩ := hw'
        go_wp2_with fail
        go_roundg (gk - 1)
        case measure => have := HQ.out; omega
        case rel => exact ⟨k + 1, by have := HQ.out; omega, by go_num, HS2.out m⟩
    · have e : (SA fun c => if c < k then p c || x c else p c) = SA fun c => p c || x c := SA_ext fun c hc => by rw [if_pos (by omega)]
      have HE := Lib.hid e
      clear e
      go_wp2_with fail
      go_end0
      exact ⟨rfl, by rw [← HE.out]; exact HT.out⟩
end Go.Proofs.YtnjagecmhdagkaaDoor

/-
  Classes: Class, walked.
-/
namespace Go.Proofs.YtnjagecmhdagkaaDoor
open Go.RowKit Go.MapKept
attribute [local go_sem ↓] zero22
/-- The bytes of a class, and whether there is one. -/
def classP (k : ByteArray) : Nat → Bool := fun c => match clsOf k with
  | some (_, p) => p c
  | none => false
set_option maxRecDepth 3000 in
theorem zeroIs (w : World) : (zeroValue 129).run Tryd.prog w = .ok .nilFunc w := by kernel_rfl
set_option maxRecDepth 3000 in
/-- A look-up in the map of the classes. -/
theorem look_cls {lo : Nat} {w : World} {r : Nat} (h : IsMap lo w r) (k : ByteArray) : ∃ v, (∀ n, (Instr.lookup 143 (.map (some r)) (.string k) true).run Tryd.prog (w.drewN n) = .ok (.tuple #[v, .bool (clsOf k).isSome]) (w.drewN n)) ∧
    (Instr.lookup 143 (.map (some r)) (.string k) true).run Tryd.prog w = .ok (.tuple #[v, .bool (clsOf k).isSome]) w ∧ (∀ i p, clsOf k = some (i, p) → Tells lo w v p) ∧ (clsOf k = none → v = .nilFunc) := by
  obtain ⟨es, clk, h1, h2, h3⟩ := h
  have h4 := h3 k
  have hr : ∀ w', w'.heap[r]? = w.heap[r]? → (Instr.lookup 143 (.map (some r)) (.string k) true).run Tryd.prog w' = .ok (.tuple #[(look es.toList k).getD .nilFunc, .bool (look es.toList k).isSome]) w' := fun w' hw =>
    run_lookup_str Tryd.underlying143 Tryd.underlying9 k .nilFunc zeroIs (hw.trans h1) h2
  cases hc : clsOf k with
  | none =>
    rw [hc] at h4
    simp only [] at h4
    rw [h4] at hr
    exact ⟨.nilFunc, (fun n => hr _ rfl), hr _ rfl, (fun i p h => by cases h), (fun _ => rfl)⟩
  | some x =>
    obtain ⟨i, p⟩ := x
    rw [hc] at h4
    obtain ⟨v, hv, ht⟩ := h4
    rw [hv] at hr
    exact ⟨v, (fun n => hr _ rfl), hr _ rfl, (fun i' p' h => by injection h with h; injection h with _ h; subst h; exact ht), (fun h => by cases h)⟩

end Go.Proofs.YtnjagecmhdagkaaDoor

/-
  Classes: the document's In, walked.
-/
namespace Go.Proofs.YtnjagecmhdagkaaDoor
open Go.RowKit

/-- Is a byte in a class? -/
def inP (k : ByteArray) (c : Int) : Bool := match clsOf k with
  | some (_, p) => p c
  | none => false
set_option maxRecDepth 3000 in
theorem zones (c : Int) (h0 : 0 ≤ c) (h1 : c ≤ 255) : (0 ≤ c ∧ c ≤ 32) ∨ (33 ≤ c ∧ c ≤ 47) ∨ (48 ≤ c ∧ c ≤ 57) ∨ (58 ≤ c ∧ c ≤ 64) ∨ (65 ≤ c ∧ c ≤ 90) ∨ (91 ≤ c ∧ c ≤ 96) ∨ (97 ≤ c ∧ c ≤ 122) ∨ (123 ≤ c ∧ c ≤ 126) ∨ (127 ≤ c ∧ c ≤ 255) := by omega

set_option maxRecDepth 3000 in
theorem cls_lower : clsOf (⟨#[108, 111, 119, 101, 114]⟩ : ByteArray) = some (2, spanP 97 122) := by kernel_rfl
set_option maxRecDepth 3000 in
theorem cls_upper : clsOf (⟨#[117, 112, 112, 101, 114]⟩ : ByteArray) = some (4, spanP 65 90) := by kernel_rfl
set_option maxRecDepth 3000 in
theorem cls_alpha : clsOf (⟨#[97, 108, 112, 104, 97]⟩ : ByteArray) = some (15, someP [spanP 97 122, spanP 65 90]) := by kernel_rfl
set_option maxRecDepth 3000 in
theorem cls_digit : clsOf (⟨#[100, 105, 103, 105, 116]⟩ : ByteArray) = some (6, spanP 48 57) := by kernel_rfl
set_option maxRecDepth 3000 in
theorem cls_alnum : clsOf (⟨#[97, 108, 110, 117, 109]⟩ : ByteArray) = some (8, someP [spanP 97 122, spanP 65 90, spanP 48 57]) := by kernel_rfl
set_option maxRecDepth 3000 in
theorem cls_xdigit : clsOf (⟨#[120, 100, 105, 103, 105, 116]⟩ : ByteArray) = some (21, someP [spanP 48 57, spanP 97 102, spanP 65 70]) := by kernel_rfl
set_option maxRecDepth 3000 in
theorem cls_space : clsOf (⟨#[115, 112, 97, 99, 101]⟩ : ByteArray) = some (26, someP [spanP 9 13, spanP 32 32]) := by kernel_rfl
set_option maxRecDepth 3000 in
theorem cls_blank : clsOf (⟨#[98, 108, 97, 110, 107]⟩ : ByteArray) = some (31, someP [spanP 9 9, spanP 32 32]) := by kernel_rfl
set_option maxRecDepth 3000 in
theorem cls_cntrl : clsOf (⟨#[99, 110, 116, 114, 108]⟩ : ByteArray) = some (36, someP [spanP 0 31, spanP 127 127]) := by kernel_rfl
set_option maxRecDepth 3000 in
theorem cls_graph : clsOf (⟨#[103, 114, 97, 112, 104]⟩ : ByteArray) = some (10, spanP 33 126) := by kernel_rfl
set_option maxRecDepth 3000 in
theorem cls_print : clsOf (⟨#[112, 114, 105, 110, 116]⟩ : ByteArray) = some (38, spanP 32 126) := by kernel_rfl
set_option maxRecDepth 3000 in
theorem cls_punct : clsOf (⟨#[112, 117, 110, 99, 116]⟩ : ByteArray) = some (40, fun c => (spanP 33 126) c && !((someP [spanP 97 122, spanP 65 90, spanP 48 57]) c)) := by kernel_rfl
set_option maxRecDepth 3000 in
theorem cls_none (k : ByteArray) (n0 : k ≠ (⟨#[108, 111, 119, 101, 114]⟩ : ByteArray)) (n1 : k ≠ (⟨#[117, 112, 112, 101, 114]⟩ : ByteArray)) (n2 : k ≠ (⟨#[97, 108, 112, 104, 97]⟩ : ByteArray)) (n3 : k ≠ (⟨#[100, 105, 103, 105, 116]⟩ : ByteArray)) (n4 : k ≠ (⟨#[97, 108, 110, 117, 109]⟩ : ByteArray)) (n5 : k ≠ (⟨#[120, 100, 105, 103, 105, 116]⟩ : ByteArray)) (n6 : k ≠ (⟨#[115, 112, 97, 99, 101]⟩ : ByteArray)) (n7 : k ≠ (⟨#[98, 108, 97, 110, 107]⟩ : ByteArray)) (n8 : k ≠ (⟨#[99, 110, 116, 114, 108]⟩ : ByteArray)) (n9 : k ≠ (⟨#[103, 114, 97, 112, 104]⟩ : ByteArray)) (n10 : k ≠ (⟨#[112, 114, 105, 110, 116]⟩ : ByteArray)) (n11 : k ≠ (⟨#[112, 117, 110, 99, 116]⟩ : ByteArray)) : clsOf k = none := by
  cases h : clsOf k with
  | none => rfl
  | some x =>
    obtain ⟨c, hc, hk, -⟩ := cls_key (i := x.1) (p := x.2) h
    simp only [clsL, List.mem_cons, List.not_mem_nil, or_false] at hc
    rcases hc with rfl | rfl | rfl | rfl | rfl | rfl | rfl | rfl | rfl | rfl | rfl | rfl <;> exact absurd hk.symm (by assumption)

end Go.Proofs.YtnjagecmhdagkaaDoor

/-
  Classes: what a part of a bracket expression is, in plain words.
-/
namespace Go.Proofs.YtnjagecmhdagkaaDoor
open Go.RowKit

/-- ':', '.' or '=' behind a '['; 0: none of them. -/
def kindN (t : List UInt8) : Nat := if 1 < t.length ∧ bt t 0 = 91 ∧ (bt t 1 = 58 ∨ bt t 1 = 46 ∨ bt t 1 = 61) then bt t 1 else 0
/-- What stands ahead of the first ':]', and behind it. -/
def cutV : List UInt8 → Option (List UInt8 × List UInt8)
  | [] => none
  | a :: s => if a = 58 ∧ s.head? = some 93 then some ([], s.tail) else (cutV s).map fun x => (a :: x.1, x.2)
/-- The part at the beginning of a text: what it tells, and what is behind it. -/
def partV (t : List UInt8) : Option ((Int → Bool) × List UInt8) :=
  if t = [] then none
  else if kindN t = 58 then (cutV (t.drop 2)).bind fun x => (clsOf (tx x.1)).map fun y => (y.2, x.2)
  else if kindN t ≠ 0 then none
  else if 2 < t.length ∧ bt t 1 = 45 ∧ bt t 2 ≠ 93 then
    if bt t 0 ≤ bt t 2 ∧ kindN (t.drop 2) = 0 then some (spanP (bt t 0) (bt t 2), t.drop 3) else none
  else some (spanP (bt t 0) (bt t 0), t.drop 1)
set_option maxRecDepth 3000 in
theorem cutV_len {s : List UInt8} {x : List UInt8 × List UInt8} (h : cutV s = some x) : x.1.length + x.2.length + 2 = s.length := by
  induction s generalizing x with
  | nil => simp [cutV] at h
  | cons a s ih =>
    unfold cutV at h
    split at h
    · rename_i hc
      injection h with h
      subst h
      cases s with
      | nil => simp at hc
      | cons b s => simp
    · rw [Option.map_eq_some_iff] at h
      obtain ⟨y, hy, rfl⟩ := h
      have := ih hy
      simp; omega
set_option maxRecDepth 3000 in
theorem cutV_split {s : List UInt8} {x : List UInt8 × List UInt8} (h : cutV s = some x) : s = x.1 ++ 58 :: 93 :: x.2 := by
  induction s generalizing x with
  | nil => simp [cutV] at h
  | cons a s ih =>
    unfold cutV at h
    split at h
    · rename_i hc
      injection h with h
      subst h
      cases s with
      | nil => simp at hc
      | cons b s => simp at hc; simp [hc.1, hc.2]
    · rw [Option.map_eq_some_iff] at h
      obtain ⟨y, hy, rfl⟩ := h
      rw [ih hy]; simp
set_option maxRecDepth 3000 in
/-- The library's words. -/
theorem cut_lib (s : List UInt8) : Lib.cut s [58, 93] = match cutV s with
    | some x => (x.1, x.2, true)
    | none => (s, [], false) := by
  have key : match cutV s with
    | some x => Lib.index s [58, 93] = x.1.length
    | none => Lib.index s [58, 93] = -1 := by
    induction s with
    | nil => simp [cutV, Lib.index]
    | cons a s ih =>
      unfold cutV Lib.index
      have hp : ([58, 93] : List UInt8).isPrefixOf (a :: s) = decide (a = 58 ∧ s.head? = some 93) := by
        cases s with
        | nil => show (58 == a && false) = _; simp
        | cons b s =>
          show (58 == a && (93 == b && true)) = _
          rw [Bool.eq_iff_iff]
          simp only [Bool.and_true, Bool.and_eq_true, beq_iff_eq, List.head?_cons, Option.some.injEq, decide_eq_true_eq]
          exact ⟨fun ⟨h1, h2⟩ => ⟨h1.symm, h2.symm⟩, fun ⟨h1, h2⟩ => ⟨h1.symm, h2.symm⟩⟩
      by_cases hc : a = 58 ∧ s.head? = some 93
      · have hp1 : ([58, 93] : List UInt8).isPrefixOf (a :: s) = true := by rw [hp]; simpa using hc
        rw [if_pos hc, if_pos hp1]; simp
      · have hp0 : ¬([58, 93] : List UInt8).isPrefixOf (a :: s) = true := by rw [hp]; simpa using hc
        rw [if_neg hc, if_neg hp0]
        cases hcs : cutV s with
        | none => rw [hcs] at ih; simp only [Option.map_none] at *; rw [ih]; rfl
        | some x =>
          rw [hcs] at ih
          simp only [Option.map_some] at *
          rw [ih]
          have : ((x.1.length : Int) == -1) = false := by rw [beq_eq_false_iff_ne]; omega
          rw [this]; simp
  unfold Lib.cut
  cases hcs : cutV s with
  | none => rw [hcs] at key; simp only [] at key; rw [key]; simp
  | some x =>
    rw [hcs] at key
    simp only [] at key
    rw [key, if_pos (by omega)]
    have hs := cutV_split hcs
    simp only [Int.toNat_natCast]
    refine Prod.ext ?_ (Prod.ext ?_ rfl)
    · simp [hs]
    · show s.drop (x.1.length + 2) = x.2
      rw [hs, ← List.drop_drop]; simp
set_option maxRecDepth 3000 in
theorem partV_len {t : List UInt8} {x : (Int → Bool) × List UInt8} (h : partV t = some x) : x.2.length < t.length := by
  unfold partV at h
  split at h
  · cases h
  rename_i h0
  have hl : 0 < t.length := List.length_pos_iff.2 h0
  split at h
  · rw [Option.bind_eq_some_iff] at h
    obtain ⟨c, hc, h⟩ := h
    rw [Option.map_eq_some_iff] at h
    obtain ⟨y, _, rfl⟩ := h
    have := cutV_len hc
    simp at this ⊢; omega
  split at h
  · cases h
  split at h
  · rename_i h2
    split at h
    · injection h with h; subst h; simp; omega
    · cases h
  · injection h with h; subst h; simp; omega
set_option maxRecDepth 3000 in
theorem kindN_cases (t : List UInt8) : kindN t = 58 ∨ kindN t = 46 ∨ kindN t = 61 ∨ kindN t = 0 := by
  unfold kindN; split <;> omega
set_option maxRecDepth 3000 in
theorem indexByte_kind (c : UInt8) : decide (0 ≤ Lib.indexByte [58, 46, 61] c) = decide (c = 58 ∨ c = 46 ∨ c = 61) := by
  rw [Bool.eq_iff_iff]
  simp only [Lib.indexByte, decide_eq_true_eq]
  by_cases h1 : c = 58
  · subst h1; decide
  by_cases h2 : c = 46
  · subst h2; decide
  by_cases h3 : c = 61
  · subst h3; decide
  have e1 : (58 == c) = false := by rw [beq_eq_false_iff_ne]; exact fun e => h1 e.symm
  have e2 : (46 == c) = false := by rw [beq_eq_false_iff_ne]; exact fun e => h2 e.symm
  have e3 : (61 == c) = false := by rw [beq_eq_false_iff_ne]; exact fun e => h3 e.symm
  simp [e1, e2, e3, h1, h2, h3]
end Go.Proofs.YtnjagecmhdagkaaDoor
