/-
  A region that draws its order: loads may be taken first, though later operations write what they read, if each of these waits for the load (through others too).
-/
import Derived.Test.YthanghgfakibnaaPk00
import Derived.StillTail
namespace Go.Proofs.Ythanghgfakibnaa
open Go.RowKit

section
variable {P : Program} {ops : Array Oper} {md : Region.Mode} {Q : Exit → Act → World → Prop}
/-- Does j wait for i, at once or through others? -/
def reach (md : Region.Mode) (ops : Array Oper) : Nat → Nat → Nat → Bool
  | 0, _, _ => false
  | f + 1, j, i => (List.range ops.size).any fun k => Region.waitsFor md ops j k && (k == i || reach md ops f k i)
/-- What is listed waits for nothing that is not. -/
def Closed (md : Region.Mode) (ops : Array Oper) (listed : Array Bool) : Prop := ∀ j, listed.getD j false = true → ∀ k, Region.waitsFor md ops j k = true → listed.getD k false = true
set_option maxRecDepth 3000 in
theorem ready_waits {listed : Array Bool} {j k : Nat} (hr : j ∈ Region.ready md ops listed) (h : Region.waitsFor md ops j k = true) : listed.getD k false = true := by
  obtain ⟨_, oj, hoj, hall⟩ := mem_ready.1 hr
  obtain ⟨o2, ho2, e, he, hb, rfl⟩ := Region.waitsFor_spec h
  rw [hoj] at ho2
  cases ho2
  exact hall e he hb
set_option maxRecDepth 3000 in
theorem closed_reach {listed : Array Bool} (hc : Closed md ops listed) (i : Nat) : ∀ (f j : Nat), listed.getD j false = true → reach md ops f j i = true → listed.getD i false = true := by
  intro f
  induction f with
  | zero => intro j _ h; cases h
  | succ f ih =>
    intro j hj h
    simp only [reach, List.any_eq_true, Bool.and_eq_true, Bool.or_eq_true, beq_iff_eq] at h
    obtain ⟨k, _, h1, h2⟩ := h
    have hk := hc j hj k h1
    rcases h2 with rfl | h2
    · exact hk
    · exact ih k hk h2
set_option maxRecDepth 3000 in
theorem ready_reach {listed : Array Bool} (hc : Closed md ops listed) {i f j : Nat} (hr : j ∈ Region.ready md ops listed) (h : reach md ops f j i = true) : listed.getD i false = true := by
  cases f with
  | zero => cases h
  | succ f =>
    simp only [reach, List.any_eq_true, Bool.and_eq_true, Bool.or_eq_true, beq_iff_eq] at h
    obtain ⟨k, _, h1, h2⟩ := h
    have hk := ready_waits hr h1
    rcases h2 with rfl | h2
    · exact hk
    · exact closed_reach hc i f k hk h2
set_option maxRecDepth 3000 in
theorem getD_set_true {listed : Array Bool} {i j : Nat} (h : listed.getD j false = true) : (listed.setIfInBounds i true).getD j false = true := by
  simp only [Array.getD_eq_getD_getElem?, Array.getElem?_setIfInBounds] at h ⊢
  by_cases e : i = j
  · subst e
    rcases Nat.lt_or_ge i listed.size with h' | h'
    · simp [h']
    · simp [Array.getElem?_eq_none h'] at h
  · simp [e, h]
set_option maxRecDepth 3000 in
theorem getD_set_other {listed : Array Bool} {i j : Nat} (h : (listed.setIfInBounds i true).getD j false = true) (hne : ¬ i = j) : listed.getD j false = true := by
  simpa [Array.getD_eq_getD_getElem?, Array.getElem?_setIfInBounds, hne] using h
set_option maxRecDepth 3000 in
theorem Closed.set {listed : Array Bool} (hc : Closed md ops listed) {i : Nat} (hr : i ∈ Region.ready md ops listed) : Closed md ops (listed.setIfInBounds i true) := by
  intro j hj k hk
  refine getD_set_true ?_
  by_cases e : i = j
  · subst e; exact ready_waits hr hk
  · exact hc j (getD_set_other hj e) k hk
/-- No heavy operation that waits for k is listed. -/
def openK (md : Region.Mode) (ops : Array Oper) (hv : List Nat) (listed : Array Bool) (k : Nat) : Bool := hv.all fun j => !(listed.getD j false) || !(reach md ops ops.size j k)
def wpAnyT (P : Program) (md : Region.Mode) (ops : Array Oper) (Q : Exit → Act → World → Prop) (L hv : List Nat) (S : Nat → World → Prop) : Nat → Array Bool → Act → World → Prop
  | 0, listed, a, w => Region.ready md ops listed = [] ∧ Q .normal a w
  | fuel + 1, listed, a, w =>
    (Region.ready md ops listed = [] → Q .normal a w) ∧
    ∀ j ∈ Region.ready md ops listed, wpOp P ops Q j (fun a' w' => (∀ k ∈ L, openK md ops hv (listed.setIfInBounds j true) k = true → S k w') ∧ wpAnyT P md ops Q L hv S fuel (listed.setIfInBounds j true) a' w') a w
variable {L hv : List Nat} {S : Nat → World → Prop}
set_option maxRecDepth 3000 in
theorem wpAny_of_T : ∀ (fuel : Nat) (listed : Array Bool) (a : Act) (w : World), wpAnyT P md ops Q L hv S fuel listed a w → wpAny P md ops Q fuel listed a w
  | 0, _, _, _, h => h
  | fuel + 1, _, _, _, h => ⟨h.1, fun i hi => wpOp_mono (fun a' w' h' => wpAny_of_T fuel _ a' w' h'.2) (h.2 i hi)⟩
set_option maxRecDepth 3000 in
theorem openK_set {listed : Array Bool} {j k : Nat} (h : openK md ops hv (listed.setIfInBounds j true) k = true) : openK md ops hv listed k = true := by
  simp only [openK, List.all_eq_true, Bool.or_eq_true, Bool.not_eq_true'] at h ⊢
  intro x hx
  refine (h x hx).imp (fun e => ?_) id
  cases hl : listed.getD x false with
  | false => rfl
  | true => rw [getD_set_true hl] at e; cases e
set_option maxRecDepth 3000 in
theorem openK_light {listed : Array Bool} {i k : Nat} (hi : i ∉ hv) : openK md ops hv (listed.setIfInBounds i true) k = openK md ops hv listed k := by
  cases h : openK md ops hv listed k with
  | false =>
    cases h2 : openK md ops hv (listed.setIfInBounds i true) k with
    | false => rfl
    | true => rw [openK_set h2] at h; cases h
  | true =>
    simp only [openK, List.all_eq_true, Bool.or_eq_true, Bool.not_eq_true'] at h ⊢
    intro x hx
    refine (h x hx).imp (fun e => ?_) id
    cases hl : (listed.setIfInBounds i true).getD x false with
    | false => rfl
    | true =>
      have hne : ¬ i = x := fun e2 => hi (e2 ▸ hx)
      rw [getD_set_other hl hne] at e; cases e
set_option maxRecDepth 3000 in
/-- Where nothing is open, nothing need be shown. -/
theorem wpAnyT_shut : ∀ (fuel : Nat) (listed : Array Bool) (a : Act) (w : World), (∀ k ∈ L, openK md ops hv listed k = false) → wpAny P md ops Q fuel listed a w → wpAnyT P md ops Q L hv S fuel listed a w
  | 0, _, _, _, _, h => h
  | fuel + 1, listed, a, w, hl, h => ⟨h.1, fun i hi => wpOp_mono (fun a' w' h' => by
      have hl2 : ∀ k ∈ L, openK md ops hv (listed.setIfInBounds i true) k = false := fun k hk => by
        cases h2 : openK md ops hv (listed.setIfInBounds i true) k with
        | false => rfl
        | true => have := hl k hk; rw [openK_set h2] at this; cases this
      exact ⟨(fun k hk hf => by rw [hl2 k hk] at hf; cases hf), wpAnyT_shut fuel _ a' w' hl2 h'⟩) (h.2 i hi)⟩
set_option maxRecDepth 3000 in
/-- Where all that may come next waits for all loads, nothing need be shown. -/
theorem wpAnyT_last (fuel : Nat) (listed : Array Bool) (a : Act) (w : World) (hB : (Region.ready md ops listed).all (fun j => hv.contains j && L.all (fun k => reach md ops ops.size j k) && decide (j < listed.size)) = true) (h : wpAny P md ops Q fuel listed a w) : wpAnyT P md ops Q L hv S fuel listed a w := by
  match fuel, h with
  | 0, h => exact h
  | fuel + 1, h =>
    refine ⟨h.1, fun i hi => wpOp_mono (fun a' w' h' => ?_) (h.2 i hi)⟩
    have hb := List.all_eq_true.1 hB i hi
    simp only [Bool.and_eq_true, List.contains_iff_mem, decide_eq_true_eq] at hb
    obtain ⟨⟨hv1, hr⟩, hlt⟩ := hb
    have hl2 : ∀ k ∈ L, openK md ops hv (listed.setIfInBounds i true) k = false := fun k hk => by
      cases h2 : openK md ops hv (listed.setIfInBounds i true) k with
      | false => rfl
      | true =>
        simp only [openK, List.all_eq_true, Bool.or_eq_true, Bool.not_eq_true'] at h2
        rcases h2 i hv1 with e | e
        · simp [hlt] at e
        · rw [List.all_eq_true.1 hr k hk] at e; cases e
    exact ⟨(fun k hk hf => by rw [hl2 k hk] at hf; cases hf), wpAnyT_shut fuel _ a' w' hl2 h'⟩
set_option maxRecDepth 3000 in
/-- An operation that may come up now may be taken first. -/
theorem late_first {i : Nat} {oi : Oper} {v : Value} {S' : World → Prop} (hi : ops[i]? = some oi) (hsel : ∀ (j : Nat) (o : Oper) cs b, ops[j]? = some o → o.op ≠ .select cs b)
    (hQ : ∀ c a w, Q (.panic c) (a.put oi.dst v) w → Q (.panic c) a w) (hlight : i ∉ hv) (hS' : ∀ w, (i ∈ L → S i w) → S' w) :
    ∀ (fuel : Nat) (listed : Array Bool) (a : Act) (w : World), Closed md ops listed →
      (∀ j oj, ops[j]? = some oj → j ≠ i → listed.getD j true = false → (∀ e ∈ oj.after, Region.binds md e = true → e.on ≠ i) → oi.apart ops oj = true) →
      i ∈ Region.ready md ops listed → YieldsIf P ops S' oi v a → (∀ k ∈ L, openK md ops hv listed k = true → S k w) →
      wpAnyT P md ops Q L hv S fuel (listed.setIfInBounds i true) (a.put oi.dst v) w → wpAnyT P md ops Q L hv S (fuel + 1) listed a w := by
  have hopen : ∀ {listed : Array Bool}, Closed md ops listed → i ∈ Region.ready md ops listed → openK md ops hv listed i = true := by
    intro listed hc hr
    simp only [openK, List.all_eq_true, Bool.or_eq_true, Bool.not_eq_true']
    intro x hx
    cases hl : listed.getD x false with
    | false => exact .inl rfl
    | true =>
      refine .inr ?_
      cases hre : reach md ops ops.size x i with
      | false => rfl
      | true =>
        have h1 := closed_reach hc i _ x hl hre
        have h0 := (mem_ready.1 hr).1
        simp only [Array.getD_eq_getD_getElem?] at h0 h1
        cases hg : listed[i]? with
        | none => rw [hg] at h1; simp at h1
        | some b => rw [hg] at h1 h0; simp at h1 h0; rw [h1] at h0; cases h0
  intro fuel
  induction fuel with
  | zero =>
    intro listed a w hc _ hr hy hS H
    refine ⟨fun h => (by rw [h] at hr; cases hr), fun j hj => ?_⟩
    by_cases hji : j = i
    · subst hji
      exact hy.wpOp hi (hS' w fun hL => hS j hL (hopen hc hr)) ⟨fun k hk ho => hS k hk (openK_set ho), H⟩
    · have := ready_mono hj hji
      rw [H.1] at this
      cases this
  | succ fuel ih =>
    intro listed a w hc hfree hr hy hS H
    refine ⟨fun h => (by rw [h] at hr; cases hr), fun j hj => ?_⟩
    by_cases hji : j = i
    · subst hji
      exact hy.wpOp hi (hS' w fun hL => hS j hL (hopen hc hr)) ⟨fun k hk ho => hS k hk (openK_set ho), H⟩
    · have h1 := H.2 j (ready_mono hj hji)
      obtain ⟨hjun, oj, hoj, hall⟩ := mem_ready.1 hj
      have hnot : ∀ e ∈ oj.after, Region.binds md e = true → e.on ≠ i := fun e he hb heq => by
        have h1 := hall e he hb
        have h0 := (mem_ready.1 hr).1
        rw [heq] at h1
        rcases Nat.lt_or_ge i listed.size with h' | h'
        · simp [h'] at h0 h1; rw [h0] at h1; cases h1
        · simp [Array.getElem?_eq_none h'] at h1
      have h2 := wpOp_putIf hoj (hfree j oj hoj hji hjun hnot) (fun cs b => hsel i oi cs b hi) (fun cs b => hsel j oj cs b hoj) hQ hy h1
      have hfree' : ∀ k ok, ops[k]? = some ok → k ≠ i → (listed.setIfInBounds j true).getD k true = false →
          (∀ e ∈ ok.after, Region.binds md e = true → e.on ≠ i) → oi.apart ops ok = true := fun k ok hk hki hun hno => by
        refine hfree k ok hk hki ?_ hno
        by_cases hjk : j = k
        · subst hjk; exact hjun
        · rw [getD_set_ne true hjk] at hun; exact hun
      have hcomm : (listed.setIfInBounds i true).setIfInBounds j true = (listed.setIfInBounds j true).setIfInBounds i true := Array.setIfInBounds_comm _ _ (Ne.symm hji)
      refine wpOp_mono (fun a' w' h3 => ?_) h2
      have hSk : ∀ k ∈ L, openK md ops hv (listed.setIfInBounds j true) k = true → S k w' := fun k hk ho => h3.2.1 k hk (by rw [hcomm, openK_light hlight]; exact ho)
      refine ⟨hSk, ih (listed.setIfInBounds j true) a' w' (hc.set hj) hfree' (ready_mono hr (Ne.symm hji)) h3.1 hSk ?_⟩
      rw [← hcomm]
      exact h3.2.2
/-- So many operations are still to come, in whatever order. -/
def LT (P : Program) (md : Region.Mode) (ops : Array Oper) (Q : Exit → Act → World → Prop) (L hv : List Nat) (S : Nat → World → Prop) (fuel : Nat) (listed : Array Bool) (a : Act) (w : World) : Prop :=
  Closed md ops listed → (∀ k ∈ L, openK md ops hv listed k = true → S k w) → wpAnyT P md ops Q L hv S fuel listed a w
set_option maxRecDepth 3000 in
/-- One is taken first: a load, or what looks at no memory. -/
theorem late_take (i : Nat) {oi : Oper} (v : Value) (S' : World → Prop) {fuel : Nat} {listed : Array Bool} {a : Act} {w : World} (hi : ops[i]? = some oi) (hs : Region.noSelect ops = true) (hf : Region.free md ops listed i = true) (hr : (Region.ready md ops listed).contains i = true) (hlight : hv.contains i = false)
    (hQ : ∀ c a w, Q (.panic c) (a.put oi.dst v) w → Q (.panic c) a w) (hS' : ∀ w, (i ∈ L → S i w) → S' w) (hw : Region.wanted oi (yielded ops a.tmps) = true) (hy : ∀ w, S' w → (execOp a.eval oi).run P w = .ok (.value v) w)
    (h : LT P md ops Q L hv S fuel (listed.setIfInBounds i true) (a.put oi.dst v) w) : LT P md ops Q L hv S (fuel + 1) listed a w := by
  intro hc hS
  have hr' : i ∈ Region.ready md ops listed := by simpa using hr
  exact late_first hi (Region.noSelect_spec hs) hQ (by simpa using hlight) hS' fuel listed a w hc (Region.free_spec hi hf) hr' (Or.inl ⟨hw, hy⟩) hS (h (hc.set hr') fun k hk ho => hS k hk (openK_set ho))
set_option maxRecDepth 3000 in
/-- Whichever of those that may come up comes up. -/
theorem late_all {rs : List Nat} {fuel : Nat} {listed : Array Bool} {a : Act} {w : World} (hr : Region.ready md ops listed = rs) (hne : rs ≠ [])
    (h : ∀ j ∈ rs, wpOp P ops Q j (fun a' w' => (∀ k ∈ L, openK md ops hv (listed.setIfInBounds j true) k = true → S k w') ∧ LT P md ops Q L hv S fuel (listed.setIfInBounds j true) a' w') a w) : LT P md ops Q L hv S (fuel + 1) listed a w := by
  intro hc hS
  refine ⟨fun h0 => absurd (hr ▸ h0) hne, fun j hj => wpOp_mono (fun a' w' h' => ⟨h'.1, h'.2 (hc.set hj) h'.1⟩) (h j (hr ▸ hj))⟩
set_option maxRecDepth 3000 in
/-- The rest comes in the text's order. -/
theorem late_seq (n k : Nat) {l : List Oper} {listed : Array Bool} {a : Act} {w : World} (hn : (l.drop k).length = n) (hl : (Region.ready md l.toArray listed).all (fun j => hv.contains j && L.all (fun i => reach md l.toArray l.toArray.size j i) && decide (j < listed.size)) = true)
    (hB : Region.seqB md l.toArray n k listed = true) (h : wpList P l.toArray Q (l.drop k) a w) : LT P md l.toArray Q L hv S n listed a w := by
  intro _ _
  refine wpAnyT_last n listed a w hl ?_
  subst hn
  exact wpAny_of_seq (md := md) (Q' := Q) (l.drop k) k listed a w (fun j => by simp [List.getElem?_drop]) hB h
set_option maxRecDepth 3000 in
theorem late_start {id : Nat} {a : Act} {w : World} {l : List Oper} (L hv : List Nat) (S : Nat → World → Prop) (n : Nat) (hn : l.length = n) (hm : P.follows .mixedOrders = true) (hS : ∀ k ∈ L, S k w.drew)
    (h : LT P .any l.toArray Q L hv S n (Array.replicate n false) a w.drew) : (Code.region id l.toArray true).wp P Q a w := by
  subst hn
  refine wp_region_any hm (wpAny_of_T (L := L) (hv := hv) (S := S) _ _ _ _ ?_)
  have := h (fun j hj => by rw [Array.getD_eq_getD_getElem?, Array.getElem?_replicate] at hj; split at hj <;> simp at hj) (fun k hk _ => hS k hk)
  simpa using this
end
end Go.Proofs.Ythanghgfakibnaa
