/-
  A region that draws its order, by an invariant: whatever operation comes next, it keeps what is said of the operations that are done.
-/
import Derived.Test.YtmobcljinfoacaaDoorPk00
namespace Go.Proofs.YtmobcljinfoacaaDoor
open Go.RowKit

section
variable {P : Program} {ops : Array Oper} {md : Region.Mode} {Q : Exit → Act → World → Prop}
set_option maxRecDepth 3000 in
theorem count_set (l : List Bool) : ∀ (i : Nat), l[i]? = some false → (l.set i true).countP (!·) + 1 = l.countP (!·) := by
  induction l with
  | nil => intro i h; simp at h
  | cons b l ih =>
    intro i h
    cases i with
    | zero =>
      simp at h
      subst h
      simp
    | succ i =>
      have := ih i (by simpa using h)
      simp only [List.set_cons_succ, List.countP_cons]
      omega
set_option maxRecDepth 3000 in
theorem wpAny_inv {J : Array Bool → Act → World → Prop}
    (hstep : ∀ done a w i, J done a w → i ∈ Region.ready md ops done → wpOp P ops Q i (J (done.setIfInBounds i true)) a w)
    (hend : ∀ done a w, J done a w → Region.ready md ops done = [] → Q .normal a w) :
    ∀ (fuel : Nat) (done : Array Bool) (a : Act) (w : World), done.size = ops.size → done.toList.countP (!·) ≤ fuel → J done a w → wpAny P md ops Q fuel done a w := by
  intro fuel
  induction fuel with
  | zero =>
    intro done a w hs hc h
    have hr : Region.ready md ops done = [] := by
      rw [List.eq_nil_iff_forall_not_mem]
      intro i hi
      have h1 := (mem_ready.1 hi).1
      have hlt : i < ops.size := by
        have : i ∈ List.range ops.size := (List.mem_filter.1 hi).1
        simpa using this
      have h2 : done.toList[i]? = some false := by
        have : i < done.size := by omega
        simp [Array.getD, this] at h1
        simp [this, h1]
      have := count_set _ i h2
      omega
    exact ⟨hr, hend _ _ _ h hr⟩
  | succ fuel ih =>
    intro done a w hs hc h
    refine ⟨hend _ _ _ h, fun i hi => ?_⟩
    have h1 := (mem_ready.1 hi).1
    have hlt : i < ops.size := by
      have : i ∈ List.range ops.size := (List.mem_filter.1 hi).1
      simpa using this
    have h2 : done.toList[i]? = some false := by
      have : i < done.size := by omega
      simp [Array.getD, this] at h1
      simp [this, h1]
    have h3 := count_set _ i h2
    refine wpOp_mono (fun a' w' h' => ih _ a' w' (by simpa using hs) ?_ h') (hstep done a w i h hi)
    rw [Array.toList_setIfInBounds]
    omega
set_option maxRecDepth 3000 in
/-- A region that draws its order, by an invariant. -/
theorem region_inv {id : Nat} {a : Act} {w : World} {l : List Oper} {J : Array Bool → Act → World → Prop} (hm : P.follows .mixedOrders = true)
    (hstart : J (Array.replicate l.length false) a { w with drawn := w.drawn + 1 })
    (hstep : ∀ done a w i, J done a w → i ∈ Region.ready .any l.toArray done → wpOp P l.toArray Q i (J (done.setIfInBounds i true)) a w)
    (hend : ∀ done a w, J done a w → Region.ready .any l.toArray done = [] → Q .normal a w) : (Code.region id l.toArray true).wp P Q a w := by
  refine wp_region_any hm (wpAny_inv hstep hend _ _ _ _ (by simp) (Nat.le_trans List.countP_le_length (by simp)) (by simpa using hstart))
/-- No operation waits for a later one. -/
def backB (l : List Oper) : Bool := (List.range l.length).all fun i => ((l.toArray[i]?).map fun o => o.after.all fun e => !Region.binds .any e || decide (e.on < i)).getD false
set_option maxRecDepth 3000 in
theorem all_done {l : List Oper} (hb : backB l = true) {done : Array Bool} (hs : done.size = l.length) (hr : Region.ready .any l.toArray done = []) : ∀ i, i < l.length → done.getD i false = true := by
  intro i
  induction i using Nat.strongRecOn with
  | ind i ih =>
    intro hi
    apply Classical.byContradiction
    intro hn
    have h1 : done.getD i true = false := by
      have : i < done.size := by omega
      simp [Array.getD, this] at hn ⊢
      exact hn
    have h2 : i ∈ Region.ready .any l.toArray done := by
      rw [mem_ready]
      have ho : l.toArray[i]? = some (l[i]'hi) := by simp [hi]
      refine ⟨h1, _, ho, fun e he hbd => ?_⟩
      have h3 := (List.all_eq_true.1 hb) i (by simpa using hi)
      rw [ho] at h3
      simp only [Option.map_some, Option.getD_some, Array.all_eq_true_iff_forall_mem, decide_eq_true_eq] at h3
      have h4 := h3 e he
      simp only [hbd, Bool.not_true, Bool.false_or, decide_eq_true_eq] at h4
      exact ih e.on h4 (by omega)
    rw [hr] at h2
    cases h2
set_option maxRecDepth 3000 in
/-- A region that draws its order, by an invariant that says at least how many operations there are; at the end all are done. -/
theorem region_all {id : Nat} {a : Act} {w : World} {l : List Oper} {J : Array Bool → Act → World → Prop} (hm : P.follows .mixedOrders = true) (hb : backB l = true) (hsz : ∀ done a w, J done a w → done.size = l.length)
    (hstart : J (Array.replicate l.length false) a { w with drawn := w.drawn + 1 })
    (hstep : ∀ done a w i, J done a w → i ∈ Region.ready .any l.toArray done → wpOp P l.toArray Q i (J (done.setIfInBounds i true)) a w)
    (hend : ∀ done a w, J done a w → (∀ i, i < l.length → done.getD i false = true) → Q .normal a w) : (Code.region id l.toArray true).wp P Q a w :=
  region_inv hm hstart hstep fun done a w hJ hr => hend done a w hJ (all_done hb (hsz _ _ _ hJ) hr)
set_option maxRecDepth 3000 in
/-- A step at an operation that is known, and has no guard. -/
theorem wpOp_at {i : Nat} {o : Oper} {K : Act → World → Prop} {a : Act} {w : World} (h : ops[i]? = some o) (hg : o.guard = none) (hw : o.wp P a w K Q) : wpOp P ops Q i K a w := by
  unfold wpOp
  rw [h]
  simp only [Region.wanted, hg]
  exact Or.inl hw
/-- An operation that i waits for. -/
def depB (ops : Array Oper) (i j : Nat) : Bool := ((ops[i]?).map fun o => o.after.any fun e => Region.binds .any e && e.on == j).getD false
set_option maxRecDepth 3000 in
theorem ready_dep {i j : Nat} {done : Array Bool} (hr : i ∈ Region.ready .any ops done) (h : depB ops i j = true) : done.getD j false = true := by
  obtain ⟨_, o, ho, hd⟩ := mem_ready.1 hr
  unfold depB at h
  rw [ho] at h
  simp only [Option.map_some, Option.getD_some] at h
  rw [← Array.any_toList, List.any_eq_true] at h
  obtain ⟨e, he, h⟩ := h
  simp only [Bool.and_eq_true, beq_iff_eq] at h
  obtain ⟨hb, rfl⟩ := h
  exact hd e (by simpa using he) hb
end
end Go.Proofs.YtmobcljinfoacaaDoor
