/-
  Several texts of the proof: Region, Vals.
-/
import Derived.Test.YthanghgfakibnaaPk00
/-
  A region that draws its order, by an invariant: whatever operation comes next, it keeps what is said of the operations that are done.
-/
namespace Go.Proofs.Ythanghgfakibnaa
open Go.RowKit

section
variable {P : Program} {ops : Array Oper} {md : Region.Mode} {Q : Exit → Act → World → Prop}
set_option maxRecDepth 3000 in
theorem count_set (l : List Bool) : ∀ (i : Nat), l[i]? = some false → (l.set i true).countP (!·) + 1 = l.countP (!·) := by
  induction l with
  | nil => intro i h; simp at h
  | cons b l ih =>
    intro i h
    cases i with
    | zero =>
      simp at h
      subst h
      simp
    | succ i =>
      have := ih i (by simpa using h)
      simp only [List.set_cons_succ, List.countP_cons]
      omega
set_option maxRecDepth 3000 in
theorem wpAny_inv {J : Array Bool → Act → World → Prop}
    (hstep : ∀ done a w i, J done a w → i ∈ Region.ready md ops done → wpOp P ops Q i (J (done.setIfInBounds i true)) a w)
    (hend : ∀ done a w, J done a w → Region.ready md ops done = [] → Q .normal a w) :
    ∀ (fuel : Nat) (done : Array Bool) (a : Act) (w : World), done.size = ops.size → done.toList.countP (!·) ≤ fuel → J done a w → wpAny P md ops Q fuel done a w := by
  intro fuel
  induction fuel with
  | zero =>
    intro done a w hs hc h
    have hr : Region.ready md ops done = [] := by
      rw [List.eq_nil_iff_forall_not_mem]
      intro i hi
      have h1 := (mem_ready.1 hi).1
      have hlt : i < ops.size := by
        have : i ∈ List.range ops.size := (List.mem_filter.1 hi).1
        simpa using this
      have h2 : done.toList[i]? = some false := by
        have : i < done.size := by omega
        simp [Array.getD, this] at h1
        simp [this, h1]
      have := count_set _ i h2
      omega
    exact ⟨hr, hend _ _ _ h hr⟩
  | succ fuel ih =>
    intro done a w hs hc h
    refine ⟨hend _ _ _ h, fun i hi => ?_⟩
    have h1 := (mem_ready.1 hi).1
    have hlt : i < ops.size := by
      have : i ∈ List.range ops.size := (List.mem_filter.1 hi).1
      simpa using this
    have h2 : done.toList[i]? = some false := by
      have : i < done.size := by omega
      simp [Array.getD, this] at h1
      simp [this, h1]
    have h3 := count_set _ i h2
    refine wpOp_mono (fun a' w' h' => ih _ a' w' (by simpa using hs) ?_ h') (hstep done a w i h hi)
    rw [Array.toList_setIfInBounds]
    omega
set_option maxRecDepth 3000 in
/-- A region that draws its order, by an invariant. -/
theorem region_inv {id : Nat} {a : Act} {w : World} {l : List Oper} {J : Array Bool → Act → World → Prop} (hm : P.follows .mixedOrders = true)
    (hstart : J (Array.replicate l.length false) a { w with drawn := w.drawn + 1 })
    (hstep : ∀ done a w i, J done a w → i ∈ Region.ready .any l.toArray done → wpOp P l.toArray Q i (J (done.setIfInBounds i true)) a w)
    (hend : ∀ done a w, J done a w → Region.ready .any l.toArray done = [] → Q .normal a w) : (Code.region id l.toArray true).wp P Q a w := by
  refine wp_region_any hm (wpAny_inv hstep hend _ _ _ _ (by simp) (Nat.le_trans List.countP_le_length (by simp)) (by simpa using hstart))
/-- No operation waits for a later one. -/
def backB (l : List Oper) : Bool := (List.range l.length).all fun i => ((l.toArray[i]?).map fun o => o.after.all fun e => !Region.binds .any e || decide (e.on < i)).getD false
set_option maxRecDepth 3000 in
theorem all_done {l : List Oper} (hb : backB l = true) {done : Array Bool} (hs : done.size = l.length) (hr : Region.ready .any l.toArray done = []) : ∀ i, i < l.length → done.getD i false = true := by
  intro i
  induction i using Nat.strongRecOn with
  | ind i ih =>
    intro hi
    apply Classical.byContradiction
    intro hn
    have h1 : done.getD i true = false := by
      have : i < done.size := by omega
      simp [Array.getD, this] at hn ⊢
      exact hn
    have h2 : i ∈ Region.ready .any l.toArray done := by
      rw [mem_ready]
      have ho : l.toArray[i]? = some (l[i]'hi) := by simp [hi]
      refine ⟨h1, _, ho, fun e he hbd => ?_⟩
      have h3 := (List.all_eq_true.1 hb) i (by simpa using hi)
      rw [ho] at h3
      simp only [Option.map_some, Option.getD_some, Array.all_eq_true_iff_forall_mem, decide_eq_true_eq] at h3
      have h4 := h3 e he
      simp only [hbd, Bool.not_true, Bool.false_or, decide_eq_true_eq] at h4
      exact ih e.on h4 (by omega)
    rw [hr] at h2
    cases h2
set_option maxRecDepth 3000 in
/-- A region that draws its order, by an invariant that says at least how many operations there are; at the end all are done. -/
theorem region_all {id : Nat} {a : Act} {w : World} {l : List Oper} {J : Array Bool → Act → World → Prop} (hm : P.follows .mixedOrders = true) (hb : backB l = true) (hsz : ∀ done a w, J done a w → done.size = l.length)
    (hstart : J (Array.replicate l.length false) a { w with drawn := w.drawn + 1 })
    (hstep : ∀ done a w i, J done a w → i ∈ Region.ready .any l.toArray done → wpOp P l.toArray Q i (J (done.setIfInBounds i true)) a w)
    (hend : ∀ done a w, J done a w → (∀ i, i < l.length → done.getD i false = true) → Q .normal a w) : (Code.region id l.toArray true).wp P Q a w :=
  region_inv hm hstart hstep fun done a w hJ hr => hend done a w hJ (all_done hb (hsz _ _ _ hJ) hr)
set_option maxRecDepth 3000 in
/-- A step at an operation that is known, and has no guard. -/
theorem wpOp_at {i : Nat} {o : Oper} {K : Act → World → Prop} {a : Act} {w : World} (h : ops[i]? = some o) (hg : o.guard = none) (hw : o.wp P a w K Q) : wpOp P ops Q i K a w := by
  unfold wpOp
  rw [h]
  simp only [Region.wanted, hg]
  exact Or.inl hw
/-- An operation that i waits for. -/
def depB (ops : Array Oper) (i j : Nat) : Bool := ((ops[i]?).map fun o => o.after.any fun e => Region.binds .any e && e.on == j).getD false
set_option maxRecDepth 3000 in
theorem ready_dep {i j : Nat} {done : Array Bool} (hr : i ∈ Region.ready .any ops done) (h : depB ops i j = true) : done.getD j false = true := by
  obtain ⟨_, o, ho, hd⟩ := mem_ready.1 hr
  unfold depB at h
  rw [ho] at h
  simp only [Option.map_some, Option.getD_some] at h
  rw [← Array.any_toList, List.any_eq_true] at h
  obtain ⟨e, he, h⟩ := h
  simp only [Bool.and_eq_true, beq_iff_eq] at h
  obtain ⟨hb, rfl⟩ := h
  exact hd e (by simpa using he) hb
end
end Go.Proofs.Ythanghgfakibnaa

/-
  A region that draws its order and holds calls that make memory: each operation lays a value of which something is known; what is known stays known in a greater world.
-/
namespace Go.Proofs.Ythanghgfakibnaa
open Go.RowKit

/-- Exactly this value. -/
def Ex (x : Value) : World → Value → Prop := fun _ v => v = x
abbrev Spec := World → Value → Prop
def Stays (S : Spec) : Prop := ∀ w w' v, Grows w w' → S w v → S w' v
set_option maxRecDepth 3000 in
theorem Ex.stays (x : Value) : Stays (Ex x) := fun _ _ _ _ h => h
/-- Each operation that is done has laid its value. -/
structure VJ (w0 : World) (a0 : Act) (T : List (Nat × Spec)) (done : Array Bool) (a : Act) (w : World) : Prop where
  size : done.size = T.length
  tmps : a.tmps.size = a0.tmps.size
  defers : a.defers = a0.defers
  grows : Grows w0 w
  vals : ∀ i d S, T[i]? = some (d, S) → done.getD i false = true → S w (a.eval (.tmp d))
  rest : ∀ d, d ∉ T.map (·.1) → a.eval (.tmp d) = a0.eval (.tmp d)
set_option maxRecDepth 3000 in
theorem eval_putv (a : Act) (d t : Nat) (v : Value) (hd : d < a.tmps.size) : (a.put (some d) v).eval (.tmp t) = if d = t then v else a.eval (.tmp t) := by
  simp only [Act.put, Act.eval, Array.getD_eq_getD_getElem?, Array.getElem?_setIfInBounds]
  by_cases h : d = t
  · subst h; simp [hd]
  · simp [h]
set_option maxRecDepth 3000 in
theorem done_setv {done : Array Bool} {i j : Nat} (hi : i < done.size) : (done.setIfInBounds i true).getD j false = if i = j then true else done.getD j false := by
  simp only [Array.getD_eq_getD_getElem?, Array.getElem?_setIfInBounds]
  by_cases h : i = j
  · subst h; simp [hi]
  · simp [h]
/-- What the region's table must be. -/
structure Tab (a0 : Act) (T : List (Nat × Spec)) : Prop where
  nodup : (T.map (·.1)).Nodup
  lt : ∀ d ∈ T.map (·.1), d < a0.tmps.size
  stays : ∀ p ∈ T, Stays p.2
section
variable {P : Program} {w0 : World} {a0 : Act} {T : List (Nat × Spec)} {done : Array Bool} {a : Act} {w w' : World} {ops : Array Oper} {Q : Exit → Act → World → Prop} {i d : Nat} {S : Spec} {o : Oper} {v : Value}
set_option maxRecDepth 3000 in
theorem VJ.put (hJ : VJ w0 a0 T done a w) (hT : Tab a0 T) (hi : T[i]? = some (d, S)) (hg : Grows w w') (hv : S w' v) : VJ w0 a0 T (done.setIfInBounds i true) (a.put (some d) v) w' := by
  have hlt : i < T.length := (List.getElem?_eq_some_iff.1 hi).1
  have hmem : d ∈ T.map (·.1) := by
    have := List.mem_of_getElem? hi
    exact List.mem_map.2 ⟨_, this, rfl⟩
  have hd : d < a.tmps.size := by rw [hJ.tmps]; exact hT.lt d hmem
  refine ⟨by simp [hJ.size], by simp [Act.put, hJ.tmps], hJ.defers, hJ.grows.trans hg, fun j e R hj hdn => ?_, fun t ht => ?_⟩
  · rw [done_setv (by rw [hJ.size]; exact hlt)] at hdn
    rw [eval_putv _ _ _ _ hd]
    by_cases hij : i = j
    · subst hij
      rw [hi] at hj
      injection hj with hj
      injection hj with h1 h2
      subst h1 h2
      rw [if_pos rfl]; exact hv
    · rw [if_neg hij] at hdn
      have hne : d ≠ e := by
        rintro rfl
        have hn := hT.nodup
        have h1 : (T.map (·.1))[i]? = some d := by simp [hi]
        have h2 : (T.map (·.1))[j]? = some d := by simp [hj]
        exact hij ((List.getElem?_inj (by simpa using hlt) hn).1 (h1.trans h2.symm))
      rw [if_neg hne]
      exact hT.stays _ (List.mem_of_getElem? hj) _ _ _ hg (hJ.vals j e R hj hdn)
  · rw [eval_putv _ _ _ _ hd, if_neg (show ¬d = t by rintro rfl; exact ht hmem)]
    exact hJ.rest t ht
set_option maxRecDepth 3000 in
theorem VJ.step (hJ : VJ w0 a0 T done a w) (hT : Tab a0 T) (hi : T[i]? = some (d, S)) (ho : ops[i]? = some o) (hd : o.dst = some d) (hw : Region.wanted o (yielded ops a.tmps) = true)
    (hrun : o.wp P a w (fun a' w' => ∃ v, a' = a.put (some d) v ∧ Grows w w' ∧ S w' v) Q) : wpOp P ops Q i (VJ w0 a0 T (done.setIfInBounds i true)) a w := by
  unfold wpOp
  rw [ho]
  simp only [hw, if_true]
  refine Or.inl (Oper.wp_mono ?_ hrun)
  rintro a' w' ⟨v, rfl, hg, hv⟩
  exact hJ.put hT hi hg hv
set_option maxRecDepth 3000 in
/-- An operation that only looks, at a world that stays. -/
theorem VJ.pure_ (hJ : VJ w0 a0 T done a w) (hT : Tab a0 T) (hi : T[i]? = some (d, S)) (ho : ops[i]? = some o) (hd : o.dst = some d) (hw : Region.wanted o (yielded ops a.tmps) = true)
    (v : Value) (hrun : (execOp a.eval o).run P w = .ok (.value v) w) (hv : S w v) : wpOp P ops Q i (VJ w0 a0 T (done.setIfInBounds i true)) a w := by
  refine hJ.step hT hi ho hd hw ?_
  unfold Oper.wp
  rw [hrun, Oper.upon_value, hd]
  exact ⟨v, rfl, Grows.refl _, hv⟩
set_option maxRecDepth 3000 in
/-- A call. -/
theorem VJ.call_ (hJ : VJ w0 a0 T done a w) (hT : Tab a0 T) (hi : T[i]? = some (d, S)) (ho : ops[i]? = some o) (hd : o.dst = some d) (hw : Region.wanted o (yielded ops a.tmps) = true)
    (f : FuncId) (args : Array Value) (hrun : (execOp a.eval o).run P w = .ok (.enter f args) w) (hc : Calls P f args w fun e w' => ∃ v, e = .returned v ∧ Grows w w' ∧ S w' v) : wpOp P ops Q i (VJ w0 a0 T (done.setIfInBounds i true)) a w := by
  refine hJ.step hT hi ho hd hw ?_
  unfold Oper.wp
  rw [hrun]
  simp only [Oper.upon]
  refine hc.mono ?_
  rintro e w' ⟨v, rfl, hg, hv⟩
  simp only []
  rw [hd]
  exact ⟨v, rfl, hg, hv⟩
set_option maxRecDepth 3000 in
/-- An operation whose guard does not hold. -/
theorem VJ.skip (hJ : VJ w0 a0 T done a w) (hT : Tab a0 T) (hi : T[i]? = some (d, S)) (ho : ops[i]? = some o) (hd : o.dst = some d) (hw : Region.wanted o (yielded ops a.tmps) = false) (hv : S w undef) : wpOp P ops Q i (VJ w0 a0 T (done.setIfInBounds i true)) a w := by
  unfold wpOp
  rw [ho]
  simp only [hw, hd]
  exact hJ.put hT hi (Grows.refl _) hv
set_option maxRecDepth 3000 in
theorem VJ.ex (hJ : VJ w0 a0 T done a w) {j e : Nat} {x : Value} (hj : T[j]? = some (e, Ex x)) (hr : i ∈ Region.ready .any ops done) (hd : depB ops i j = true) : a.eval (.tmp e) = x := hJ.vals j e _ hj (ready_dep hr hd)
set_option maxRecDepth 3000 in
theorem VJ.has (hJ : VJ w0 a0 T done a w) {j e : Nat} {R : Spec} (hj : T[j]? = some (e, R)) (hr : i ∈ Region.ready .any ops done) (hd : depB ops i j = true) : R w (a.eval (.tmp e)) := hJ.vals j e _ hj (ready_dep hr hd)
set_option maxRecDepth 3000 in
theorem VJ.old (hJ : VJ w0 a0 T done a w) (e : Nat) {x : Value} (hx : a0.eval (.tmp e) = x) (hn : e ∉ T.map (·.1)) : a.eval (.tmp e) = x := (hJ.rest e hn).trans hx
end
set_option maxRecDepth 3000 in
theorem wanted_of {ops : Array Oper} {a : Act} {o ok : Oper} {k dk : Nat} {b c : Bool} (hg : o.guard = some (k, b)) (hk : ops[k]? = some ok) (hdk : ok.dst = some dk) (hv : a.eval (.tmp dk) = .bool c) : Region.wanted o (yielded ops a.tmps) = (c == b) := by
  have h1 : a.tmps[dk]? = some (.bool c) := by
    have h2 : a.tmps.getD dk undef = .bool c := hv
    rw [Array.getD_eq_getD_getElem?] at h2
    cases h : a.tmps[dk]? with
    | none => rw [h] at h2; cases h2
    | some x => rw [h] at h2; simp only [Option.getD_some] at h2; rw [h2]
  unfold Region.wanted yielded
  rw [hg]
  simp only [hk, hdk, Option.bind_some, h1]
  cases b <;> cases c <;> rfl
set_option maxRecDepth 3000 in
theorem stays_nil : ∀ p ∈ ([] : List (Nat × Spec)), Stays p.2 := fun _ h => by cases h
set_option maxRecDepth 3000 in
theorem stays_cons {T : List (Nat × Spec)} {d : Nat} {S : Spec} (h : Stays S) (hl : ∀ p ∈ T, Stays p.2) : ∀ p ∈ (d, S) :: T, Stays p.2 := fun p hp => by
  rcases List.mem_cons.1 hp with rfl | hp
  · exact h
  · exact hl p hp
set_option maxRecDepth 3000 in
theorem tab_of {a0 : Act} {T : List (Nat × Spec)} (n : Nat) (ds : List Nat) (h : T.map (·.1) = ds) (hn : a0.tmps.size = n) (hnd : ds.Nodup) (hlt : ds.all (fun d => decide (d < n)) = true) (hst : ∀ p ∈ T, Stays p.2) : Tab a0 T := by
  subst h hn
  exact ⟨hnd, fun d hd => by simpa using List.all_eq_true.1 hlt d hd, hst⟩
set_option maxRecDepth 3000 in
/-- The region's law. -/
theorem region_vals {P : Program} {Q : Exit → Act → World → Prop} {id : Nat} {a : Act} {w : World} {l : List Oper} (T : List (Nat × Spec)) (hm : P.follows .mixedOrders = true) (hb : backB l = true) (hl : T.length = l.length) (hT : Tab a T)
    (hstep : Tab a T → ∀ i done a' w', i < T.length → VJ w a T done a' w' → i ∈ Region.ready .any l.toArray done → wpOp P l.toArray Q i (VJ w a T (done.setIfInBounds i true)) a' w')
    (hend : ∀ a' w', a'.tmps.size = a.tmps.size → a'.defers = a.defers → Grows w w' → (∀ (i d : Nat) (S : Spec), T[i]? = some (d, S) → S w' (a'.eval (.tmp d))) → (∀ d, d ∉ T.map (·.1) → a'.eval (.tmp d) = a.eval (.tmp d)) → Q .normal a' w') : (Code.region id l.toArray true).wp P Q a w := by
  refine region_all (J := VJ w a T) hm hb (fun _ _ _ h => h.size.trans hl) ?_ ?_ ?_
  · refine ⟨by simp [hl], rfl, rfl, ⟨⟨#[], w.drawn + 1⟩, by simp [more]⟩, fun i d S _ h => ?_, fun d _ => rfl⟩
    rw [Array.getD_eq_getD_getElem?, Array.getElem?_replicate] at h
    split at h <;> simp at h
  · intro done a' w' i hJ hr
    obtain ⟨_, o, ho, _⟩ := mem_ready.1 hr
    have := (Array.getElem?_eq_some_iff.1 ho).1
    exact hstep hT i done a' w' (by rw [hl]; simpa using this) hJ hr
  · intro done a' w' hJ hd
    exact hend a' w' hJ.tmps hJ.defers hJ.grows (fun i d S hi => hJ.vals i d S hi (hd i (by have := (List.getElem?_eq_some_iff.1 hi).1; omega))) hJ.rest
end Go.Proofs.Ythanghgfakibnaa
