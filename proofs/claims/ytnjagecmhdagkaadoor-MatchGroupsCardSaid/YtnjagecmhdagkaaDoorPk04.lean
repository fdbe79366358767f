/-
  Several texts of the proof: NamedS, Named.
-/
import Derived.Test.YtnjagecmhdagkaaDoorPk03
set_option linter.unusedSimpArgs false
set_option linter.unusedVariables false
/-
  Classes: the steps of the map's literal.
-/
namespace Go.Proofs.YtnjagecmhdagkaaDoor
open Go.RowKit Go.MapKept

section
variable {lo : Nat} {w0 : World} {a0 : Act} {done : Array Bool} {a : Act} {w : World} {ops : Array Oper} {Q : Exit → Act → World → Prop} {o : Oper}
set_option maxRecDepth 3000 in
theorem NJ.move (hJ : NJ lo w0 a0 done a w) {j : Nat} (_hr : j ∈ Region.ready .any ops done) (i d s : Nat) (p : Int → Bool) (ho : ops[i]? = some o) (hd : o.dst = some d) (hg : o.guard = none) (hop : o.op = .move (.tmp s)) (hne : ∀ c ∈ clsL, c.2.1 ≠ i) (hds : dsN i = some d) (hsp : spN i = .tell p) (hn : 16 ≤ d ∧ d ≤ 43 ∧ 1 ≤ s ∧ s ≤ 5 ∧ i < 43) (hs : Tells lo w0 (a0.eval (.tmp s)) p) :
    wpOp Tryd.prog ops Q i (NJ lo w0 a0 (done.setIfInBounds i true)) a w := by
  refine wpOp_at ho hg ?_
  unfold Oper.wp
  simp only [execOp, hop, Sem.run_pure, Oper.upon]
  rw [hd]
  refine hJ.put i d _ hds ⟨hn.1, hn.2.1⟩ hne hn.2.2.2.2 (Grows.refl _) ?_
  rw [hsp, hJ.inp s hn.2.2.1 hn.2.2.2.1]
  exact hs.ext hJ.ext
set_option maxRecDepth 3000 in
theorem NJ.load (hJ : NJ lo w0 a0 done a w) {j : Nat} (_hr : j ∈ Region.ready .any ops done) (i d s : Nat) (p : Int → Bool) {g : Nat} {v : Value} (ho : ops[i]? = some o) (hd : o.dst = some d) (hg : o.guard = none) (hop : o.op = .load 129 (.tmp s)) (hne : ∀ c ∈ clsL, c.2.1 ≠ i) (hds : dsN i = some d) (hsp : spN i = .tell p) (hn : 16 ≤ d ∧ d ≤ 43 ∧ 1 ≤ s ∧ s ≤ 5 ∧ i < 43) (hs : a0.eval (.tmp s) = .pointer (some ⟨g, 0, none⟩)) (hc : w0.cell? ⟨g, 0, none⟩ = some v) (hl : lo ≤ g ∧ Tells lo w0 v p) :
    wpOp Tryd.prog ops Q i (NJ lo w0 a0 (done.setIfInBounds i true)) a w := by
  have hc' := hJ.ext.cell hl.1 hc
  have he := hJ.inp s hn.2.2.1 hn.2.2.2.1
  rw [hs] at he
  obtain ⟨f, k, rfl⟩ := hl.2.form
  refine wpOp_at ho hg ?_
  unfold Oper.wp
  have he2 : a.tmps[s]?.getD undef = .pointer (some ⟨g, 0, none⟩) := by simpa [Act.eval] using he
  simp [execOp, hop, go_sem, he2, hc', Oper.upon]
  rw [hd]
  refine hJ.put i d _ hds ⟨hn.1, hn.2.1⟩ hne hn.2.2.2.2 (Grows.refl _) ?_
  rw [hsp]
  exact hl.2.ext hJ.ext
set_option maxRecDepth 3000 in
theorem NJ.span (hJ : NJ lo w0 a0 done a w) {j : Nat} (_hr : j ∈ Region.ready .any ops done) (i d : Nat) (x y : Int) (ho : ops[i]? = some o) (hd : o.dst = some d) (hg : o.guard = none) (hop : o.op = .call { callee := .value (.func 80), args := #[.const (.int .u8 x), .const (.int .u8 y)], argTypes := #[5, 5] }) (hn : (∀ c ∈ clsL, c.2.1 ≠ i) ∧ dsN i = some d ∧ 16 ≤ d ∧ d ≤ 43 ∧ i < 43) (hsp : spN i = .tell (spanP x y)) :
    wpOp Tryd.prog ops Q i (NJ lo w0 a0 (done.setIfInBounds i true)) a w := by
  have hent := enters_of Tryd.func80 (by kernel_rfl) (by kernel_rfl) #[.int .u8 x, .int .u8 y] w
  obtain ⟨h1, h2, h3, h4, h5⟩ := hn
  refine wpOp_at ho hg ?_
  unfold Oper.wp
  simp [execOp, hop, resolve, invoke, hent, Act.eval, Oper.upon]
  refine (span_any x y w).mono ?_
  rintro e w' ⟨v, rfl, hv, hgr⟩
  simp only []
  rw [hd]
  refine hJ.put i d v h2 ⟨h3, h4⟩ h1 h5 hgr ?_
  rw [hsp]
  exact hv.mono (Nat.le_trans hJ.low hJ.grows.below.size)
set_option maxRecDepth 3000 in
theorem NJ.row2 (hJ : NJ lo w0 a0 done a w) {j : Nat} (hr : j ∈ Region.ready .any ops done) (i d : Nat) (i1 d1 : Nat) (p1 : Int → Bool) (i2 d2 : Nat) (p2 : Int → Bool) (ho : ops[i]? = some o) (hd : o.dst = some d) (hg : o.guard = none) (hop : o.op = .buildSlice 158 2 #[(0, .tmp d1), (1, .tmp d2)]) (hn : (∀ c ∈ clsL, c.2.1 ≠ i) ∧ dsN i = some d ∧ 16 ≤ d ∧ d ≤ 43 ∧ i < 43 ∧ i = j) (hsp : spN i = .row [p1, p2])
    (h1 : dsN i1 = some d1) (k1 : spN i1 = .tell p1) (b1 : depB ops i i1 = true) (h2 : dsN i2 = some d2) (k2 : spN i2 = .tell p2) (b2 : depB ops i i2 = true) :
    wpOp Tryd.prog ops Q i (NJ lo w0 a0 (done.setIfInBounds i true)) a w := by
  obtain ⟨n1, n2, n3, n4, n5, rfl⟩ := hn
  have t1 := hJ.sp i1 d1 h1 (ready_dep hr b1)
  have t2 := hJ.sp i2 d2 h2 (ready_dep hr b2)
  rw [k1] at t1
  rw [k2] at t2
  obtain ⟨f1, c1, e1⟩ := Tells.form t1
  obtain ⟨f2, c2, e2⟩ := Tells.form t2
  rw [e1] at t1
  rw [e2] at t2
  have q1 : a.tmps[d1]?.getD undef = .func (.func f1) #[] c1 := by simpa [Act.eval] using e1
  have q2 : a.tmps[d2]?.getD undef = .func (.func f2) #[] c2 := by simpa [Act.eval] using e2
  refine wpOp_at ho hg ?_
  unfold Oper.wp
  simp [execOp, hop, go_sem, q1, q2, Oper.upon, Act.eval]
  rw [hd]
  refine hJ.put i d (.slice (some ⟨w.heap.size, 0, none⟩) 2 2) n2 ⟨n3, n4⟩ n1 n5 ((Grows.refl _).alloc _) ?_
  rw [hsp]
  exact ⟨w.heap.size, 2, [.func (.func f1) #[] c1, .func (.func f2) #[] c2], rfl, rfl, Nat.le_trans hJ.low hJ.grows.below.size, by omega, rd_new w #[.func (.func f1) #[] c1, .func (.func f2) #[] c2] _ 2 _ rfl rfl, (TellAll.two t1 t2).grows ((Grows.refl _).alloc _)⟩
set_option maxRecDepth 3000 in
theorem NJ.row3 (hJ : NJ lo w0 a0 done a w) {j : Nat} (hr : j ∈ Region.ready .any ops done) (i d : Nat) (i1 d1 : Nat) (p1 : Int → Bool) (i2 d2 : Nat) (p2 : Int → Bool) (i3 d3 : Nat) (p3 : Int → Bool) (ho : ops[i]? = some o) (hd : o.dst = some d) (hg : o.guard = none) (hop : o.op = .buildSlice 158 3 #[(0, .tmp d1), (1, .tmp d2), (2, .tmp d3)]) (hn : (∀ c ∈ clsL, c.2.1 ≠ i) ∧ dsN i = some d ∧ 16 ≤ d ∧ d ≤ 43 ∧ i < 43 ∧ i = j) (hsp : spN i = .row [p1, p2, p3])
    (h1 : dsN i1 = some d1) (k1 : spN i1 = .tell p1) (b1 : depB ops i i1 = true) (h2 : dsN i2 = some d2) (k2 : spN i2 = .tell p2) (b2 : depB ops i i2 = true) (h3 : dsN i3 = some d3) (k3 : spN i3 = .tell p3) (b3 : depB ops i i3 = true) :
    wpOp Tryd.prog ops Q i (NJ lo w0 a0 (done.setIfInBounds i true)) a w := by
  obtain ⟨n1, n2, n3, n4, n5, rfl⟩ := hn
  have t1 := hJ.sp i1 d1 h1 (ready_dep hr b1)
  have t2 := hJ.sp i2 d2 h2 (ready_dep hr b2)
  have t3 := hJ.sp i3 d3 h3 (ready_dep hr b3)
  rw [k1] at t1
  rw [k2] at t2
  rw [k3] at t3
  obtain ⟨f1, c1, e1⟩ := Tells.form t1
  obtain ⟨f2, c2, e2⟩ := Tells.form t2
  obtain ⟨f3, c3, e3⟩ := Tells.form t3
  rw [e1] at t1
  rw [e2] at t2
  rw [e3] at t3
  have q1 : a.tmps[d1]?.getD undef = .func (.func f1) #[] c1 := by simpa [Act.eval] using e1
  have q2 : a.tmps[d2]?.getD undef = .func (.func f2) #[] c2 := by simpa [Act.eval] using e2
  have q3 : a.tmps[d3]?.getD undef = .func (.func f3) #[] c3 := by simpa [Act.eval] using e3
  refine wpOp_at ho hg ?_
  unfold Oper.wp
  simp [execOp, hop, go_sem, q1, q2, q3, Oper.upon, Act.eval]
  rw [hd]
  refine hJ.put i d (.slice (some ⟨w.heap.size, 0, none⟩) 3 3) n2 ⟨n3, n4⟩ n1 n5 ((Grows.refl _).alloc _) ?_
  rw [hsp]
  exact ⟨w.heap.size, 3, [.func (.func f1) #[] c1, .func (.func f2) #[] c2, .func (.func f3) #[] c3], rfl, rfl, Nat.le_trans hJ.low hJ.grows.below.size, by omega, rd_new w #[.func (.func f1) #[] c1, .func (.func f2) #[] c2, .func (.func f3) #[] c3] _ 3 _ rfl rfl, (TellAll.three t1 t2 t3).grows ((Grows.refl _).alloc _)⟩
set_option maxRecDepth 3000 in
theorem NJ.call_ (hJ : NJ lo w0 a0 done a w) {j : Nat} (hr : j ∈ Region.ready .any ops done) (i d i1 d1 : Nat) (ps : List (Int → Bool)) (ho : ops[i]? = some o) (hd : o.dst = some d) (hg : o.guard = none) (hop : o.op = .call { callee := .value (.func 87), args := #[.tmp d1], argTypes := #[158] }) (hn : (∀ c ∈ clsL, c.2.1 ≠ i) ∧ dsN i = some d ∧ 16 ≤ d ∧ d ≤ 43 ∧ i < 43 ∧ i = j ∧ dsN i1 = some d1) (hsp : spN i = .tell (someP ps)) (k1 : spN i1 = .row ps) (b1 : depB ops i i1 = true) :
    wpOp Tryd.prog ops Q i (NJ lo w0 a0 (done.setIfInBounds i true)) a w := by
  obtain ⟨n1, n2, n3, n4, n5, rfl, n6⟩ := hn
  have t1 := hJ.sp i1 d1 n6 (ready_dep hr b1)
  rw [k1] at t1
  obtain ⟨g, n, vs, e1, e2, e3, e4, e5, e6⟩ := t1
  have q1 : a.tmps[d1]?.getD undef = .slice (some ⟨g, 0, none⟩) n n := by simpa [Act.eval] using e1
  have hent := enters_of Tryd.func87 (by kernel_rfl) (by kernel_rfl) #[.slice (some ⟨g, 0, none⟩) n n] w
  have hlo := Nat.le_trans hJ.low hJ.grows.below.size
  refine wpOp_at ho hg ?_
  unfold Oper.wp
  simp [execOp, hop, resolve, invoke, hent, Act.eval, Oper.upon, q1]
  refine (some_any vs ps lo g 0 n n w (by omega) e2 e3 hlo e5 e6).mono ?_
  rintro e w' ⟨v, rfl, hv, hgr⟩
  simp only []
  rw [hd]
  refine hJ.put i d v n2 ⟨n3, n4⟩ n1 n5 hgr ?_
  rw [hsp]
  exact hv
set_option maxRecDepth 3000 in
theorem NJ.fn (hJ : NJ lo w0 a0 done a w) {j : Nat} (_hr : j ∈ Region.ready .any ops done) {g4 g5 : Nat} {v4 v5 : Value} {p4 p5 : Int → Bool} (ho : ops[39]? = some o) (hd : o.dst = some 43) (hg : o.guard = none) (hop : o.op = .makeFunc (.func 88) #[] #[.tmp 5, .tmp 4]) (hsp : spN 39 = .tell fun c => p5 c && !(p4 c))
    (h4 : a0.eval (.tmp 4) = .pointer (some ⟨g4, 0, none⟩)) (h5 : a0.eval (.tmp 5) = .pointer (some ⟨g5, 0, none⟩)) (c4 : w0.cell? ⟨g4, 0, none⟩ = some v4) (c5 : w0.cell? ⟨g5, 0, none⟩ = some v5) (i4 : lo ≤ g4 ∧ Tells lo w0 v4 p4) (i5 : lo ≤ g5 ∧ Tells lo w0 v5 p5) :
    wpOp Tryd.prog ops Q 39 (NJ lo w0 a0 (done.setIfInBounds 39 true)) a w := by
  have e4 := hJ.inp 4 (by omega) (by omega)
  have e5 := hJ.inp 5 (by omega) (by omega)
  rw [h4] at e4
  rw [h5] at e5
  have q4 : a.tmps[4]?.getD undef = .pointer (some ⟨g4, 0, none⟩) := by simpa [Act.eval] using e4
  have q5 : a.tmps[5]?.getD undef = .pointer (some ⟨g5, 0, none⟩) := by simpa [Act.eval] using e5
  obtain ⟨f4, k4, rfl⟩ := i4.2.form
  obtain ⟨f5, k5, rfl⟩ := i5.2.form
  refine wpOp_at ho hg ?_
  unfold Oper.wp
  simp [execOp, hop, go_sem, q4, q5, Oper.upon, Act.eval]
  rw [hd]
  refine hJ.put 39 43 _ rfl (by decide) (by decide) (by decide) (Grows.refl _) ?_
  rw [hsp]
  refine ⟨_, _, rfl, enters_of Tryd.func88 (by kernel_rfl) (by kernel_rfl), fun w' c hw h0 h1 => ?_⟩
  exact punct_any f5 f4 k5 k4 p5 p4 c g5 g4 w' h0 h1 ((hJ.ext.trans hw).cell i5.1 c5) ((hJ.ext.trans hw).cell i4.1 c4) lo (i5.2.ext (hJ.ext.trans hw)) (i4.2.ext (hJ.ext.trans hw))
set_option maxRecDepth 3000 in
/-- The facts that hold of every step. -/
theorem NJ.base (hJ : NJ lo w0 a0 done a w) {w' : World} (i d : Nat) (v : Value) (hd : dsN i = some d) (hr : d = 0 ∨ (6 ≤ d ∧ d < 45)) (hi : i < 43) (hg : Grows w0 w') (hx : Ext lo w w') (hv : SpOk lo w' (spN i) v)
    (hmap : (done.setIfInBounds i true).getD 0 false = true → ∃ r es clk, (a.put (some d) v).eval (.tmp 15) = .map (some r) ∧ w0.heap.size ≤ r ∧ w'.heap[r]? = some (.map es clk) ∧ StrKeys es.toList ∧ MapIn lo (done.setIfInBounds i true) w' es.toList)
    (hnone : (done.setIfInBounds i true).getD 0 false = false → ∀ c ∈ clsL, (done.setIfInBounds i true).getD c.2.1 false = false)
    (hlate : (done.setIfInBounds i true).getD 0 false = false → (done.setIfInBounds i true).getD 41 false = false ∧ (done.setIfInBounds i true).getD 42 false = false)
    (hlast : (done.setIfInBounds i true).getD 41 false = true → (a.put (some d) v).eval (.tmp 44) = (a.put (some d) v).eval (.tmp 15))
    (hback : (done.setIfInBounds i true).getD 42 false = true → (a.put (some d) v).eval (.tmp 0) = (a.put (some d) v).eval (.tmp 15)) : NJ lo w0 a0 (done.setIfInBounds i true) (a.put (some d) v) w' := by
  have hsz := hJ.size
  have htm := hJ.tmps
  have hev : ∀ t : Nat, t ≠ d → (a.put (some d) v).eval (.tmp t) = a.eval (.tmp t) := fun t ht => by rw [eval_put _ _ _ _ (by omega), if_neg (Ne.symm ht)]
  refine ⟨by simp [hsz], by simp [Act.put, htm], fun t h1 h2 => (hev t (by omega)).trans (hJ.inp t h1 h2), hJ.defers, hJ.low, hg, hJ.ext.trans hx, fun j e he hdn => ?_, hmap, hnone, hlate, hlast, hback⟩
  by_cases hij : i = j
  · subst hij
    obtain rfl : d = e := by rw [hd] at he; injection he
    rw [eval_put _ _ _ _ (by omega), if_pos rfl]
    exact hv
  · rw [done_set (by omega), if_neg hij] at hdn
    have hde : e ≠ d := by rintro rfl; exact hij (dsN_inj hd he)
    rw [hev e hde]
    exact (hJ.sp j e he hdn).ext hx
set_option maxRecDepth 3000 in
theorem NJ.undone (hJ : NJ lo w0 a0 done a w) {i : Nat} (hr : i ∈ Region.ready .any ops done) (hi : i < 43) : done.getD i false = false := by
  have h := (mem_ready.1 hr).1
  have := hJ.size
  simp only [Array.getD_eq_getD_getElem?] at h ⊢
  rw [Array.getElem?_eq_getElem (by omega)] at h ⊢
  exact h
set_option maxRecDepth 3000 in
theorem NJ.make (hJ : NJ lo w0 a0 done a w) (hr : 0 ∈ Region.ready .any ops done) (ho : ops[0]? = some o) (hd : o.dst = some 15) (hg : o.guard = none) (hop : o.op = .makeMap 143 none) :
    wpOp Tryd.prog ops Q 0 (NJ lo w0 a0 (done.setIfInBounds 0 true)) a w := by
  have hu := hJ.undone hr (by omega)
  have hsz := hJ.size
  have htm := hJ.tmps
  have hno := hJ.none_ hu
  refine wpOp_at ho hg ?_
  unfold Oper.wp
  simp [execOp, hop, Instr.makeMap, Oper.upon, Act.eval]
  rw [hd]
  have hgr : Grows w (w.alloc (.map #[] 0)) := (Grows.refl _).alloc _
  refine hJ.base 0 15 (.map (some w.heap.size)) rfl (by omega) (by omega) (hJ.grows.trans hgr) (hgr.ext lo) trivial (fun _ => ?_) (fun h => ?_) (fun h => ?_) (fun h => ?_) (fun h => ?_)
  · refine ⟨w.heap.size, #[], 0, by rw [eval_put _ _ _ _ (by omega), if_pos rfl], hJ.grows.below.size, heap_alloc_new _ _, by intro e he; simp at he, fun k => ?_⟩
    cases hc : clsOf k with
    | none => rfl
    | some x =>
      obtain ⟨i, p⟩ := x
      have hi : i ≠ 0 ∧ done.getD i false = false := by
        unfold clsOf at hc
        rw [Option.map_eq_some_iff] at hc
        obtain ⟨c, hc1, hc2⟩ := hc
        have h1 := List.mem_of_find?_eq_some hc1
        have h2 := hno c h1
        rw [hc2] at h2
        refine ⟨?_, h2⟩
        rintro rfl
        have : ∀ c ∈ clsL, c.2.1 ≠ 0 := by decide
        exact this c h1 (by rw [hc2])
      simp only [done_set (show 0 < done.size by omega), if_neg (Ne.symm hi.1), hi.2]
      rfl
  · rw [done_set (by omega), if_pos rfl] at h; cases h
  · rw [done_set (by omega), if_pos rfl] at h; cases h
  · rw [done_set (by omega), if_neg (by omega), (hJ.late hu).1] at h; cases h
  · rw [done_set (by omega), if_neg (by omega), (hJ.late hu).2] at h; cases h
set_option maxRecDepth 3000 in
theorem NJ.last_ (hJ : NJ lo w0 a0 done a w) (hr : 41 ∈ Region.ready .any ops done) (ho : ops[41]? = some o) (hd : o.dst = some 44) (hg : o.guard = none) (hop : o.op = .move (.tmp 15)) (b0 : depB ops 41 0 = true) :
    wpOp Tryd.prog ops Q 41 (NJ lo w0 a0 (done.setIfInBounds 41 true)) a w := by
  have h0 := ready_dep hr b0
  have hsz := hJ.size
  have htm := hJ.tmps
  refine wpOp_at ho hg ?_
  unfold Oper.wp
  simp only [execOp, hop, Sem.run_pure, Oper.upon]
  rw [hd]
  have hev : ∀ t : Nat, t ≠ 44 → (a.put (some 44) (a.eval (.tmp 15))).eval (.tmp t) = a.eval (.tmp t) := fun t ht => by rw [eval_put _ _ _ _ (by omega), if_neg (Ne.symm ht)]
  have hd0 : (done.setIfInBounds 41 true).getD 0 false = true := by rw [done_set (by omega), if_neg (by omega)]; exact h0
  refine hJ.base 41 44 _ rfl (by omega) (by omega) hJ.grows (Ext.refl _ _) trivial (fun _ => ?_) (fun h => ?_) (fun h => ?_) (fun _ => ?_) (fun h => ?_)
  · rw [hev 15 (by omega)]
    exact hJ.maps h0 (Grows.refl _) fun c hc => by
      have : ∀ c ∈ clsL, (41 : Nat) ≠ c.2.1 := by decide
      rw [done_set (by omega), if_neg (this c hc)]
  · rw [hd0] at h; cases h
  · rw [hd0] at h; cases h
  · rw [eval_put _ _ _ _ (by omega), if_pos rfl, hev 15 (by omega)]
  · rw [done_set (by omega), if_neg (by omega)] at h
    rw [hev 0 (by omega), hev 15 (by omega)]
    exact hJ.back h
set_option maxRecDepth 3000 in
theorem NJ.back_ (hJ : NJ lo w0 a0 done a w) (hr : 42 ∈ Region.ready .any ops done) (ho : ops[42]? = some o) (hd : o.dst = some 0) (hg : o.guard = none) (hop : o.op = .assign (.tmp 44)) (b0 : depB ops 42 0 = true) (b1 : depB ops 42 41 = true) :
    wpOp Tryd.prog ops Q 42 (NJ lo w0 a0 (done.setIfInBounds 42 true)) a w := by
  have h0 := ready_dep hr b0
  have h1 := ready_dep hr b1
  have hsz := hJ.size
  have htm := hJ.tmps
  refine wpOp_at ho hg ?_
  unfold Oper.wp
  simp only [execOp, hop, Sem.run_pure, Oper.upon]
  rw [hd]
  have hev : ∀ t : Nat, t ≠ 0 → (a.put (some 0) (a.eval (.tmp 44))).eval (.tmp t) = a.eval (.tmp t) := fun t ht => by rw [eval_put _ _ _ _ (by omega), if_neg (Ne.symm ht)]
  have hd0 : (done.setIfInBounds 42 true).getD 0 false = true := by rw [done_set (by omega), if_neg (by omega)]; exact h0
  refine hJ.base 42 0 _ rfl (by omega) (by omega) hJ.grows (Ext.refl _ _) trivial (fun _ => ?_) (fun h => ?_) (fun h => ?_) (fun h => ?_) (fun _ => ?_)
  · rw [hev 15 (by omega)]
    exact hJ.maps h0 (Grows.refl _) fun c hc => by
      have : ∀ c ∈ clsL, (42 : Nat) ≠ c.2.1 := by decide
      rw [done_set (by omega), if_neg (this c hc)]
  · rw [hd0] at h; cases h
  · rw [hd0] at h; cases h
  · rw [hev 44 (by omega), hev 15 (by omega)]
    exact hJ.last h1
  · rw [eval_put _ _ _ _ (by omega), if_pos rfl, hev 15 (by omega)]
    exact hJ.last h1
set_option maxRecDepth 3000 in
theorem cls_key {k : ByteArray} {i : Nat} {p : Int → Bool} (h : clsOf k = some (i, p)) : ∃ c ∈ clsL, c.1 = k ∧ c.2 = (i, p) := by
  unfold clsOf at h
  rw [Option.map_eq_some_iff] at h
  obtain ⟨c, h1, h2⟩ := h
  exact ⟨c, List.mem_of_find?_eq_some h1, ba_eq (by simpa using List.find?_some h1), h2⟩
set_option maxRecDepth 3000 in
theorem cls_inj {k k' : ByteArray} {i : Nat} {p p' : Int → Bool} (h : clsOf k = some (i, p)) (h' : clsOf k' = some (i, p')) : k = k' := by
  obtain ⟨c, h1, rfl, h3⟩ := cls_key h
  obtain ⟨c', h1', rfl, h3'⟩ := cls_key h'
  have key : ∀ c ∈ clsL, ∀ c' ∈ clsL, c.2.1 = c'.2.1 → c.1 = c'.1 := by decide
  exact key c h1 c' h1' (by rw [h3, h3'])
set_option maxRecDepth 3000 in
theorem NJ.ins (hJ : NJ lo w0 a0 done a w) {j : Nat} (hr : j ∈ Region.ready .any ops done) (i : Nat) (k : ByteArray) (dep slot : Nat) (p : Int → Bool) (ho : ops[i]? = some o) (hd : o.dst = none) (hg : o.guard = none) (hop : o.op = .insert 143 (.tmp 15) (.const (.string k)) (.tmp slot)) (hn : dsN i = none ∧ i ≠ 0 ∧ i ≠ 41 ∧ i ≠ 42 ∧ i < 43 ∧ i = j) (hds : dsN dep = some slot) (hsp : spN dep = .tell p) (b0 : depB ops i 0 = true) (b1 : depB ops i dep = true) (hcl : clsOf k = some (i, p)) :
    wpOp Tryd.prog ops Q i (NJ lo w0 a0 (done.setIfInBounds i true)) a w := by
  obtain ⟨n1, n2, n3, n4, n5, rfl⟩ := hn
  have h0 := ready_dep hr b0
  have hu := hJ.undone hr n5
  have hsz := hJ.size
  have t1 := hJ.sp dep slot hds (ready_dep hr b1)
  rw [hsp] at t1
  obtain ⟨r, es, clk, e1, e2, e3, e4, e5⟩ := hJ.map h0
  have q1 : a.tmps[15]?.getD undef = .map (some r) := by simpa [Act.eval] using e1
  have hlk : look es.toList k = none := by
    have := e5 k
    rw [hcl] at this
    simpa [hu] using this
  refine wpOp_at ho hg ?_
  unfold Oper.wp
  simp [execOp, hop, Act.eval, q1, Oper.upon, run_update_new Tryd.underlying143 Tryd.underlying9 k _ e3 e4 hlk]
  rw [hd]
  have hlt : r < w.heap.size := (Array.getElem?_eq_some_iff.1 e3).1
  have hw0 := hJ.grows.below
  have hoth : ∀ b, b ≠ r → (w.heap.setIfInBounds r (Obj.map (es.push { key := Value.string k, val := a.tmps[slot]?.getD undef, born := clk }) (clk + 1)))[b]? = w.heap[b]? := fun b hb => by simp [Ne.symm hb]
  have hx : Ext lo w { heap := w.heap.setIfInBounds r (Obj.map (es.push { key := Value.string k, val := a.tmps[slot]?.getD undef, born := clk }) (clk + 1)), tape := w.tape, drawn := w.drawn, os := w.os, output := w.output } := fun b c t f _ hb => by
    have : b ≠ r := by rintro rfl; rw [e3] at hb; cases hb
    exact (hoth b this).trans hb
  have hg2 : Grows w0 { heap := w.heap.setIfInBounds r (Obj.map (es.push { key := Value.string k, val := a.tmps[slot]?.getD undef, born := clk }) (clk + 1)), tape := w.tape, drawn := w.drawn, os := w.os, output := w.output } :=
    Grows.of_below ⟨hw0.os, hw0.tape, hw0.output, by simpa using hw0.size, fun b hb => (hoth b (by omega)).trans (hw0.block b hb)⟩
  have hv : a.tmps[slot]?.getD undef = a.eval (.tmp slot) := by simp [Act.eval]
  rw [← hv] at t1
  generalize a.tmps[slot]?.getD undef = v at *
  generalize hW : (⟨w.heap.setIfInBounds r (Obj.map (es.push { key := Value.string k, val := v, born := clk }) (clk + 1)), w.tape, w.drawn, w.os, w.output⟩ : World) = W at *
  have hWr : W.heap[r]? = some (.map (es.push { key := .string k, val := v, born := clk }) (clk + 1)) := by rw [← hW]; simp [hlt]
  clear hoth hW
  refine ⟨by simp [hsz], hJ.tmps, hJ.inp, hJ.defers, hJ.low, hg2, hJ.ext.trans hx, fun j d he hdn => ?_, fun _ => ?_, fun h => ?_, fun h => ?_, fun h => ?_, fun h => ?_⟩
  · have hij : i ≠ j := by rintro rfl; rw [n1] at he; cases he
    rw [done_set (by omega), if_neg hij] at hdn
    exact (hJ.sp j d he hdn).ext hx
  · refine ⟨r, _, _, e1, e2, hWr, fun e he => ?_, fun k' => ?_⟩
    · simp only [Array.toList_push, List.mem_append, List.mem_singleton] at he
      rcases he with he | rfl
      · exact e4 e he
      · exact ⟨k, rfl⟩
    · have h5 := e5 k'
      rw [Array.toList_push, look_push]
      have hkk : keyIs (Value.string k) k' = (k' == k) := rfl
      simp only [hkk]
      by_cases hk : k' = k
      · subst hk
        rw [hcl, hlk, ba_refl]
        simp only [done_set (show i < done.size by omega), if_true, Option.none_or]
        exact ⟨v, rfl, t1.ext hx⟩
      · have hkn : (k' == k) = false := by
          cases hb : (k' == k)
          · rfl
          · exact absurd (ba_eq hb) hk
        rw [hkn]
        simp only [Bool.false_eq_true, if_false, Option.or_none]
        cases hc : clsOf k' with
        | none => rw [hc] at h5; exact h5
        | some x =>
          obtain ⟨i', p'⟩ := x
          rw [hc] at h5
          have hii : i ≠ i' := by rintro rfl; exact hk (cls_inj hc hcl)
          simp only [done_set (show i < done.size by omega), if_neg hii] at h5 ⊢
          split
          · rename_i hh
            rw [if_pos hh] at h5
            obtain ⟨u, hu1, hu2⟩ := h5
            exact ⟨u, hu1, hu2.ext hx⟩
          · rename_i hh
            rw [if_neg hh] at h5
            exact h5
  · rw [done_set (by omega), if_neg n2, h0] at h; cases h
  · rw [done_set (by omega), if_neg n2, h0] at h; cases h
  · rw [done_set (by omega), if_neg n3] at h; exact hJ.last h
  · rw [done_set (by omega), if_neg n4] at h; exact hJ.back h
end
end Go.Proofs.YtnjagecmhdagkaaDoor

/-
  Classes: named, walked.
-/
namespace Go.Proofs.YtnjagecmhdagkaaDoor
open Go.RowKit Go.MapKept

/-- The map of the classes, in memory. -/
def IsMap (lo : Nat) (w : World) (r : Nat) : Prop := ∃ es clk, w.heap[r]? = some (.map es clk) ∧ StrKeys es.toList ∧ ∀ k, match clsOf k with
  | none => look es.toList k = none
  | some (_, p) => ∃ v, look es.toList k = some v ∧ Tells lo w v p
set_option maxRecDepth 3000 in
theorem none_done (n i : Nat) : (Array.replicate n false).getD i false = false := by
  simp only [Array.getD_eq_getD_getElem?, Array.getElem?_replicate]
  split <;> rfl

set_option maxRecDepth 3000 in
theorem region_from {P : Program} {Q : Exit → Act → World → Prop} {id : Nat} {a : Act} {w : World} {l : List Oper} (J : Act → Array Bool → Act → World → Prop) (hm : P.follows .mixedOrders = true) (hb : backB l = true) (hsz : ∀ a0 done a w, J a0 done a w → done.size = l.length)
    (hstart : J a (Array.replicate l.length false) a { w with drawn := w.drawn + 1 })
    (hstep : ∀ done a' w i, J a done a' w → i ∈ Region.ready .any l.toArray done → wpOp P l.toArray Q i (J a (done.setIfInBounds i true)) a' w)
    (hend : ∀ done a' w, J a done a' w → (∀ i, i < l.length → done.getD i false = true) → Q .normal a' w) : (Code.region id l.toArray true).wp P Q a w :=
  region_all (J := J a) hm hb (fun done a' w h => hsz _ _ _ _ h) hstart hstep hend
set_option maxRecDepth 100000 in
set_option maxHeartbeats 4000000 in
theorem named_any (w : World) : Calls Tryd.prog 79 #[] w fun e w' => ∃ r, e = .returned (.map (some r)) ∧ IsMap w.heap.size w' r ∧ Grows w w' := by
  go_enter Tryd.func79, Tryd.ntmps79
  go_wp2_with fail
  (with_reducible refine (span_any 97 122 _).mono ?_)
  rintro e w1 ⟨v1, rfl, h1, m1, rfl⟩
  obtain ⟨f1, k1, rfl⟩ := h1.form
  have h1 := h1.mono (show w.heap.size ≤ _ by simp [go_sem]; try omega)
  go_wp2_with fail
  (with_reducible refine (span_any 65 90 _).mono ?_)
  rintro e w1 ⟨v2, rfl, h2, m2, rfl⟩
  obtain ⟨f2, k2, rfl⟩ := h2.form
  have h2 := h2.mono (show w.heap.size ≤ _ by simp [go_sem]; try omega)
  go_wp2_with fail
  (with_reducible refine (span_any 48 57 _).mono ?_)
  rintro e w1 ⟨v3, rfl, h3, m3, rfl⟩
  obtain ⟨f3, k3, rfl⟩ := h3.form
  have h3 := h3.mono (show w.heap.size ≤ _ by simp [go_sem]; try omega)
  go_wp2_with fail
  (with_reducible refine (some_new #[.func (.func f1) #[] k1, .func (.func f2) #[] k2, .func (.func f3) #[] k3] [spanP 97 122, spanP 65 90, spanP 48 57] w.heap.size _ 3 3 _ _ ?_ ?_ rfl (by simp) ?_).mono ?_)
  · simp [go_sem]
  · simp [go_sem]; try omega
  · exact TellAll.three (h1.grows (by repeat' first | exact Grows.refl _ | refine Grows.more ?_ _ | refine Grows.alloc ?_ _ | refine Grows.drew ?_)) (h2.grows (by repeat' first | exact Grows.refl _ | refine Grows.more ?_ _ | refine Grows.alloc ?_ _ | refine Grows.drew ?_)) (h3.grows (by repeat' first | exact Grows.refl _ | refine Grows.more ?_ _ | refine Grows.alloc ?_ _ | refine Grows.drew ?_))
  rintro e w1 ⟨v4, rfl, h4, m4, rfl⟩
  obtain ⟨f4, k4, rfl⟩ := h4.form
  go_wp2_with fail
  (with_reducible refine (span_any 33 126 _).mono ?_)
  rintro e w1 ⟨v5, rfl, h5, m5, rfl⟩
  obtain ⟨f5, k5, rfl⟩ := h5.form
  have h5 := h5.mono (show w.heap.size ≤ _ by simp [go_sem]; try omega)
  go_wp2_with fail
  have hsz : ∀ x y : Obj, ((((more (more ((more (more (more w m1) m2) m3).alloc (.cells #[.func (.func f1) #[] k1, .func (.func f2) #[] k2, .func (.func f3) #[] k3] 129)) m4) m5).alloc x).alloc y)).heap.size = w.heap.size + m1.bs.size + m2.bs.size + m3.bs.size + 1 + m4.bs.size + m5.bs.size + 1 + 1 := fun x y => by simp [go_sem]
  obtain ⟨X, hX⟩ : ∃ X, X = ((more (more ((more (more (more w m1) m2) m3).alloc (.cells #[.func (.func f1) #[] k1, .func (.func f2) #[] k2, .func (.func f3) #[] k3] 129)) m4) m5).alloc (.cells #[.func (.func f4) #[] k4] 129)).alloc (.cells #[.func (.func f5) #[] k5] 129) := ⟨_, rfl⟩
  have h1 : Tells w.heap.size X (.func (.func f1) #[] k1) (spanP 97 122) := by rw [hX]; exact h1.grows (by repeat' first | exact Grows.refl _ | refine Grows.more ?_ _ | refine Grows.alloc ?_ _ | refine Grows.drew ?_)
  have h2 : Tells w.heap.size X (.func (.func f2) #[] k2) (spanP 65 90) := by rw [hX]; exact h2.grows (by repeat' first | exact Grows.refl _ | refine Grows.more ?_ _ | refine Grows.alloc ?_ _ | refine Grows.drew ?_)
  have h3 : Tells w.heap.size X (.func (.func f3) #[] k3) (spanP 48 57) := by rw [hX]; exact h3.grows (by repeat' first | exact Grows.refl _ | refine Grows.more ?_ _ | refine Grows.alloc ?_ _ | refine Grows.drew ?_)
  have t4 : Tells w.heap.size X (.func (.func f4) #[] k4) (someP [spanP 97 122, spanP 65 90, spanP 48 57]) := by rw [hX]; exact h4.grows (by repeat' first | exact Grows.refl _ | refine Grows.more ?_ _ | refine Grows.alloc ?_ _ | refine Grows.drew ?_)
  have t5 : Tells w.heap.size X (.func (.func f5) #[] k5) (spanP 33 126) := by rw [hX]; exact h5.grows (by repeat' first | exact Grows.refl _ | refine Grows.more ?_ _ | refine Grows.alloc ?_ _ | refine Grows.drew ?_)
  have c4 : X.cell? ⟨w.heap.size + m1.bs.size + m2.bs.size + m3.bs.size + 1 + m4.bs.size + m5.bs.size, 0, none⟩ = some (.func (.func f4) #[] k4) := by rw [hX]; simp [go_sem]
  have c5 : X.cell? ⟨w.heap.size + m1.bs.size + m2.bs.size + m3.bs.size + 1 + m4.bs.size + m5.bs.size + 1, 0, none⟩ = some (.func (.func f5) #[] k5) := by rw [hX]; simp [go_sem]
  have hgX : Grows w X := by rw [hX]; exact (by repeat' first | exact Grows.refl _ | refine Grows.more ?_ _ | refine Grows.alloc ?_ _ | refine Grows.drew ?_)
  have hlo := hgX.below.size
  have i4 : w.heap.size ≤ w.heap.size + m1.bs.size + m2.bs.size + m3.bs.size + 1 + m4.bs.size + m5.bs.size ∧ Tells w.heap.size X (.func (.func f4) #[] k4) (someP [spanP 97 122, spanP 65 90, spanP 48 57]) := ⟨by omega, t4⟩
  have i5 : w.heap.size ≤ w.heap.size + m1.bs.size + m2.bs.size + m3.bs.size + 1 + m4.bs.size + m5.bs.size + 1 ∧ Tells w.heap.size X (.func (.func f5) #[] k5) (spanP 33 126) := ⟨by omega, t5⟩
  rw [← hX]
  clear hX hsz
  refine region_from (NJ w.heap.size X) (by kernel_rfl) (by kernel_rfl) (fun a0 done a w' hJ => hJ.size) ?start ?step ?fin
  case start =>
    exact ⟨by simp, by simp, fun t _ _ => rfl, rfl, hlo, (Grows.refl X).drew, (Grows.refl X).drew.ext _, fun i d _ h => (by rw [none_done] at h; cases h), fun h => (by rw [none_done] at h; cases h), fun _ c _ => none_done _ _, fun _ => ⟨none_done _ _, none_done _ _⟩, fun h => (by rw [none_done] at h; cases h), fun h => (by rw [none_done] at h; cases h)⟩
  case step =>
    intro done a w' i hJ hr
    have hi : i < 43 := by
      obtain ⟨_, o, ho, _⟩ := mem_ready.1 hr
      have := (Array.getElem?_eq_some_iff.1 ho).1
      simpa using this
    match i, hi, hr with
    | 0, _, hr =>
      exact hJ.make hr rfl rfl rfl rfl
    | 1, _, hr =>
      exact hJ.move hr 1 16 1 (spanP 97 122) rfl rfl rfl rfl (by decide) rfl rfl (by decide) h1
    | 2, _, hr =>
      exact hJ.ins hr 2 ⟨#[108, 111, 119, 101, 114]⟩ 1 16 _ rfl rfl rfl rfl (by decide) rfl rfl (by kernel_rfl) (by kernel_rfl) (by kernel_rfl)
    | 3, _, hr =>
      exact hJ.move hr 3 17 2 (spanP 65 90) rfl rfl rfl rfl (by decide) rfl rfl (by decide) h2
    | 4, _, hr =>
      exact hJ.ins hr 4 ⟨#[117, 112, 112, 101, 114]⟩ 3 17 _ rfl rfl rfl rfl (by decide) rfl rfl (by kernel_rfl) (by kernel_rfl) (by kernel_rfl)
    | 5, _, hr =>
      exact hJ.move hr 5 18 3 (spanP 48 57) rfl rfl rfl rfl (by decide) rfl rfl (by decide) h3
    | 6, _, hr =>
      exact hJ.ins hr 6 ⟨#[100, 105, 103, 105, 116]⟩ 5 18 _ rfl rfl rfl rfl (by decide) rfl rfl (by kernel_rfl) (by kernel_rfl) (by kernel_rfl)
    | 7, _, hr =>
      exact hJ.load hr 7 19 4 (someP [(spanP 97 122), (spanP 65 90), (spanP 48 57)]) rfl rfl rfl rfl (by decide) rfl rfl (by decide) rfl c4 i4
    | 8, _, hr =>
      exact hJ.ins hr 8 ⟨#[97, 108, 110, 117, 109]⟩ 7 19 _ rfl rfl rfl rfl (by decide) rfl rfl (by kernel_rfl) (by kernel_rfl) (by kernel_rfl)
    | 9, _, hr =>
      exact hJ.load hr 9 20 5 (spanP 33 126) rfl rfl rfl rfl (by decide) rfl rfl (by decide) rfl c5 i5
    | 10, _, hr =>
      exact hJ.ins hr 10 ⟨#[103, 114, 97, 112, 104]⟩ 9 20 _ rfl rfl rfl rfl (by decide) rfl rfl (by kernel_rfl) (by kernel_rfl) (by kernel_rfl)
    | 11, _, hr =>
      exact hJ.move hr 11 21 1 (spanP 97 122) rfl rfl rfl rfl (by decide) rfl rfl (by decide) h1
    | 12, _, hr =>
      exact hJ.move hr 12 22 2 (spanP 65 90) rfl rfl rfl rfl (by decide) rfl rfl (by decide) h2
    | 13, _, hr =>
      exact hJ.row2 hr 13 23 11 21 (spanP 97 122) 12 22 (spanP 65 90) rfl rfl rfl rfl (by decide) rfl rfl rfl (by kernel_rfl) rfl rfl (by kernel_rfl)
    | 14, _, hr =>
      exact hJ.call_ hr 14 24 13 23 _ rfl rfl rfl rfl (by decide) rfl rfl (by kernel_rfl)
    | 15, _, hr =>
      exact hJ.ins hr 15 ⟨#[97, 108, 112, 104, 97]⟩ 14 24 _ rfl rfl rfl rfl (by decide) rfl rfl (by kernel_rfl) (by kernel_rfl) (by kernel_rfl)
    | 16, _, hr =>
      exact hJ.move hr 16 25 3 (spanP 48 57) rfl rfl rfl rfl (by decide) rfl rfl (by decide) h3
    | 17, _, hr =>
      exact hJ.span hr 17 26 97 102 rfl rfl rfl rfl (by decide) rfl
    | 18, _, hr =>
      exact hJ.span hr 18 27 65 70 rfl rfl rfl rfl (by decide) rfl
    | 19, _, hr =>
      exact hJ.row3 hr 19 28 16 25 (spanP 48 57) 17 26 (spanP 97 102) 18 27 (spanP 65 70) rfl rfl rfl rfl (by decide) rfl rfl rfl (by kernel_rfl) rfl rfl (by kernel_rfl) rfl rfl (by kernel_rfl)
    | 20, _, hr =>
      exact hJ.call_ hr 20 29 19 28 _ rfl rfl rfl rfl (by decide) rfl rfl (by kernel_rfl)
    | 21, _, hr =>
      exact hJ.ins hr 21 ⟨#[120, 100, 105, 103, 105, 116]⟩ 20 29 _ rfl rfl rfl rfl (by decide) rfl rfl (by kernel_rfl) (by kernel_rfl) (by kernel_rfl)
    | 22, _, hr =>
      exact hJ.span hr 22 30 9 13 rfl rfl rfl rfl (by decide) rfl
    | 23, _, hr =>
      exact hJ.span hr 23 31 32 32 rfl rfl rfl rfl (by decide) rfl
    | 24, _, hr =>
      exact hJ.row2 hr 24 32 22 30 (spanP 9 13) 23 31 (spanP 32 32) rfl rfl rfl rfl (by decide) rfl rfl rfl (by kernel_rfl) rfl rfl (by kernel_rfl)
    | 25, _, hr =>
      exact hJ.call_ hr 25 33 24 32 _ rfl rfl rfl rfl (by decide) rfl rfl (by kernel_rfl)
    | 26, _, hr =>
      exact hJ.ins hr 26 ⟨#[115, 112, 97, 99, 101]⟩ 25 33 _ rfl rfl rfl rfl (by decide) rfl rfl (by kernel_rfl) (by kernel_rfl) (by kernel_rfl)
    | 27, _, hr =>
      exact hJ.span hr 27 34 9 9 rfl rfl rfl rfl (by decide) rfl
    | 28, _, hr =>
      exact hJ.span hr 28 35 32 32 rfl rfl rfl rfl (by decide) rfl
    | 29, _, hr =>
      exact hJ.row2 hr 29 36 27 34 (spanP 9 9) 28 35 (spanP 32 32) rfl rfl rfl rfl (by decide) rfl rfl rfl (by kernel_rfl) rfl rfl (by kernel_rfl)
    | 30, _, hr =>
      exact hJ.call_ hr 30 37 29 36 _ rfl rfl rfl rfl (by decide) rfl rfl (by kernel_rfl)
    | 31, _, hr =>
      exact hJ.ins hr 31 ⟨#[98, 108, 97, 110, 107]⟩ 30 37 _ rfl rfl rfl rfl (by decide) rfl rfl (by kernel_rfl) (by kernel_rfl) (by kernel_rfl)
    | 32, _, hr =>
      exact hJ.span hr 32 38 0 31 rfl rfl rfl rfl (by decide) rfl
    | 33, _, hr =>
      exact hJ.span hr 33 39 127 127 rfl rfl rfl rfl (by decide) rfl
    | 34, _, hr =>
      exact hJ.row2 hr 34 40 32 38 (spanP 0 31) 33 39 (spanP 127 127) rfl rfl rfl rfl (by decide) rfl rfl rfl (by kernel_rfl) rfl rfl (by kernel_rfl)
    | 35, _, hr =>
      exact hJ.call_ hr 35 41 34 40 _ rfl rfl rfl rfl (by decide) rfl rfl (by kernel_rfl)
    | 36, _, hr =>
      exact hJ.ins hr 36 ⟨#[99, 110, 116, 114, 108]⟩ 35 41 _ rfl rfl rfl rfl (by decide) rfl rfl (by kernel_rfl) (by kernel_rfl) (by kernel_rfl)
    | 37, _, hr =>
      exact hJ.span hr 37 42 32 126 rfl rfl rfl rfl (by decide) rfl
    | 38, _, hr =>
      exact hJ.ins hr 38 ⟨#[112, 114, 105, 110, 116]⟩ 37 42 _ rfl rfl rfl rfl (by decide) rfl rfl (by kernel_rfl) (by kernel_rfl) (by kernel_rfl)
    | 39, _, hr =>
      exact hJ.fn hr rfl rfl rfl rfl rfl rfl rfl c4 c5 i4 i5
    | 40, _, hr =>
      exact hJ.ins hr 40 ⟨#[112, 117, 110, 99, 116]⟩ 39 43 _ rfl rfl rfl rfl (by decide) rfl rfl (by kernel_rfl) (by kernel_rfl) (by kernel_rfl)
    | 41, _, hr =>
      exact hJ.last_ hr rfl rfl rfl rfl (by kernel_rfl)
    | 42, _, hr =>
      exact hJ.back_ hr rfl rfl rfl rfl (by kernel_rfl) (by kernel_rfl)
    | n + 43, h, _ => exact absurd h (by omega)
  case fin =>
    intro done a w' hJ hall
    obtain ⟨r, es, clk, e1, e2, e3, hk, hm⟩ := hJ.map (hall 0 (by simp))
    have hb := hJ.back (hall 42 (by simp))
    rw [e1] at hb
    have hmap : IsMap w.heap.size w' r := ⟨es, clk, e3, hk, fun k => by
      have := hm k
      cases hc : clsOf k with
      | none => rw [hc] at this; exact this
      | some x =>
        obtain ⟨i, p⟩ := x
        rw [hc] at this
        obtain ⟨c, hc1, _, hc3⟩ := cls_key hc
        have hlt : ∀ c ∈ clsL, c.2.1 < 43 := by decide
        have h9 := hall i (by have := hlt c hc1; rw [hc3] at this; simpa using this)
        simp only [h9, if_true] at this
        exact this⟩
    have hg9 := hgX.trans hJ.grows
    have hdf := hJ.defers
    have htm := hJ.tmps
    clear hJ hall hm
    go_wp2_with fail
    have hb2 : a.tmps[0]?.getD undef = .map (some r) := by simpa [Act.eval] using hb
    exact bodyPost_ret (v := .map (some r)) (by simp [results, Tryd.results79, go_sem, hb2]) hdf ⟨r, rfl, hmap, hg9⟩
end Go.Proofs.YtnjagecmhdagkaaDoor
