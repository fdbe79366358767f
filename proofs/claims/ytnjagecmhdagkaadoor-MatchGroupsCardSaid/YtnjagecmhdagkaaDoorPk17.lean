/-
  Patterns: a group, walked, if its row is.
-/
import Derived.Test.YtnjagecmhdagkaaDoorPk16
import Derived.IntWalk
set_option linter.unusedSimpArgs false
set_option linter.unusedVariables false
namespace Go.Proofs.YtnjagecmhdagkaaDoor
open Go.RowKit

attribute [local go_sem ↓] zeroNode bldNd_eq ldNode_eq stNode_eq bldSl_eq
attribute [local go_sem] bld_kind bld_byte bld_set bld_n bld_star bld_times loadNode loadNode_if storeNode storeNode_if ndA_one_slice ndA_0 ndA_258 ndA_261 tx_bt tx_from bldSl_run
section
variable {base g : Nat} {w w' w2 : World} {tv ov : Value} {s : PS}
set_option maxRecDepth 3000 in
set_option maxHeartbeats 4000000 in
theorem group_of (h : Pa base w g tv ov s) (hsn : SaneB base w) (hrow : ∀ t : PS, t.left.length ≤ s.left.length → RowSpec tv t) :
    Calls Tryd.prog 68 #[.pointer (some ⟨g, 0, none⟩)] w (NkPost base g tv ov w (groupV (rowF true false) s)) := by
  have ig := h.inh
  obtain ⟨-, -, q2, -⟩ := h.six
  have ff := h.free
  have H := Lib.hid h
  obtain ⟨i0, hi, hz0, hz1, hz2⟩ := infoInt_parts
  have hg9 := h.groups
  obtain ⟨R, hR⟩ : ∃ R, groupV (rowF true false) s = R := ⟨_, rfl⟩
  rw [hR]
  have HR := Lib.hid hR
  have HW := Lib.hid hrow
  have HSN := Lib.hid hsn
  clear h hR hrow hsn
  by_cases h9 : s.groups + 1 ≤ 9
  · have d9 : decide ((s.groups : Int) + 1 ≤ 9) = true := by rw [decide_eq_true_eq]; omega
    by_cases hp : s.parts + 1 ≤ 200
    · go_enter Tryd.func68, Tryd.ntmps68
      go_wp2_with fail
      (with_reducible refine (must_ok _).mono ?_)
      rintro e w1 ⟨rfl, rfl⟩
      go_wp2_with fail
      obtain ⟨rb, hrb⟩ : ∃ n, n = w.heap.size := ⟨_, rfl⟩
      have hgl : g < w.heap.size := ig
      have hP0 := H.out.setGroups ((s.groups : Int) + 1) (by simp) h9
      have P1 := Lib.hid (hP0.grows ((Grows.refl _).alloc (.cells (ndA 0 0 noSet 0 0 0 (.slice none 0 0)) 74)))
      have hs1 : (w.setCell ⟨g, 2, none⟩ (.int .i64 ((s.groups : Int) + 1))).heap.size = w.heap.size := by simp
      have C1 := Lib.hid ((chg_cell w g 2 (.int .i64 ((s.groups : Int) + 1))).trans (Chg.of_grows ((Grows.refl (w.setCell ⟨g, 2, none⟩ (.int .i64 ((s.groups : Int) + 1)))).alloc (.cells (ndA 0 0 noSet 0 0 0 (.slice none 0 0)) 74))))
      have hb1 : blk ((w.setCell ⟨g, 2, none⟩ (.int .i64 ((s.groups : Int) + 1))).alloc (.cells (ndA 0 0 noSet 0 0 0 (.slice none 0 0)) 74)) rb = ndA 0 0 noSet 0 0 0 (.slice none 0 0) := blk_alloc_at _ _ _ _ (by rw [hs1, hrb])
      have hz1' : ((w.setCell ⟨g, 2, none⟩ (.int .i64 ((s.groups : Int) + 1))).alloc (.cells (ndA 0 0 noSet 0 0 0 (.slice none 0 0)) 74)).heap.size = w.heap.size + 1 := by simp
      generalize (w.setCell ⟨g, 2, none⟩ (.int .i64 ((s.groups : Int) + 1))).alloc (.cells (ndA 0 0 noSet 0 0 0 (.slice none 0 0)) 74) = w1 at *
      (with_reducible refine (node_ok P1.out hp 7 0 noSet ((s.groups : Int) + 1) 0 0 none 0 0).mono ?_)
      rintro e w2 ⟨rfl, hP, hC⟩
      have hrg : ¬ rb = g := by omega
      have hb2 : blk w2 rb = ndA 0 0 noSet 0 0 0 (.slice none 0 0) := (chg_blk hC (by omega) hrg).trans hb1
      have P2 := Lib.hid hP
      have C2 := Lib.hid (C1.out.trans hC)
      have hz2' : w.heap.size + 1 ≤ w2.heap.size := by have := hC.size; omega
      have ir2 : InHeap rb w2 := Blk.inHeap hb2 (by simp [ndA_size])
      clear hP hC hb1 hs1 hP0 P1 C1 hz1' q2 ff
      go_wp2_with fail
      obtain ⟨xb, hxb⟩ : ∃ n, n = w2.heap.size := ⟨_, rfl⟩
      have P3 := Lib.hid (P2.out.grows ((Grows.refl _).alloc (.cells (ndA 7 0 noSet ((s.groups : Int) + 1) 0 0 (.slice none 0 0)) 74)))
      have C3 := Lib.hid (C2.out.trans (Chg.of_grows ((Grows.refl _).alloc (.cells (ndA 7 0 noSet ((s.groups : Int) + 1) 0 0 (.slice none 0 0)) 74))))
      have hb3 : blk (w2.alloc (.cells (ndA 7 0 noSet ((s.groups : Int) + 1) 0 0 (.slice none 0 0)) 74)) xb = ndA 7 0 noSet ((s.groups : Int) + 1) 0 0 (.slice none 0 0) := blk_alloc_at _ _ _ _ hxb
      have hr3 : blk (w2.alloc (.cells (ndA 7 0 noSet ((s.groups : Int) + 1) 0 0 (.slice none 0 0)) 74)) rb = ndA 0 0 noSet 0 0 0 (.slice none 0 0) := by rw [blk_alloc_past _ _ _ ir2, hb2]
      have hz3 : (w2.alloc (.cells (ndA 7 0 noSet ((s.groups : Int) + 1) 0 0 (.slice none 0 0)) 74)).heap.size = xb + 1 := by simp [hxb]
      generalize w2.alloc (.cells (ndA 7 0 noSet ((s.groups : Int) + 1) 0 0 (.slice none 0 0)) 74) = w3 at *
      have hrx : rb < xb := by omega
      have ix3 : InHeap xb w3 := Blk.inHeap hb3 (by simp [ndA_size])
      have x258 := (Blk.cell hb3 (by simp [ndA_size]) 258).trans (ndA_258 _ _ _ _ _ _ _)
      have i3 := P3.out.inh
      have f3 := P3.out.free
      obtain ⟨-, -, -, -, -, q5⟩ := P3.out.six
      have hopn : s.op.length ≤ 1000000 := by have := H.out.op; omega
      have hbase : base ≤ w3.heap.size := by have := P3.out.low; have : g < w3.heap.size := i3; omega
      subst hrb hxb
      go_region_law (refine step_append_int (.tmp 32) (.tmp 35) 60 base 3 i0 (.int .i64 0) ov s.op.length (s.op.map fun n : Nat => Value.int .i64 n) w3.heap.size (.int .i64 ((s.groups : Int) + 1)) (by rfl) (by rfl) Tryd.underlying60 hi hz0 hz1 hz2 (by rfl) (by simp [Act.eval]) (own_growsI P3.out.own (by repeat' first | exact Grows.refl _ | refine Grows.more ?_ _ | refine Grows.alloc ?_ _ | refine Grows.drewN ?_ _ | refine Grows.drew ?_)) (by simp [Act.eval]) (by simp [go_sem]) rfl hopn (by simp; omega) ?_; intro e5 cap5 w6 hown6 hgr6 hlie6; have hx6 := Lib.hid ((Chg.of_grows ((by repeat' first | exact Grows.refl _ | refine Grows.more ?_ _ | refine Grows.alloc ?_ _ | refine Grows.drewN ?_ _ | refine Grows.drew ?_) : Grows w3 _)).trans hgr6); have ho6 := Lib.hid hown6; have hl6 := Lib.hid (hlie6.imp id (fun e => (by simp at e; omega : w3.heap.size ≤ e5))); have hb6 := (chg_blk hx6.out i3 P3.out.ne).trans P3.out.cells; have q6 := (Blk.cell hb6 (paC_pos _ _ _ _ _ _) 5).trans (show _ = some ov from rfl); have f6 := Blk.free hb6 (paC_pos _ _ _ _ _ _); have i6 := Blk.inHeap hb6 (paC_pos _ _ _ _ _ _); clear hown6 hgr6 hlie6 hb6)
      all_goals
        obtain ⟨hP7, hS7⟩ := P3.out.push (n := s.groups + 1) ho6.out hx6.out hl6.out (by have := H.out.op; simp; omega)
        have P7 := Lib.hid hP7
        have S7 := Lib.hid ((StepP.of_chg (C3.out.mono fun b _ e => (.inl e : PaK g ov b))).trans hS7)
        have hxw : w2.heap.size < w3.heap.size := ix3
        have hnx7 : Hid (¬ PaK g (.slice (some ⟨e5, 0, none⟩) (s.op.length + 1) cap5) w2.heap.size) := Lib.hid (fun hk => by
          rcases hS7.new _ hk with h1 | h1
          · exact P2.out.fresh h1
          · omega)
        have hnr7 : Hid (¬ PaK g (.slice (some ⟨e5, 0, none⟩) (s.op.length + 1) cap5) w.heap.size) := Lib.hid (fun hk => by
          rcases hS7.new _ hk with h1 | h1
          · exact H.out.fresh h1
          · omega)
        have hb7 : blk (w6.setCell ⟨g, 5, none⟩ (.slice (some ⟨e5, 0, none⟩) (s.op.length + 1) cap5)) w2.heap.size = ndA 7 0 noSet ((s.groups : Int) + 1) 0 0 (.slice none 0 0) := (chg_blk hS7.chg ix3 P2.out.fresh).trans hb3
        have hr7 : blk (w6.setCell ⟨g, 5, none⟩ (.slice (some ⟨e5, 0, none⟩) (s.op.length + 1) cap5)) w.heap.size = ndA 0 0 noSet 0 0 0 (.slice none 0 0) := (chg_blk hS7.chg (by omega) H.out.fresh).trans hr3
        have hsz7 : Hid (w2.heap.size + 1 ≤ (w6.setCell ⟨g, 5, none⟩ (.slice (some ⟨e5, 0, none⟩) (s.op.length + 1) cap5)).heap.size) := Lib.hid (Nat.le_trans (Nat.le_of_eq hz3.symm) hS7.chg.size)
        clear hP7 hS7 hx6 ho6 hl6 P3 C3 P2 C2 hb3 hr3 q5 x258 f3 hz3 hb2
        go_wp2_with fail
        generalize w6.setCell ⟨g, 5, none⟩ (.slice (some ⟨e5, 0, none⟩) (s.op.length + 1) cap5) = w7 at *
        generalize Value.slice (some ⟨e5, 0, none⟩) (s.op.length + 1) cap5 = ov7 at P7 S7 hnx7 hnr7
        have hRr := HR.out
        unfold groupV at hRr
        rw [if_pos h9] at hRr
        simp only [node1, if_pos hp, Option.bind_some] at hRr
        have hcall := HW.out { s with groups := s.groups + 1, parts := s.parts + 1, op := s.op ++ [s.groups + 1] } (Nat.le_refl _) base g ov7 w7 P7.out (HSN.out.chg S7.out.chg fun b hb => H.out.own_low hb)
        cases hrow : rowF true false { s with groups := s.groups + 1, parts := s.parts + 1, op := s.op ++ [s.groups + 1] } with
        | none =>
          rw [hrow] at hcall hRr
          refine hcall.mono ?_
          rintro e w8 ⟨rfl, hc⟩
          have hV : R = none := hRr.symm
          subst hV
          exact ⟨rfl, rfl, chg_late S7.out.chg hc fun b hb hk => by
            rcases S7.out.new b hk with h1 | h1
            · exact h1
            · omega⟩
        | some y =>
          obtain ⟨f, t8⟩ := y
          have hk := rowF_kept hrow
          rw [hrow] at hcall hRr
          simp only [Option.bind_some] at hRr
          refine hcall.mono ?_
          rintro e w8 ⟨A, cap, ov8, rfl, hP, hS, hF⟩
          have P8 := Lib.hid hP
          have S8 := Lib.hid (S7.out.trans hS)
          have hx7 : w2.heap.size < w7.heap.size := by have := hsz7.out; omega
          have hnx8 : Hid (¬ PaK g ov8 w2.heap.size) := Lib.hid (fun h => by
            rcases hS.new _ h with h1 | h1
            · exact hnx7.out h1
            · omega)
          have hnr8 : Hid (¬ PaK g ov8 w.heap.size) := Lib.hid (fun h => by
            rcases hS.new _ h with h1 | h1
            · exact hnr7.out h1
            · omega)
          have hb8 := (chg_blk hS.chg hx7 hnx7.out).trans hb7
          have hr8 := (chg_blk hS.chg (by omega) hnr7.out).trans hr7
          have F8 := Lib.hid hF
          have hz8 : Hid (w7.heap.size ≤ w8.heap.size) := Lib.hid hS.chg.size
          have K8 := Lib.hid hk
          have ix8 : InHeap w2.heap.size w8 := Blk.inHeap hb8 (by simp [ndA_size])
          have x261 := (Blk.cell hb8 (by simp [ndA_size]) 261).trans (ndA_261 _ _ _ _ _ _ _)
          have fx8 := Blk.free hb8 (by simp [ndA_size])
          have HG := Lib.hid hRr
          clear hP hS hF hk hcall hrow hb7 hr7 P7 S7 hRr
          go_wp2_with fail
          have c9 := chg_cell w8 w2.heap.size 261 (.slice A f.len cap)
          have hb9 : blk (w8.setCell ⟨w2.heap.size, 261, none⟩ (.slice A f.len cap)) w2.heap.size = ndA 7 0 noSet ((s.groups : Int) + 1) 0 0 (.slice A f.len cap) := (pa_put hb8 (by simp [ndA_size]) 261 _).trans (ndA_setK _ _ _ _ _ _ _ _)
          have hr9 := (chg_blk c9 (Blk.inHeap hr8 (by simp [ndA_size])) (by omega)).trans hr8
          have P9 := Lib.hid (P8.out.chg c9 fun b hb e => hnx8.out (e ▸ hb))
          have F9 := Lib.hid (F8.out.chg c9 fun b hb h e => by have := h.1; omega)
          have S9 : Hid (StepP (PaK g ov) (PaK g ov8) w (w8.setCell ⟨w2.heap.size, 261, none⟩ (.slice A f.len cap))) := Lib.hid ⟨chg_late S8.out.chg c9 fun b hb e => by omega, S8.out.new⟩
          clear c9 hb8 hr8 P8 F8 S8 x261 fx8 ix8
          generalize w8.setCell ⟨w2.heap.size, 261, none⟩ (.slice A f.len cap) = w9 at *
          have i9 : InHeap w2.heap.size w9 := Blk.inHeap hb9 (by simp [ndA_size])
          have ir9 : InHeap w.heap.size w9 := Blk.inHeap hr9 (by simp [ndA_size])
          have hxg : ¬ w2.heap.size = g := fun e => hnx8.out (.inl e)
          have hrg2 : ¬ w.heap.size = g := fun e => hnr8.out (.inl e)
          cases hcl : ahead [92, 41] t8.left with
          | false =>
            have hV : R = none := by have := HG.out; rw [hcl] at this; simpa using this.symm
            (with_reducible refine (take_no P9.out [92, 41] hcl ⟨#[92, 41]⟩ rfl).mono ?_)
            rintro e w10 ⟨rfl, hP, hC⟩
            go_wp2_with fail
            (with_reducible refine (must_no _).mono ?_)
            rintro e w11 ⟨rfl, rfl⟩
            subst hV
            exact ⟨rfl, rfl, chg_late S9.out.chg hC fun b hb e => .inl e⟩
          | true =>
            have hV : R = some ((groupN (s.groups + 1), f), { t8 with left := t8.left.drop 2, op := t8.op.dropLast }) := by have := HG.out; rw [hcl] at this; simpa using this.symm
            (with_reducible refine (take_yes P9.out [92, 41] hcl ⟨#[92, 41]⟩ rfl 2 rfl).mono ?_)
            rintro e w10 ⟨rfl, hP, hC⟩
            have P10 := Lib.hid hP
            have hb10 := (chg_blk hC i9 hxg).trans hb9
            have hr10 := (chg_blk hC ir9 hrg2).trans hr9
            have F10 := Lib.hid (F9.out.chg hC fun b hb h e => h.2 (.inl e))
            have S10 : Hid (StepP (PaK g ov) (PaK g ov8) w w10) := Lib.hid (S9.out.trans (StepP.of_chg (hC.mono fun b _ e => (.inl e : PaK g ov8 b))))
            clear hP hC hb9 hr9 P9 F9 S9 HG i9 ir9
            go_wp2_with fail
            (with_reducible refine (must_ok _).mono ?_)
            rintro e w11 ⟨rfl, rfl⟩
            have hop : t8.op = s.op ++ [s.groups + 1] := K8.out.op
            have hown := P10.out.own
            have hol : ({ t8 with left := t8.left.drop 2 } : PS).op.length = s.op.length + 1 := by simp [hop]
            rw [hol] at hown
            obtain ⟨e8, cap8, rfl, hle8, hc8, -, -⟩ := own_form1 hown
            have i10 := P10.out.inh
            have f10 := P10.out.free
            obtain ⟨-, -, -, -, -, q10⟩ := P10.out.six
            have hdl : t8.op.dropLast = s.op := by rw [hop]; simp
            have HOP := Lib.hid hop
            clear hown hol hop
            have ho9 := H.out.op
            have hw64 : IntKind.i64.wrap (s.op.length : Int) = s.op.length := IntWalk.i64_in _ (by omega)
            have hl0 : (0 : Int) ≤ (s.op.length : Int) := by omega
            have hl8 : (s.op.length : Int) ≤ (cap8 : Int) := by omega
            have hK8 : Hid (¬ PaK g (.slice (some ⟨e8, 0, none⟩) s.op.length cap8) w2.heap.size) := hnx8
            have hR8 : Hid (¬ PaK g (.slice (some ⟨e8, 0, none⟩) s.op.length cap8) w.heap.size) := hnr8
            have ib10 : InHeap w2.heap.size w10 := Blk.inHeap hb10 (by simp [ndA_size])
            have ir10 : InHeap w.heap.size w10 := Blk.inHeap hr10 (by simp [ndA_size])
            go_wp2_with fail
            go_region_law (fail)
            all_goals
              have hgd : Grows (w10.setCell ⟨g, 5, none⟩ (.slice (some ⟨e8, 0, none⟩) s.op.length cap8)) (w10.setCell ⟨g, 5, none⟩ (.slice (some ⟨e8, 0, none⟩) s.op.length cap8)).drew := (Grows.refl _).drew
              have P11 := Lib.hid ((P10.out.pop (l := s.op) (n := s.groups + 1) HOP.out).grows hgd)
              have C11 : Hid (Chg (fun b => b = g) w10 (w10.setCell ⟨g, 5, none⟩ (.slice (some ⟨e8, 0, none⟩) s.op.length cap8)).drew) := Lib.hid ((chg_cell w10 g 5 _).trans (Chg.of_grows hgd))
              have hb11 := (chg_blk C11.out ib10 hxg).trans hb10
              have hr11 := (chg_blk C11.out ir10 hrg2).trans hr10
              have F11 := Lib.hid (F10.out.chg C11.out fun b hb h e => h.2 (.inl e))
              have S11 : Hid (StepP (PaK g ov) (PaK g (.slice (some ⟨e8, 0, none⟩) s.op.length cap8)) w (w10.setCell ⟨g, 5, none⟩ (.slice (some ⟨e8, 0, none⟩) s.op.length cap8)).drew) := Lib.hid (S10.out.trans (StepP.of_chg (C11.out.mono fun b _ e => (.inl e : PaK g (.slice (some ⟨e8, 0, none⟩) s.op.length cap8) b))))
              clear hgd P10 C11 hb10 hr10 F10 S10 q10 f10 i10
              generalize (w10.setCell ⟨g, 5, none⟩ (.slice (some ⟨e8, 0, none⟩) s.op.length cap8)).drew = w11 at *
              have ib11 : InHeap w2.heap.size w11 := Blk.inHeap hb11 (by simp [ndA_size])
              have ir11 : InHeap w.heap.size w11 := Blk.inHeap hr11 (by simp [ndA_size])
              go_wp2_with fail
              rw [hdl] at hV
              subst hV
              have hx7 := hsz7.out
              obtain ⟨n1, n2, n3⟩ := nk_ret (c := ndA 7 0 noSet ((s.groups : Int) + 1) 0 0 (.slice A f.len cap)) (v := .agg (ndC (groupN (s.groups + 1)) (.slice A f.len cap))) (y := (groupN (s.groups + 1), f)) P11.out S11.out (Nat.le_refl w.heap.size) hR8.out ⟨A, cap, rfl, F11.out.mono fun b hb h => ⟨⟨by have := h.1; omega, h.2⟩, by have := h.1; omega⟩⟩
              exact bodyPost_ret (results_node 2 rfl rfl (Blk.get _ hr11 (by simp [ndA_size])) (ndA_size _ _ _ _ _ _ _)) rfl ⟨_, _, rfl, n1, n2, n3⟩
    · have hV : R = none := by have := HR.out; unfold groupV at this; rw [if_pos h9] at this; simp only [node1, if_neg hp, Option.bind_none] at this; exact this.symm
      go_enter Tryd.func68, Tryd.ntmps68
      go_wp2_with fail
      (with_reducible refine (must_ok _).mono ?_)
      rintro e w1 ⟨rfl, rfl⟩
      go_wp2_with fail
      have hP0 := H.out.setGroups ((s.groups : Int) + 1) (by simp) h9
      have P1 := Lib.hid (hP0.grows ((Grows.refl _).alloc (.cells (ndA 0 0 noSet 0 0 0 (.slice none 0 0)) 74)))
      have C1 := Lib.hid ((chg_cell w g 2 (.int .i64 ((s.groups : Int) + 1))).trans (Chg.of_grows ((Grows.refl (w.setCell ⟨g, 2, none⟩ (.int .i64 ((s.groups : Int) + 1)))).alloc (.cells (ndA 0 0 noSet 0 0 0 (.slice none 0 0)) 74))))
      (with_reducible refine (node_no P1.out hp _ (ndA_one_slice _ _ _ _ _ _ _ _ _) (ndA_size _ _ _ _ _ _ _)).mono ?_)
      rintro e w2 ⟨rfl, hC⟩
      subst hV
      exact ⟨rfl, rfl, (C1.out.trans hC).mono fun b _ e => .inl e⟩
  · have hV : R = none := by have := HR.out; unfold groupV at this; rw [if_neg h9] at this; exact this.symm
    have d9 : decide ((s.groups : Int) + 1 ≤ 9) = false := by rw [decide_eq_false_iff_not]; omega
    go_enter Tryd.func68, Tryd.ntmps68
    go_wp2_with fail
    (with_reducible refine (must_no _).mono ?_)
    rintro e w1 ⟨rfl, rfl⟩
    subst hV
    exact ⟨rfl, rfl, ((chg_cell w g 2 (.int .i64 ((s.groups : Int) + 1))).trans (Chg.of_grows ((Grows.refl _).alloc _))).mono fun b _ e => .inl e⟩
end
end Go.Proofs.YtnjagecmhdagkaaDoor
