/-
  Several texts of the proof: BreAsk, BreTwin.
-/
import Derived.Test.YtmobcljinfoacaaDoorPk36
/-
  Patterns: what is asked of one: Groups, Refs, Parts.
-/
namespace Go.Proofs.YtmobcljinfoacaaDoor
open Go.RowKit

section
variable {ok : Nat → Prop} {w : World} {g : Nat} {f : Fr} {t : PS}
set_option maxRecDepth 3000 in
theorem ReAt.grows {w' : World} (h : ReAt ok w g f t) (hg : Grows w w') : ReAt ok w' g f t := by
  obtain ⟨A, cap, h1, h2⟩ := h.tree
  have hc : ∀ {i v}, w.cell? ⟨g, i, none⟩ = some v → w'.cell? ⟨g, i, none⟩ = some v := fun {i v} h => by
    obtain ⟨m, rfl⟩ := hg
    rw [cell_more _ _ _ (World.block_lt_of_cell? w _ h)]
    exact h
  exact ⟨⟨A, cap, hc h1, h2.grows hg⟩, hc h.groups, hc h.parts, hc h.refs⟩
set_option maxRecDepth 3000 in
theorem groups_any (h : ReAt ok w g f t) : Calls Tryd.prog 8 #[.pointer (some ⟨g, 1, none⟩)] w fun e w' => e = .returned (.int .i64 t.groups) ∧ w = w' := by
  have h1 := h.groups
  have ig : InHeap g w := World.block_lt_of_cell? _ _ h1
  go_enter Tryd.func8, Tryd.ntmps8
  go_wp2_with fail
  go_ret
  exact ⟨rfl, rfl⟩
set_option maxRecDepth 3000 in
theorem parts_any (h : ReAt ok w g f t) : Calls Tryd.prog 10 #[.pointer (some ⟨g, 1, none⟩)] w fun e w' => e = .returned (.int .i64 t.parts) ∧ w = w' := by
  have h1 := h.parts
  have ig : InHeap g w := World.block_lt_of_cell? _ _ h1
  go_enter Tryd.func10, Tryd.ntmps10
  go_wp2_with fail
  go_ret
  exact ⟨rfl, rfl⟩
set_option maxRecDepth 3000 in
theorem refs_any (h : ReAt ok w g f t) : Calls Tryd.prog 9 #[.pointer (some ⟨g, 1, none⟩)] w fun e w' => e = .returned (.bool t.refs) ∧ w = w' := by
  have h1 := h.refs
  have ig : InHeap g w := World.block_lt_of_cell? _ _ h1
  go_enter Tryd.func9, Tryd.ntmps9
  go_wp2_with fail
  go_ret
  exact ⟨rfl, rfl⟩
set_option maxRecDepth 3000 in
theorem groups_nil (w : World) : Calls Tryd.prog 8 #[.pointer none] w fun e w' => e = .returned (.int .i64 0) ∧ w = w' := by
  go_enter Tryd.func8, Tryd.ntmps8
  go_wp2_with fail
  go_ret
  exact ⟨rfl, rfl⟩
set_option maxRecDepth 3000 in
theorem parts_nil (w : World) : Calls Tryd.prog 10 #[.pointer none] w fun e w' => e = .returned (.int .i64 0) ∧ w = w' := by
  go_enter Tryd.func10, Tryd.ntmps10
  go_wp2_with fail
  go_ret
  exact ⟨rfl, rfl⟩
set_option maxRecDepth 3000 in
theorem refs_nil (w : World) : Calls Tryd.prog 9 #[.pointer none] w fun e w' => e = .returned (.bool false) ∧ w = w' := by
  go_enter Tryd.func9, Tryd.ntmps9
  go_wp2_with fail
  go_ret
  exact ⟨rfl, rfl⟩
end
/-! ### the chapter's examples -/
set_option maxRecDepth 3000 in
theorem ex_none : patV [92, 40, 97, 92, 49, 92, 41] = none := by kernel_rfl
set_option maxRecDepth 3000 in
theorem ex_one : ∃ y, patV [97, 46, 42, 36] = some y ∧ y.1.len = 3 ∧ y.2.parts = 4 ∧ y.2.refs = false := ⟨_, rfl, rfl, rfl, rfl⟩
set_option maxRecDepth 3000 in
theorem ex_two : ∃ y, patV [92, 40, 97, 98, 92, 41, 42, 92, 49] = some y ∧ y.2.groups = 1 ∧ y.2.refs = true := ⟨_, rfl, rfl, rfl⟩
end Go.Proofs.YtmobcljinfoacaaDoor

/-
  Patterns: nodes in memory of their own.
-/
namespace Go.Proofs.YtmobcljinfoacaaDoor
open Go.RowKit

def bldS0 (x : Array (Nat × Value)) : Sem Value := Instr.buildSlice 29 0 x
set_option maxRecDepth 3000 in
theorem bldS0_eq (x : Array (Nat × Value)) : Instr.buildSlice 29 0 x = bldS0 x := rfl
set_option maxRecDepth 3000 in
theorem bldS0_run (w : World) : (bldS0 #[]).run Tryd.prog w = .ok (.slice (some ⟨w.heap.size, 0, none⟩) 0 0) (w.alloc (.cells #[] 41)) := by kernel_rfl
attribute [local go_sem ↓] bldS0_eq
attribute [local go_sem] bldS0_run
set_option maxRecDepth 3000 in
theorem eqlSome (w : World) (a : Addr) (n cap : Nat) : (binOp .eql 29 (.slice (some a) n cap) (.slice none 0 0)).run Tryd.prog w = .ok (.bool false) w := by kernel_rfl
set_option maxRecDepth 3000 in
theorem eqlNone (w : World) : (binOp .eql 29 (.slice none 0 0) (.slice none 0 0)).run Tryd.prog w = .ok (.bool true) w := by kernel_rfl
attribute [local go_sem] eqlSome eqlNone
set_option maxRecDepth 3000 in
theorem own_empty (w : World) (t : TypeId) (n : Nat) : (w.alloc (.cells #[] t)).ownsRow w.heap.size t n (.slice (some ⟨w.heap.size, 0, none⟩) 0 0) 0 [] :=
  ⟨by simp, .inr ⟨w.heap.size, 0, #[], rfl, Nat.le_refl _, World.alloc_heap_new _ _, Nat.le_refl _, by unfold maxLen; omega, by simp, by simp⟩⟩
set_option maxRecDepth 3000 in
theorem FrRow.one {ok : Nat → Prop} {w : World} : ∀ {f : Fr} {xs : List Value}, FrRow ok w f xs → ∀ v ∈ xs, v.oneCell' = true := by
  intro f
  induction f with
  | nil => intro xs h; cases h; simp
  | cons x k r _ ihr =>
    rintro xs ⟨A, cap, ys, zs, e, h1, h2, h3⟩ v hv
    rw [e] at hv
    rcases List.mem_append.1 hv with hv | hv
    · have := ndA_one_slice (x.kind) (x.byte) x.set (x.n) (x.mn) x.mx A k.len cap
      unfold OneCells at this
      rw [Array.all_eq_true_iff_forall_mem] at this
      exact this v (by simpa using hv)
    · exact ihr h3 v hv
set_option maxRecDepth 3000 in
set_option maxHeartbeats 1000000 in
theorem cloneNd (a : Addr) (cap n : Nat) (xs : List Value) (w : World) (hA : Rd w 262 (some a) n xs) (hn : n ≤ 1000000) (h0 : 0 < n) (h1 : ∀ v ∈ xs, v.oneCell' = true) :
    Calls Tryd.prog 25 #[.slice (some a) n cap] w fun e w' => ∃ v, e = .returned v ∧ w'.ownsRow w.heap.size 41 262 v n xs ∧ Grows w w' := by
  obtain ⟨i0, hi, hz0, hz1, hz2⟩ := infoNode
  obtain ⟨b, o, e, hb, hc⟩ := hA.2 h0
  injection e with e
  subst e
  have hlen := hA.1
  have hc2 : ∀ (j : Nat) u, xs[j]? = some u → (w.alloc (.cells #[] 41)).cell? ((⟨b, o, none⟩ : Addr).add j) = some u := fun j u hu => by
    rw [add_off, cell_alloc_in _ _ _ _ hb]; exact hc j u hu
  clear hA hc
  go_enter Tryd.func25, Tryd.ntmps25
  go_wp2_with (at_builtin; go_must (refine wpList_append_lies _ rfl (.tmp 5) (.tmp 6) 29 rfl w.heap.size 41 i0 (.agg zN) 262 320 Tryd.underlying29 hi hz0 hz1 hz2 (ndA_size _ _ _ _ _ _ _) (by decide) (.slice (some ⟨w.heap.size, 0, none⟩) 0 0) 0 [] (by simp [Act.eval, Act.put]) (own_empty w _ _) ⟨b, o, none⟩ n cap xs (by simp [Act.eval, Act.put]) hlen hc2 h1 h0 (by unfold maxLen; omega) (by omega) (by simp) _ rfl ?_; intro e9 cap9 w9 hown9 hC9 hl9 hlt9))
  go_ret
  refine ⟨_, rfl, by simpa using hown9, ?_⟩
  have := chg_grown hC9
  exact Chg.grows (n := 0) ((Grows.refl w).alloc (.cells #[] 41)) this fun b hb => by cases hb; exact Nat.le_refl _
set_option maxRecDepth 3000 in
theorem cloneNil (cap : Nat) (w : World) : Calls Tryd.prog 25 #[.slice none 0 0] w fun e w' => e = .returned (.slice none 0 0) ∧ w = w' := by
  go_enter Tryd.func25, Tryd.ntmps25
  go_wp2_with fail
  go_ret
  exact ⟨rfl, rfl⟩
set_option maxRecDepth 3000 in
theorem cloneZero (a : Addr) (cap : Nat) (w : World) : Calls Tryd.prog 25 #[.slice (some a) 0 cap] w fun e w' => ∃ v, e = .returned v ∧ w'.ownsRow w.heap.size 41 262 v 0 [] ∧ Grows w w' := by
  go_enter Tryd.func25, Tryd.ntmps25
  go_wp2_with fail
  go_ret
  exact ⟨_, rfl, own_empty w _ _, (Grows.refl w).alloc _⟩
end Go.Proofs.YtmobcljinfoacaaDoor
