/-
  Registers: the walk of Clone.
-/
import Derived.Test.YtlhdbaaokgdabaaRegsPush
namespace Go.Proofs.Ytlhdbaaokgdabaa
open Go.RowKit Go.MapKept
attribute [local go_sem ↓] makeR eqlMap updR entR stoR lookR lookV zeroReg

theorem run_maps_clone {P : Program} (w : World) {r : Nat} {es : Array MapEntry} {clock : Nat} (t : TypeId) (hb : w.heap[r]? = some (.map es clock)) :
    (Extern.MapsClone.clone #[.iface t (.map (some r))]).run P w = .ok (.iface t (.map (some w.heap.size))) (w.alloc (.map es clock)) := by
  have e : Extern.MapsClone.clone #[.iface t (.map (some r))] = (getObj r >>= fun o => match o with
      | .map entries clock => (newObj (.map entries clock) >>= fun n => pure (.iface t (.map (some n))))
      | _ => stuck "maps.clone: a map expected") := rfl
  rw [e]
  simp [MapKept.run_getObj_map hb, Result.andThen, go_sem]
theorem assertMap (w : World) (v : Value) (xT : TypeId) : (Instr.typeAssert (.iface 51 v) xT 51 false).run Try.prog w = .ok v w := by
  simp [Instr.typeAssert, run_underlying Try.underlying51, go_sem, Result.andThen]
attribute [local go_sem ↓] assertMap
set_option maxHeartbeats 1000000 in
theorem mapsClone_any {ok : Nat → Prop} (r : Nat) (S : RS) (w : World) (h : MapR ok w r S) : Calls Try.prog 32 #[.map (some r)] w fun e w' => e = .returned (.map (some w.heap.size)) ∧ Grows w w' ∧ MapR ok w' w.heap.size S := by
  obtain ⟨M, ⟨es, clk, hb, hs, hst, hM⟩, hS⟩ := h
  have HB := Lib.hid hb
  clear hb
  go_enter Try.func32, Try.ntmps32
  go_wp2_with fail
  rw [run_callFunc_extern Try.func40 (by kernel_rfl) (by kernel_rfl) (by kernel_rfl) (e := Extern.MapsClone.clone) (by kernel_rfl), run_maps_clone w 51 HB.out]
  simp only [Result.andThen]
  go_wp2_with fail
  go_ret
  have hg : Grows w (w.alloc (.map es clk)) := (Grows.refl w).alloc _
  exact ⟨rfl, hg, M, ⟨es, clk, (heap_alloc w _).1, hs, hst, hM⟩, fun k => (hS k).chg (Chg.of_grows (p := fun _ => False) hg) (fun _ _ _ h => h)⟩
set_option maxHeartbeats 1000000 in
/-- Clone: registers of their own. -/
theorem clone_regs {ok : Nat → Prop} (p r : Nat) (S : RS) (w : World) (h : Regs ok w p r S) : Calls Try.prog 22 #[.pointer (some ⟨p, 0, none⟩)] w fun e w' => ∃ q r2 : Nat, e = .returned (.pointer (some ⟨q, 0, none⟩)) ∧ Grows w w' ∧ w.heap.size ≤ q ∧ w.heap.size ≤ r2 ∧ Regs ok w' q r2 S := by
  have hp := h.cell
  have hg := Lib.hid h.good
  have hm := Lib.hid h.map
  have hb : InHeap p w := h.inp
  clear h
  go_enter Try.func22, Try.ntmps22
  go_wp2_with fail
  (with_reducible refine (none_map p r _ hp).mono ?_)
  rintro e w1 ⟨rfl, rfl⟩
  go_wp2_with fail
  (with_reducible refine (mapsClone_any r S _ hm.out).mono ?_)
  rintro e w1 ⟨rfl, ⟨m1, rfl⟩, hm1⟩
  have hm1 := Lib.hid hm1
  go_wp2_with fail
  go_ret
  refine ⟨_, _, rfl, (Grows.of w m1).alloc _, by simp, Nat.le_refl _, by simp [go_sem], hm1.out.grows ((Grows.refl _).alloc _), hg.out, ?_, by simp⟩
  intro e
  have := hm1.out.lt
  simp only [size_more] at this e
  omega
end Go.Proofs.Ytlhdbaaokgdabaa
