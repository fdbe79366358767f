/-
  The law BreNodes, walked.
-/
import Derived.Test.YtmobcljinfoacaaDoorPk42
namespace Go.Proofs.YtmobcljinfoacaaDoor
open Go.RowKit

set_option maxRecDepth 3000 in
theorem ReAt.chg {ok q : Nat → Prop} {w w' : World} {g : Nat} {f : Fr} {t : PS} (h : ReAt ok w g f t) (hc : Chg q w w') (hg : ¬ q g) (hp : ∀ b, b < w.heap.size → ¬ q b) : ReAt ok w' g f t := by
  obtain ⟨A, cap, h1, h2⟩ := h.tree
  have hx : ∀ {i v}, w.cell? ⟨g, i, none⟩ = some v → w'.cell? ⟨g, i, none⟩ = some v := fun {i v} h => by
    rw [hc.cell (World.block_lt_of_cell? w _ h) hg]
    exact h
  exact ⟨⟨A, cap, hx h1, h2.chg hc fun b hb _ => hp b hb⟩, hx h.groups, hx h.parts, hx h.refs⟩
set_option maxRecDepth 3000 in
set_option maxHeartbeats 4000000 in
theorem bre_nodes (l : List UInt8) (w : World) (hs : Sane w) : Calls Tryd.prog 4 #[.string (tx l)] w fun e w' => e = .returned (.bool true) ∧ Grows w w' := by
  by_cases hl : 1000 < l.length
  · have c1 : (1000 : Int) < (l.length : Int) := by omega
    go_enter Tryd.func4, Tryd.ntmps4
    go_wp2_with fail
    go_ret
    exact ⟨rfl, Grows.refl _⟩
  have c1 : ¬(1000 : Int) < (l.length : Int) := by omega
  have ll : l.length ≤ 1000000 := by omega
  clear hl
  cases hv : patV l with
  | none =>
    have HV := Lib.hid hv
    clear hv
    go_enter Tryd.func4, Tryd.ntmps4
    go_wp2_with fail
    (with_reducible refine (bre_no ll HV.out w hs _ rfl).mono ?_)
    rintro e w1 ⟨rfl, k1⟩
    go_wp2_with fail
    (with_reducible refine (does_any w1 (hs.grows k1)).mono ?_)
    rintro e w2 ⟨rfl, k2⟩
    go_wp2_with fail
    go_ret
    exact ⟨rfl, k1.trans k2⟩
  | some y =>
    have HV := Lib.hid hv
    clear hv
    obtain ⟨v, gv, eg, er⟩ := patV_good HV.out
    obtain ⟨hsz, hp2⟩ := patV_size HV.out
    have h9 := patV_nine HV.out
    have GV := Lib.hid gv
    have HSZ := Lib.hid hsz
    clear gv hsz
    go_enter Tryd.func4, Tryd.ntmps4
    go_wp2_with fail
    (with_reducible refine (bre_yes ll HV.out w hs _ rfl).mono ?_)
    rintro e w1 ⟨g, rfl, R, -, k1⟩
    have ig : InHeap g w1 := World.block_lt_of_cell? _ _ R.groups
    go_wp2_with fail
    have hws : WsAt (w1.alloc (.cells #[.int .i64 0, .int .i64 0, .bool false, .bool false, .bool false, .bool false, .bool false, .bool false, .bool false, .bool false, .bool false, .bool false, .bool false, .bool false] 46)) w1.heap.size ((0 : Nat) : Int) ((0 : Nat) : Int) (fun _ => false) false false := blk_alloc_at _ _ _ _ rfl
    have hal : Grows w1 (w1.alloc (.cells #[.int .i64 0, .int .i64 0, .bool false, .bool false, .bool false, .bool false, .bool false, .bool false, .bool false, .bool false, .bool false, .bool false, .bool false, .bool false] 46)) := (Grows.refl _).alloc _
    have hsz1 : (w1.alloc (.cells #[.int .i64 0, .int .i64 0, .bool false, .bool false, .bool false, .bool false, .bool false, .bool false, .bool false, .bool false, .bool false, .bool false, .bool false, .bool false] 46)).heap.size = w1.heap.size + 1 := by simp
    generalize w1.alloc (.cells #[.int .i64 0, .int .i64 0, .bool false, .bool false, .bool false, .bool false, .bool false, .bool false, .bool false, .bool false, .bool false, .bool false, .bool false, .bool false] 46) = W1 at *
    obtain ⟨gd, hgd⟩ : ∃ gd, w1.heap.size = gd := ⟨_, rfl⟩
    have HGD := Lib.hid hgd
    rw [hgd] at hws hsz1 ⊢
    clear hgd
    (with_reducible refine (tree_any (R.grows hal) (by rw [HSZ.out]; omega)).mono ?_)
    rintro e w2 ⟨A, cap, rfl, hA, k2⟩
    have hcall := nodes_any y.1.size y.1 _ A cap 0 gd w2 ws0 v (Nat.le_refl _) ⟨hA, fun b hb e => by omega, GV.out, by simp [ws0], hws.grows k2, by rw [HSZ.out]; omega⟩
    clear hA hws
    go_wp2_with fail
    (with_reducible refine hcall.mono ?_)
    rintro e w3 ⟨rfl, hb3, hc3⟩
    have hC : Chg (fun b => b = gd) w1 w3 := (Chg.of_grows (hal.trans k2)).trans hc3
    have R3 := R.chg hC (by have := HGD.out; intro e; subst e; unfold InHeap at ig; omega) (fun b hb e => by have := HGD.out; omega)
    have kG : Grows w w3 := Chg.grows (n := 0) k1 hC (fun b e => by subst e; rw [← HGD.out]; exact k1.below.size)
    have hs3 := hs.grows kG
    rw [Nat.zero_add, HSZ.out, eg, er] at hb3
    obtain ⟨c0, c1', c12, c13⟩ := hb3.cells
    have ig3 := hb3.inh
    have p1 : (y.2.parts : Int) ≤ 200 := by omega
    have p2 : (y.2.groups : Int) ≤ 9 := by omega
    have qparts : ∀ (m : More), Calls Tryd.prog 10 #[.pointer (some ⟨g, 1, none⟩)] (more w3 m) fun e w' => e = .returned (.int .i64 y.2.parts) ∧ Grows (more w3 m) w' := fun m => (parts_any (R3.grows ⟨m, rfl⟩)).mono fun e w' h => ⟨h.1, h.2 ▸ Grows.refl _⟩
    have qgroups : ∀ (m : More), Calls Tryd.prog 8 #[.pointer (some ⟨g, 1, none⟩)] (more w3 m) fun e w' => e = .returned (.int .i64 y.2.groups) ∧ Grows (more w3 m) w' := fun m => (groups_any (R3.grows ⟨m, rfl⟩)).mono fun e w' h => ⟨h.1, h.2 ▸ Grows.refl _⟩
    have qrefs : ∀ (m : More), Calls Tryd.prog 9 #[.pointer (some ⟨g, 1, none⟩)] (more w3 m) fun e w' => e = .returned (.bool y.2.refs) ∧ Grows (more w3 m) w' := fun m => (refs_any (R3.grows ⟨m, rfl⟩)).mono fun e w' h => ⟨h.1, h.2 ▸ Grows.refl _⟩
    have qdoes : ∀ (m : More), Calls Tryd.prog 11 #[] (more w3 m) fun e w' => e = .returned (.bool true) ∧ Grows (more w3 m) w' := fun m => does_any _ (hs3.grows ⟨m, rfl⟩)
    have KG := Lib.hid kG
    clear hcall hb3 hc3 hC R3 R kG hs3 hal k1 k2 hs
    go_upto_region 8 with fail
    refine region_grows (by kernel_rfl) (by kernel_rfl) ?_
    repeat (go_big_quiet_step (first | (go_at_call 10; exact calls_grows (qparts _)) | (go_at_call 8; exact calls_grows (qgroups _)) | (go_at_call 9; exact calls_grows (qrefs _)) | (go_at_call 11; exact calls_grows (qdoes _))))
    refine wpQuiet_nil ?_
    intro _ hw'
    obtain ⟨m3, rfl⟩ := hw'
    go_wp2_with fail
    go_ret
    exact ⟨by simp, KG.out.more _⟩
end Go.Proofs.YtmobcljinfoacaaDoor
