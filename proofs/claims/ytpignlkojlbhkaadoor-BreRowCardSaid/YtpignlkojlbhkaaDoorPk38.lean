/-
  Several texts of the proof: BreCell, BreDoes, BreNoneL.
-/
import Derived.Test.YtpignlkojlbhkaaDoorPk37
/-
  Patterns: a node's cells within a row.
-/
namespace Go.Proofs.YtpignlkojlbhkaaDoor
open Go.RowKit

set_option maxRecDepth 3000 in
theorem FrRow.node {ok : Nat → Prop} {w : World} {x : NdV} {kids rest : Fr} : ∀ {a : Fr} {xs : List Value}, FrRow ok w (a.app (.cons x kids rest)) xs →
    ∃ K capk, FrAt ok w K capk kids ∧ ∀ j u, (ndC x (.slice K kids.len capk))[j]? = some u → xs[a.len * 262 + j]? = some u := by
  intro a
  induction a with
  | nil =>
    intro xs h
    obtain ⟨K, capk, ys, zs, e, h1, h2, h3⟩ := FrRow.head h
    refine ⟨K, capk, ⟨ys, h1, h2⟩, fun j u hu => ?_⟩
    have hj := (Array.getElem?_eq_some_iff.1 hu).1
    rw [e, Fr.len, Nat.zero_mul, Nat.zero_add, List.getElem?_append_left (by simpa using hj), Array.getElem?_toList]
    exact hu
  | cons z k r _ ihr =>
    intro xs h
    obtain ⟨K0, cap0, ys, zs, e, h1, h2, h3⟩ := FrRow.head h
    obtain ⟨K, capk, h4, h5⟩ := ihr h3
    refine ⟨K, capk, h4, fun j u hu => ?_⟩
    have hz : (ndC z (.slice K0 k.len cap0)).toList.length = 262 := by simp [ndA_size]
    have hu2 := h5 j u hu
    rw [e]
    generalize (ndC z (.slice K0 k.len cap0)).toList = zl at hz
    have hi : (Fr.cons z k r).len * 262 + j = zl.length + (r.len * 262 + j) := by rw [hz, Fr.len]; omega
    rw [hi, List.getElem?_append_right (Nat.le_add_right _ _), Nat.add_sub_cancel_left]
    exact hu2
set_option maxRecDepth 3000 in
/-- A node's cells within a row that can be read; its kids. -/
theorem FrAt.node {ok : Nat → Prop} {w : World} {A : Option Addr} {cap : Nat} {x : NdV} {kids rest a f : Fr} (h : FrAt ok w A cap f) (e : f = a.app (.cons x kids rest)) {b o : Nat} (hA : A = some ⟨b, o, none⟩) :
    ∃ K capk, FrAt ok w K capk kids ∧ ∀ j u, (ndC x (.slice K kids.len capk))[j]? = some u → w.cell? ⟨b, o + (a.len * 262 + j), none⟩ = some u := by
  subst e
  obtain ⟨xs, h1, h2⟩ := h
  obtain ⟨K, capk, h3, h4⟩ := h2.node
  refine ⟨K, capk, h3, fun j u hu => ?_⟩
  have hlt : 0 < (a.app (.cons x kids rest)).len := by rw [Fr.len_app, Fr.len]; omega
  obtain ⟨b', o', e, _, hc⟩ := h1.rd.2 hlt
  have hu2 := h4 j u hu
  clear h4 hu h1 h2
  have e2 : (⟨b, o, none⟩ : Addr) = ⟨b', o', none⟩ := Option.some.inj (hA.symm.trans e)
  have e3 : b = b' := congrArg Addr.block e2
  have e4 : o = o' := congrArg Addr.off e2
  rw [e3, e4]
  exact hc (a.len * 262 + j) u hu2
set_option maxRecDepth 3000 in
theorem FrAt.some {ok : Nat → Prop} {w : World} {A : Option Addr} {cap : Nat} {f : Fr} (h : FrAt ok w A cap f) (hp : 0 < f.len) : ∃ b o, A = some ⟨b, o, none⟩ ∧ InHeap b w := by
  obtain ⟨xs, h1, h2⟩ := h
  obtain ⟨b, o, e, hb, _⟩ := h1.rd.2 hp
  exact ⟨b, o, e, hb⟩
end Go.Proofs.YtpignlkojlbhkaaDoor

/-
  The patterns' laws: the chapter's examples.
-/
namespace Go.Proofs.YtpignlkojlbhkaaDoor
open Go.RowKit

set_option maxRecDepth 3000 in
theorem bre_yes {l : List UInt8} {y : Fr × PS} (hl : l.length ≤ 1000000) (hy : patV l = some y) (w : World) (hs : Sane w) (x : ByteArray) (hx : x = tx l) :
    Calls Tryd.prog 10 #[.string x] w fun e w' => ∃ g, e = .returned (.tuple #[.pointer (some ⟨g, 1, none⟩), .int .i64 0]) ∧ ReAt (fun b => w.heap.size ≤ b ∧ ¬ b = g) w' g y.1 y.2 ∧ w.heap.size ≤ g ∧ Grows w w' :=
  hx ▸ (bre_parse l w hl hs).mono fun e w' h => by rw [hy] at h; exact h
set_option maxRecDepth 3000 in
theorem bre_no {l : List UInt8} (hl : l.length ≤ 1000000) (hy : patV l = none) (w : World) (hs : Sane w) (x : ByteArray) (hx : x = tx l) :
    Calls Tryd.prog 10 #[.string x] w fun e w' => e = .returned (.tuple #[.pointer none, .int .i64 90]) ∧ Grows w w' :=
  hx ▸ (bre_parse l w hl hs).mono fun e w' h => by rw [hy] at h; exact h
set_option maxRecDepth 3000 in
theorem two_nodes : ∃ y, patV [97, 46, 42, 36] = some y ∧ y.1 = .cons (byteN 97) .nil (.cons (timesN 0 (-1)) (Fr.one (ndK 2) .nil) (.cons (ndK 5) .nil .nil)) ∧ y.2.parts = 4 ∧ y.2.refs = false := ⟨_, rfl, rfl, rfl, rfl⟩
set_option maxRecDepth 3000 in
set_option maxHeartbeats 1000000 in
theorem does_any (w : World) (hs : Sane w) : Calls Tryd.prog 16 #[] w fun e w' => e = .returned (.bool true) ∧ Grows w w' := by
  obtain ⟨y1, p1, q1, q2, q3⟩ := two_nodes
  obtain ⟨y2, p2, r1, r2⟩ := ex_two
  go_enter Tryd.func16, Tryd.ntmps16
  go_wp2_with fail
  (with_reducible refine (bre_yes (by decide) p1 w hs ⟨#[97, 46, 42, 36]⟩ rfl).mono ?_)
  rintro e w1 ⟨g1, rfl, R1, l1, k1⟩
  go_wp2_with fail
  (with_reducible refine (tree_any R1 (by rw [patV_size p1 |>.1]; have := (patV_size p1).2; omega)).mono ?_)
  rintro e w2 ⟨A, cap, rfl, hA, k2⟩
  have hs2 := (hs.grows k1).grows k2
  have R1 := R1.grows k2
  obtain ⟨f1, t1⟩ := y1
  obtain ⟨f2, t2⟩ := y2
  simp only [] at q1 q2 q3 r1 r2 R1 hA
  go_wp2_with fail
  (with_reducible refine (bre_yes (by decide) p2 w2 hs2 ⟨#[92, 40, 97, 98, 92, 41, 42, 92, 49]⟩ rfl).mono ?_)
  rintro e w3 ⟨g2, rfl, R2, l2, k3⟩
  simp only [] at R2
  have hs3 := hs2.grows k3
  have R1 := R1.grows k3
  have hA := hA.grows k3
  have hlen : f1.len = 3 := by rw [q1]; rfl
  obtain ⟨b, o, rfl, ib⟩ := hA.some (by omega)
  obtain ⟨K0, ck0, -, n0⟩ := hA.node (a := .nil) q1 rfl
  obtain ⟨K1, ck1, -, n1⟩ := hA.node (a := .cons (byteN 97) .nil .nil) q1 rfl
  obtain ⟨K2, ck2, -, n2⟩ := hA.node (a := .cons (byteN 97) .nil (.cons (timesN 0 (-1)) (Fr.one (ndK 2) Fr.nil) .nil)) q1 rfl
  have c00 : w3.cell? ⟨b, o, none⟩ = some (.int .i64 1) := n0 0 _ (ndA_0 _ _ _ _ _ _ _)
  have c01 : w3.cell? ⟨b, o + 1, none⟩ = some (.int .u8 97) := n0 1 _ (ndA_1 _ _ _ _ _ _ _)
  have c10 : w3.cell? ⟨b, o + 262, none⟩ = some (.int .i64 8) := n1 0 _ (ndA_0 _ _ _ _ _ _ _)
  have c15 : w3.cell? ⟨b, o + 522, none⟩ = some (.int .i64 (-1)) := n1 260 _ (ndA_260 _ _ _ _ _ _ _)
  have c20 : w3.cell? ⟨b, o + 524, none⟩ = some (.int .i64 5) := n2 0 _ (ndA_0 _ _ _ _ _ _ _)
  clear n0 n1 n2 q1 p1 hA
  go_wp2_with fail
  (with_reducible refine (bre_no (by decide) ex_none w3 hs3 ⟨#[92, 40, 97, 92, 49, 92, 41]⟩ rfl).mono ?_)
  rintro e w4 ⟨rfl, k4⟩
  have R1 := R1.grows k4
  have R2 := R2.grows k4
  have hc : ∀ {i v}, w3.cell? ⟨b, i, none⟩ = some v → w4.cell? ⟨b, i, none⟩ = some v := fun {i v} h => by
    obtain ⟨m, rfl⟩ := k4
    rw [cell_more _ _ _ (World.block_lt_of_cell? w3 _ h)]
    exact h
  have c00 := hc c00
  have c01 := hc c01
  have c10 := hc c10
  have c15 := hc c15
  have c20 := hc c20
  go_wp2_with fail
  (with_reducible refine (parts_any R1).mono ?_)
  rintro e w5 ⟨rfl, hw⟩
  subst hw
  go_wp2_with fail
  (with_reducible refine (groups_any R2).mono ?_)
  rintro e w5 ⟨rfl, hw⟩
  subst hw
  go_wp2_with fail
  (with_reducible refine (refs_any R2).mono ?_)
  rintro e w5 ⟨rfl, hw⟩
  subst hw
  go_wp2_with fail
  (with_reducible refine (refs_any R1).mono ?_)
  rintro e w5 ⟨rfl, hw⟩
  subst hw
  go_wp2_with fail
  go_ret
  exact ⟨rfl, ((k1.trans k2).trans k3).trans k4⟩
end Go.Proofs.YtpignlkojlbhkaaDoor

/-
  The law BreNone, walked.
-/
namespace Go.Proofs.YtpignlkojlbhkaaDoor
open Go.RowKit

set_option maxRecDepth 3000 in
set_option maxHeartbeats 1000000 in
theorem bre_none (l : List UInt8) (w : World) (hs : Sane w) : Calls Tryd.prog 4 #[.string (tx l)] w fun e w' => e = .returned (.bool true) ∧ Grows w w' := by
  by_cases hl : 1000 < l.length
  · go_enter Tryd.func4, Tryd.ntmps4
    go_wp2_with fail
    go_ret
    exact ⟨rfl, Grows.refl _⟩
  · go_enter Tryd.func4, Tryd.ntmps4
    go_wp2_with fail
    go_loopg [3, 4] 2 (fun q v3 v4 wr => Grows w wr ∧ (q = 2 ∧ v4 = .int .i64 0 ∧ (∃ g, v3 = .pointer (some ⟨g, 0, none⟩) ∧ ReZ wr g) ∨ q = 1 ∧ v4 = .int .i64 1 ∧ v3 = .pointer none ∨ q = 0 ∧ v4 = .int .i64 2 ∧ v3 = .pointer none))
    case atStart =>
      have hb : blk (w.alloc (.cells #[.slice none 0 0, .int .i64 0, .int .i64 0, .bool false] 44)) w.heap.size = #[.slice none 0 0, .int .i64 0, .int .i64 0, .bool false] := blk_alloc_at w _ _ _ rfl
      have hc := fun i => Blk.cell hb (by decide) i
      exact ⟨(Grows.refl w).alloc _, .inl ⟨rfl, rfl, _, rfl, ⟨hc 0, hc 1, hc 2, hc 3⟩⟩⟩
    case round =>
      obtain ⟨hg, ⟨rfl, rfl, g, rfl, hz⟩ | ⟨rfl, rfl, rfl⟩ | ⟨rfl, rfl, rfl⟩⟩ := hrel
      · go_wp2_with fail
        (with_reducible refine (tree_zero hz).mono ?_)
        rintro e w2 ⟨A, cap, rfl, hA, k2⟩
        have hz := hz.grows k2
        go_wp2_with fail
        (with_reducible refine (groups_zero hz).mono ?_)
        rintro e w5 ⟨rfl, hw⟩
        subst hw
        go_wp2_with fail
        (with_reducible refine (refs_zero hz).mono ?_)
        rintro e w5 ⟨rfl, hw⟩
        subst hw
        go_wp2_with fail
        (with_reducible refine (parts_zero hz).mono ?_)
        rintro e w5 ⟨rfl, hw⟩
        subst hw
        go_wp2_with fail
        go_roundg 1
        case measure => omega
        case rel => exact ⟨hg.trans k2, .inr (.inl ⟨rfl, rfl, rfl⟩)⟩
      · go_wp2_with fail
        (with_reducible refine (tree_nil wr).mono ?_)
        rintro e w2 ⟨rfl, hw⟩
        subst hw
        go_wp2_with fail
        (with_reducible refine (groups_nil wr).mono ?_)
        rintro e w5 ⟨rfl, hw⟩
        subst hw
        go_wp2_with fail
        (with_reducible refine (refs_nil wr).mono ?_)
        rintro e w5 ⟨rfl, hw⟩
        subst hw
        go_wp2_with fail
        (with_reducible refine (parts_nil wr).mono ?_)
        rintro e w5 ⟨rfl, hw⟩
        subst hw
        go_wp2_with fail
        go_roundg 0
        case measure => omega
        case rel => exact ⟨hg, .inr (.inr ⟨rfl, rfl, rfl⟩)⟩
      · go_wp2_with fail
        (with_reducible refine (bre_parse l wr (by omega) (hs.grows hg)).mono ?_)
        intro e w5 hp
        cases hv : patV l with
        | none =>
          rw [hv] at hp
          obtain ⟨rfl, k2⟩ := hp
          go_wp2_with fail
          (with_reducible refine (does_any w5 ((hs.grows hg).grows k2)).mono ?_)
          rintro e w6 ⟨rfl, k3⟩
          go_wp2_with fail
          go_ret
          exact ⟨rfl, (hg.trans k2).trans k3⟩
        | some y =>
          rw [hv] at hp
          obtain ⟨g, rfl, -, -, k2⟩ := hp
          go_wp2_with fail
          (with_reducible refine (does_any w5 ((hs.grows hg).grows k2)).mono ?_)
          rintro e w6 ⟨rfl, k3⟩
          go_wp2_with fail
          go_ret
          exact ⟨rfl, (hg.trans k2).trans k3⟩
end Go.Proofs.YtpignlkojlbhkaaDoor
