/-
  The patterns' laws: the walk over nodes, walked.
-/
import Derived.Test.YtmobcljinfoacaaDoorPk41
namespace Go.Proofs.YtmobcljinfoacaaDoor
open Go.RowKit

attribute [local go_sem ↓] zeroNode ldNode_eq stNode_eq
attribute [local go_sem] loadNode storeNode storeNode_if
/-- What the walk over a row leaves. -/
def Walked (w : World) (g : Nat) (many : Nat) (f : Fr) (t : WS) (e : Ending) (w' : World) : Prop := e = .returned (.tuple #[]) ∧ WsAt w' g ((many + f.size : Nat) : Int) t.groups t.ended false t.refs ∧ Chg (fun b => b = g) w w'
/-- What the walk needs. -/
structure Walk (ok : Nat → Prop) (w : World) (g : Nat) (A : Option Addr) (cap many : Nat) (f : Fr) (s t : WS) : Prop where
  at_ : FrAt ok w A cap f
  apart : ∀ b, ok b → b ≠ g
  good : GoodF f s t
  nine : s.groups ≤ 9
  cells : WsAt w g (many : Int) s.groups s.ended false s.refs
  much : many + f.size ≤ 1000
/-- At a node of a row. -/
structure WalkAt (ok : Nat → Prop) (w wr : World) (g : Nat) (A : Option Addr) (cap many : Nat) (f : Fr) (t : WS) (i : Nat) (a c : Fr) (m : WS) : Prop where
  all : f = a.app c
  len : a.len = i
  good : GoodF c m t
  nine : m.groups ≤ 9
  cells : WsAt wr g ((many + a.size : Nat) : Int) m.groups m.ended false m.refs
  chg : Chg (fun b => b = g) w wr
  at_ : FrAt ok wr A cap f
set_option maxRecDepth 3000 in
theorem WalkAt.next {ok : Nat → Prop} {w wr w2 : World} {g : Nat} {A : Option Addr} {cap many : Nat} {f : Fr} {t : WS} {i : Nat} {a rest kids : Fr} {x : NdV} {m m2 : WS} (h : WalkAt ok w wr g A cap many f t i a (.cons x kids rest) m) (hap : ∀ b, ok b → b ≠ g)
    (hr : GoodF rest m2 t) (h9 : m2.groups ≤ 9) (hc : WsAt w2 g ((many + a.size + 1 + kids.size : Nat) : Int) m2.groups m2.ended false m2.refs) (hg : Chg (fun b => b = g) wr w2) :
    WalkAt ok w w2 g A cap many f t (i + 1) (a.app (.cons x kids .nil)) rest m2 :=
  ⟨by rw [Fr.app_assoc]; exact h.all, by rw [Fr.len_app, h.len]; rfl, hr, h9, by rw [Fr.size_app, Fr.size, Fr.size, show many + (a.size + (kids.size + 0 + 1)) = many + a.size + 1 + kids.size by omega]; exact hc, h.chg.trans hg, h.at_.chg hg fun b _ k => hap b k⟩
set_option maxRecDepth 3000 in
set_option maxHeartbeats 8000000 in
theorem nodes_any : ∀ (N : Nat) (f : Fr) (ok : Nat → Prop) (A : Option Addr) (cap many g : Nat) (w : World) (s t : WS), f.size ≤ N → Walk ok w g A cap many f s t →
    Calls Tryd.prog 13 #[.pointer (some ⟨g, 0, none⟩), .slice A f.len cap] w (Walked w g many f t) := by
  intro N
  induction N with
  | zero =>
    intro f ok A cap many g w s t hN h
    obtain rfl : f = .nil := Fr.nil_of_len (by have := f.len_size; omega)
    have e : t = s := h.good
    subst e
    have hc := h.cells
    go_enter Tryd.func13, Tryd.ntmps13
    go_wp2_with fail
    go_loopg [4] 0 (fun q v4 wr => v4 = .int .i64 0 ∧ wr = w)
    case atStart => exact ⟨rfl, rfl⟩
    case round =>
      obtain ⟨rfl, rfl⟩ := hrel
      go_wp2_with fail
      exact ⟨rfl, .tuple #[], results_none rfl _ _ _, rfl, hc, Chg.refl _ _⟩
  | succ N ih =>
    intro f ok A cap many g w s t hN h
    have hsz : f.len ≤ 1000 := by have := f.len_size; have := h.much; omega
    have hmuch := h.much
    have hap := h.apart
    have W0 : WalkAt ok w w g A cap many f t 0 .nil f s := ⟨rfl, rfl, h.good, h.nine, h.cells, Chg.refl _ _, h.at_⟩
    clear h
    go_enter Tryd.func13, Tryd.ntmps13
    go_wp2_with fail
    go_loopg [4] f.len (fun q v4 wr => ∃ (i : Nat) (a c : Fr) (m : WS), q + i = f.len ∧ v4 = .int .i64 i ∧ WalkAt ok w wr g A cap many f t i a c m)
    case atStart => exact ⟨0, _, _, _, by omega, rfl, W0⟩
    case round =>
      obtain ⟨i, a, c, m, hq, rfl, W⟩ := hrel
      clear W0
      cases c with
      | nil =>
        have hi : i = f.len := by rw [W.all, Fr.len_app, W.len]; rfl
        subst hi
        have ef : f = a := by rw [W.all, Fr.app_nil]
        have et : t = m := W.good
        have HE : Hid (Walked w g many f t (.returned (.tuple #[])) wr) := Lib.hid ⟨rfl, by rw [ef, et]; exact W.cells, W.chg⟩
        clear W ef et
        go_wp2_with fail
        exact ⟨rfl, .tuple #[], results_none rfl _ _ _, HE.out⟩
      | cons x kids rest =>
        have hil : i < f.len := by rw [W.all, Fr.len_app, W.len]; simp [Fr.len]
        have i1 : (i : Int) < (f.len : Int) := by omega
        have hks : kids.size + 1 + a.size ≤ f.size := by rw [W.all, Fr.size_app]; simp [Fr.size]; omega
        obtain ⟨b, o, rfl, ib⟩ := W.at_.some (by omega)
        obtain ⟨K, ck, hK, n0⟩ := W.at_.node W.all rfl
        rw [W.len] at n0
        have sp2 := node_load (ndA_size _ _ _ _ _ _ _) (o := o + i * 262) (fun j u hu => by have := n0 j u hu; rwa [← Nat.add_assoc] at this)
        clear n0
        obtain ⟨m2, gN, gR⟩ := W.good.uncons
        have HW := Lib.hid W
        have HB : Hid (WsAt wr g ((many + a.size : Nat) : Int) m.groups m.ended false m.refs) := Lib.hid W.cells
        have ig := W.cells.inh
        obtain ⟨c0, c1, c12, c13⟩ := W.cells.cells
        have ff := W.cells.free
        have hm9 := W.nine
        clear W
        obtain ⟨M, hM⟩ : ∃ M : Nat, many + a.size = M := ⟨_, rfl⟩
        have hM1 : M ≤ 1000 := by omega
        rw [hM] at HB c0
        have hKz : kids.len ≤ 1000 := by have := kids.len_size; omega
        have HK := Lib.hid hK
        have HM := Lib.hid hM
        clear hK hM
        have gN : GoodF (Fr.one x kids) m m2 := gN
        obtain ⟨C, hC, BX⟩ := box_of x K kids.len ck
        rw [← hC] at sp2
        clear hC
        obtain ⟨cz, co, cv, d0, d258, d259, d260, d261⟩ := BX
        have g0 := get_of d0
        have g258 := get_of d258
        have g259 := get_of d259
        have g260 := get_of d260
        have g261 := get_of d261
        have GR := Lib.hid gR
        have HQ := Lib.hid hq
        have HIL := Lib.hid hil
        have HKS := Lib.hid hks
        have HNN := Lib.hid hN
        have HMU := Lib.hid hmuch
        clear gR hq hil hks hN hmuch
        rcases gN.one with ⟨hk, hn, hn9, m1, gk1, e2⟩ | ⟨hk, hn1, hn9, he, rfl, e2⟩ | ⟨hk, hkl, hmn, hx1, hx2, hx3, gk1⟩ | ⟨hk1, hk5, rfl, e2⟩
        · rw [e2] at GR
          rw [hk] at d0 g0
          have f1 : ((x.n : Int) != (m.groups : Int) + 1) = false := by simp; omega
          have f2 : ¬(9 : Int) < (x.n : Int) := by omega
          have f3 : (0 : Int) < (x.n : Int) := by omega
          have f4 : (x.n : Int) < 10 := by omega
          go_upto_region 9 with fail
          have HB1 : WsAt (((wr.setCell ⟨g, 0, none⟩ (.int .i64 ((M : Int) + 1))).setCell ⟨g, 1, none⟩ (.int .i64 ((m.groups : Int) + 1))).alloc (.cells C 41)) g ((M : Int) + 1) ((m.groups : Int) + 1) m.ended false m.refs := (((HB.out).set0 _).set1 _).alloc _
          have NB1 : Nb wr (((wr.setCell ⟨g, 0, none⟩ (.int .i64 ((M : Int) + 1))).setCell ⟨g, 1, none⟩ (.int .i64 ((m.groups : Int) + 1))).alloc (.cells C 41)) g wr.heap.size C := Nb.start ig (((Chg.refl _ _).trans (chg_cell _ _ _ _)).trans (chg_cell _ _ _ _)) (by simp) cz _
          generalize (((wr.setCell ⟨g, 0, none⟩ (.int .i64 ((M : Int) + 1))).setCell ⟨g, 1, none⟩ (.int .i64 ((m.groups : Int) + 1))).alloc (.cells C 41)) = W1 at *
          generalize wr.heap.size = nb at *
          clear c0 c1 c12 c13 ff ig
          obtain ⟨c0, c1, c12, c13⟩ := HB1.cells
          have ff := HB1.free
          have ig := HB1.inh
          have inb := NB1.inh
          have n258 := (NB1.cell 258).trans d258
          have n261 := (NB1.cell 261).trans d261
          clear hm9
          have HNX := Lib.hid hn
          have HBH := Lib.hid HB1
          have NBH := Lib.hid NB1
          clear HB1 NB1 HB sp2 cv co hn
          go_cut [] (fun wx => WsAt wx g ((M : Int) + 1) ((m.groups : Int) + 1) m.ended false m.refs ∧ Chg (fun b => b = g) W1 wx)
          case first =>
            go_region_law (fail)
            all_goals
              go_wp2_with fail
              go_meet
              exact ⟨(HBH.out.set12 false).drewN 1, (chg_cell _ _ _ _).trans (Chg.of_grows ((Grows.refl _).drewN 1))⟩
          case rest =>
            obtain ⟨hb2, hc2⟩ := hcut
            have NB2 := NBH.out.step hc2
            have hcall := ih kids ok K ck (M + 1) g wc { m with groups := m.groups + 1 } m1 (by have := HKS.out; have := HNN.out; omega) ⟨HK.out.chg NB2.chg (fun b _ h => hap b h), hap, gk1, by have := HNX.out; simp only []; omega, (show WsAt wc g (((M + 1 : Nat)) : Int) (((m.groups + 1 : Nat)) : Int) m.ended false m.refs by rw [Int.natCast_add, Int.natCast_add]; exact hb2), by have := HM.out; have := HKS.out; have := HMU.out; omega⟩
            clear c0 c1 c12 c13 ff ig inb n258 n261
            have ig := hb2.inh
            have n258 := (NB2.cell 258).trans d258
            have n261 := (NB2.cell 261).trans d261
            have inb := NB2.inh
            go_wp2_with fail
            (with_reducible refine hcall.mono ?_)
            rintro e w3 ⟨rfl, hb3, hc3⟩
            have NB3 := NB2.step hc3
            clear n258 n261 ig inb hcall
            obtain ⟨c0, c1, c12, c13⟩ := hb3.cells
            have ff := hb3.free
            have ig := hb3.inh
            have inb := NB3.inh
            have n258 := (NB3.cell 258).trans d258
            have ce := (hb3.cell (2 + x.n)).trans (wsA_at _ _ _ _ _ x.n hn9)
            have HB3 := Lib.hid hb3
            have NB3 := Lib.hid NB3
            clear hb2 hb3 hc2 hc3 NB2
            go_upto_region 12 with fail
            go_region_law (fail)
            all_goals
              go_wp2_with fail
              go_roundg (gk - 1)
              case measure => have := HQ.out; omega
              case rel => exact ⟨i + 1, _, _, _, by have := HQ.out; have := HIL.out; omega, by go_num, HW.out.next hap GR.out (gk1.nine (by have := HNX.out; simp only []; omega)) (by rw [HM.out]; exact (HB3.out.setAt x.n hn9).drewN 1) (NB3.out.chg.trans ((chg_cell _ _ _ _).trans (Chg.of_grows ((Grows.refl _).drewN 1))))⟩
        · rw [e2] at GR
          rw [hk] at d0 g0
          have f1 : ¬(x.n : Int) < 1 := by omega
          have f2 : ¬(9 : Int) < (x.n : Int) := by omega
          have f4 : (x.n : Int) < 10 := by omega
          go_upto_region 15 with fail
          have HB1 : WsAt (((wr.setCell ⟨g, 0, none⟩ (.int .i64 ((M : Int) + 1))).setCell ⟨g, 13, none⟩ (.bool true)).alloc (.cells C 41)) g ((M : Int) + 1) (m.groups : Int) m.ended false true := (((HB.out).set0 _).set13 _).alloc _
          have NB1 : Nb wr (((wr.setCell ⟨g, 0, none⟩ (.int .i64 ((M : Int) + 1))).setCell ⟨g, 13, none⟩ (.bool true)).alloc (.cells C 41)) g wr.heap.size C := Nb.start ig (((Chg.refl _ _).trans (chg_cell _ _ _ _)).trans (chg_cell _ _ _ _)) (by simp) cz _
          generalize (((wr.setCell ⟨g, 0, none⟩ (.int .i64 ((M : Int) + 1))).setCell ⟨g, 13, none⟩ (.bool true)).alloc (.cells C 41)) = W1 at *
          generalize wr.heap.size = nb at *
          clear c0 c1 c12 c13 ff ig
          obtain ⟨c0, c1, c12, c13⟩ := HB1.cells
          have ff := HB1.free
          have ig := HB1.inh
          have inb := NB1.inh
          have n258 := (NB1.cell 258).trans d258
          have ce : W1.cell? ⟨g, 2 + x.n, none⟩ = some (.bool true) := by rw [HB1.cell, wsA_at _ _ _ _ _ _ hn9, he]
          have HBH := Lib.hid HB1
          have NBH := Lib.hid NB1
          clear HB1 NB1 HB sp2 cv co
          go_region_law (fail)
          all_goals
            go_wp2_with fail
            go_roundg (gk - 1)
            case measure => have := HQ.out; omega
            case rel => exact ⟨i + 1, _, _, _, by have := HQ.out; have := HIL.out; omega, by go_num, HW.out.next hap GR.out hm9 (by rw [HM.out]; exact (show WsAt _ g (((M + 1 : Nat)) : Int) _ _ _ _ from by rw [Int.natCast_add]; exact (HBH.out.set12 false).drewN 1)) (NBH.out.chg.trans ((chg_cell _ _ _ _).trans (Chg.of_grows ((Grows.refl _).drewN 1))))⟩
        · rw [hk] at d0 g0
          have f1 : ((kids.len : Int) != 1) = false := by simp; omega
          have f2 : ¬(x.mn : Int) < 0 := by omega
          have f3 : ¬(255 : Int) < (x.mn : Int) := by omega
          have f4 : ¬x.mx < -1 := by omega
          have f5 : ¬255 < x.mx := by omega
          have hcall : ∀ W, WsAt W g ((M : Int) + 1) m.groups m.ended false m.refs → Chg (fun b => b = g) wr W → Calls Tryd.prog 13 #[.pointer (some ⟨g, 0, none⟩), .slice K kids.len ck] W (Walked W g (M + 1) kids m2) := fun W h1 h2 => ih kids ok K ck (M + 1) g W m m2 (by have := HKS.out; have := HNN.out; omega) ⟨HK.out.chg h2 (fun b _ h => hap b h), hap, gk1, hm9, (show WsAt W g (((M + 1 : Nat)) : Int) m.groups m.ended false m.refs by rw [Int.natCast_add]; exact h1), by have := HM.out; have := HKS.out; have := HMU.out; omega⟩
          clear hkl hmn hx1 hx2
          rcases Int.lt_or_le x.mx 0 with hz | hz
          · have f6 : ¬0 ≤ x.mx := by omega
            clear hx3
            go_upto_region 17 with fail
            have HB1 : WsAt ((wr.setCell ⟨g, 0, none⟩ (.int .i64 ((M : Int) + 1))).alloc (.cells C 41)) g ((M : Int) + 1) (m.groups : Int) m.ended false m.refs := ((HB.out).set0 _).alloc _
            have NB1 : Nb wr ((wr.setCell ⟨g, 0, none⟩ (.int .i64 ((M : Int) + 1))).alloc (.cells C 41)) g wr.heap.size C := Nb.start ig ((Chg.refl _ _).trans (chg_cell _ _ _ _)) (by simp) cz _
            generalize ((wr.setCell ⟨g, 0, none⟩ (.int .i64 ((M : Int) + 1))).alloc (.cells C 41)) = W1 at *
            generalize wr.heap.size = nb at *
            clear c0 c1 c12 c13 ff ig
            obtain ⟨c0, c1, c12, c13⟩ := HB1.cells
            have ff := HB1.free
            have ig := HB1.inh
            have inb := NB1.inh
            have n259 := (NB1.cell 259).trans d259
            have n260 := (NB1.cell 260).trans d260
            have n261 := (NB1.cell 261).trans d261
            have HBH := Lib.hid HB1
            have NBH := Lib.hid NB1
            clear HB1 NB1 HB sp2 cv co
            go_wp2_with fail
            (with_reducible refine (hcall _ (HBH.out.set12 false) (NBH.out.chg.trans (chg_cell _ _ _ _))).mono ?_)
            rintro e w3 ⟨rfl, hb3, hc3⟩
            have HB3 := Lib.hid hb3
            have HC3 := Lib.hid hc3
            clear hb3 hc3 hcall
            go_wp2_with fail
            go_roundg (gk - 1)
            case measure => have := HQ.out; omega
            case rel => exact ⟨i + 1, _, _, _, by have := HQ.out; have := HIL.out; omega, by go_num, HW.out.next hap GR.out (gk1.nine hm9) (by rw [HM.out]; exact HB3.out) ((NBH.out.chg.trans (chg_cell _ _ _ _)).trans HC3.out)⟩
          · have f7 : ¬x.mx < (x.mn : Int) := by omega
            clear hx3
            go_upto_region 17 with fail
            have HB1 : WsAt ((wr.setCell ⟨g, 0, none⟩ (.int .i64 ((M : Int) + 1))).alloc (.cells C 41)) g ((M : Int) + 1) (m.groups : Int) m.ended false m.refs := ((HB.out).set0 _).alloc _
            have NB1 : Nb wr ((wr.setCell ⟨g, 0, none⟩ (.int .i64 ((M : Int) + 1))).alloc (.cells C 41)) g wr.heap.size C := Nb.start ig ((Chg.refl _ _).trans (chg_cell _ _ _ _)) (by simp) cz _
            generalize ((wr.setCell ⟨g, 0, none⟩ (.int .i64 ((M : Int) + 1))).alloc (.cells C 41)) = W1 at *
            generalize wr.heap.size = nb at *
            clear c0 c1 c12 c13 ff ig
            obtain ⟨c0, c1, c12, c13⟩ := HB1.cells
            have ff := HB1.free
            have ig := HB1.inh
            have inb := NB1.inh
            have n259 := (NB1.cell 259).trans d259
            have n260 := (NB1.cell 260).trans d260
            have n261 := (NB1.cell 261).trans d261
            have HBH := Lib.hid HB1
            have NBH := Lib.hid NB1
            clear HB1 NB1 HB sp2 cv co
            go_wp2_with fail
            (with_reducible refine (hcall _ (HBH.out.set12 false) (NBH.out.chg.trans (chg_cell _ _ _ _))).mono ?_)
            rintro e w3 ⟨rfl, hb3, hc3⟩
            have HB3 := Lib.hid hb3
            have HC3 := Lib.hid hc3
            clear hb3 hc3 hcall
            go_wp2_with fail
            go_roundg (gk - 1)
            case measure => have := HQ.out; omega
            case rel => exact ⟨i + 1, _, _, _, by have := HQ.out; have := HIL.out; omega, by go_num, HW.out.next hap GR.out (gk1.nine hm9) (by rw [HM.out]; exact HB3.out) ((NBH.out.chg.trans (chg_cell _ _ _ _)).trans HC3.out)⟩
        · have h5 : x.kind = 1 ∨ x.kind = 2 ∨ x.kind = 3 ∨ x.kind = 4 ∨ x.kind = 5 := by omega
          rw [e2] at GR
          have HN : ∀ w2, WsAt w2 g ((M : Int) + 1) m.groups m.ended false m.refs → Chg (fun b => b = g) wr w2 → WalkAt ok w w2 g (some ⟨b, o, none⟩) cap many f t (i + 1) (a.app (.cons x .nil .nil)) rest m := fun w2 h1 h2 => HW.out.next hap GR.out hm9 (by rw [HM.out]; simpa [Fr.size] using h1) h2
          clear hk1 hk5
          rcases h5 with h5 | h5 | h5 | h5 | h5
          · rw [h5] at d0 g0
            go_upto_region 24 with fail
            have HB1 : WsAt ((wr.setCell ⟨g, 0, none⟩ (.int .i64 ((M : Int) + 1))).alloc (.cells C 41)) g ((M : Int) + 1) (m.groups : Int) m.ended false m.refs := ((HB.out).set0 _).alloc _
            have NB1 : Nb wr ((wr.setCell ⟨g, 0, none⟩ (.int .i64 ((M : Int) + 1))).alloc (.cells C 41)) g wr.heap.size C := Nb.start ig ((Chg.refl _ _).trans (chg_cell _ _ _ _)) (by simp) cz _
            generalize ((wr.setCell ⟨g, 0, none⟩ (.int .i64 ((M : Int) + 1))).alloc (.cells C 41)) = W1 at *
            generalize wr.heap.size = nb at *
            clear c0 c1 c12 c13 ff ig
            obtain ⟨c0, c1, c12, c13⟩ := HB1.cells
            have ff := HB1.free
            have ig := HB1.inh
            have inb := NB1.inh
            have n261 := (NB1.cell 261).trans d261
            have HBH := Lib.hid HB1
            have NBH := Lib.hid NB1
            clear HB1 NB1 HB sp2 cv co
            go_wp2_with fail
            go_roundg (gk - 1)
            case measure => have := HQ.out; omega
            case rel => exact ⟨i + 1, _, _, _, by have := HQ.out; have := HIL.out; omega, by go_num, HN _ (HBH.out.set12 false) ((NBH.out.chg).trans (chg_cell _ _ _ _))⟩
          · rw [h5] at d0 g0
            go_upto_region 24 with fail
            have HB1 : WsAt ((wr.setCell ⟨g, 0, none⟩ (.int .i64 ((M : Int) + 1))).alloc (.cells C 41)) g ((M : Int) + 1) (m.groups : Int) m.ended false m.refs := ((HB.out).set0 _).alloc _
            have NB1 : Nb wr ((wr.setCell ⟨g, 0, none⟩ (.int .i64 ((M : Int) + 1))).alloc (.cells C 41)) g wr.heap.size C := Nb.start ig ((Chg.refl _ _).trans (chg_cell _ _ _ _)) (by simp) cz _
            generalize ((wr.setCell ⟨g, 0, none⟩ (.int .i64 ((M : Int) + 1))).alloc (.cells C 41)) = W1 at *
            generalize wr.heap.size = nb at *
            clear c0 c1 c12 c13 ff ig
            obtain ⟨c0, c1, c12, c13⟩ := HB1.cells
            have ff := HB1.free
            have ig := HB1.inh
            have inb := NB1.inh
            have n261 := (NB1.cell 261).trans d261
            have HBH := Lib.hid HB1
            have NBH := Lib.hid NB1
            clear HB1 NB1 HB sp2 cv co
            go_wp2_with fail
            go_roundg (gk - 1)
            case measure => have := HQ.out; omega
            case rel => exact ⟨i + 1, _, _, _, by have := HQ.out; have := HIL.out; omega, by go_num, HN _ (HBH.out.set12 false) ((NBH.out.chg).trans (chg_cell _ _ _ _))⟩
          · rw [h5] at d0 g0
            go_upto_region 24 with fail
            have HB1 : WsAt ((wr.setCell ⟨g, 0, none⟩ (.int .i64 ((M : Int) + 1))).alloc (.cells C 41)) g ((M : Int) + 1) (m.groups : Int) m.ended false m.refs := ((HB.out).set0 _).alloc _
            have NB1 : Nb wr ((wr.setCell ⟨g, 0, none⟩ (.int .i64 ((M : Int) + 1))).alloc (.cells C 41)) g wr.heap.size C := Nb.start ig ((Chg.refl _ _).trans (chg_cell _ _ _ _)) (by simp) cz _
            generalize ((wr.setCell ⟨g, 0, none⟩ (.int .i64 ((M : Int) + 1))).alloc (.cells C 41)) = W1 at *
            generalize wr.heap.size = nb at *
            clear c0 c1 c12 c13 ff ig
            obtain ⟨c0, c1, c12, c13⟩ := HB1.cells
            have ff := HB1.free
            have ig := HB1.inh
            have inb := NB1.inh
            have n261 := (NB1.cell 261).trans d261
            have HBH := Lib.hid HB1
            have NBH := Lib.hid NB1
            clear HB1 NB1 HB sp2 cv co
            go_wp2_with fail
            go_roundg (gk - 1)
            case measure => have := HQ.out; omega
            case rel => exact ⟨i + 1, _, _, _, by have := HQ.out; have := HIL.out; omega, by go_num, HN _ (HBH.out.set12 false) ((NBH.out.chg).trans (chg_cell _ _ _ _))⟩
          · rw [h5] at d0 g0
            go_upto_region 24 with fail
            have HB1 : WsAt ((wr.setCell ⟨g, 0, none⟩ (.int .i64 ((M : Int) + 1))).alloc (.cells C 41)) g ((M : Int) + 1) (m.groups : Int) m.ended false m.refs := ((HB.out).set0 _).alloc _
            have NB1 : Nb wr ((wr.setCell ⟨g, 0, none⟩ (.int .i64 ((M : Int) + 1))).alloc (.cells C 41)) g wr.heap.size C := Nb.start ig ((Chg.refl _ _).trans (chg_cell _ _ _ _)) (by simp) cz _
            generalize ((wr.setCell ⟨g, 0, none⟩ (.int .i64 ((M : Int) + 1))).alloc (.cells C 41)) = W1 at *
            generalize wr.heap.size = nb at *
            clear c0 c1 c12 c13 ff ig
            obtain ⟨c0, c1, c12, c13⟩ := HB1.cells
            have ff := HB1.free
            have ig := HB1.inh
            have inb := NB1.inh
            have n261 := (NB1.cell 261).trans d261
            have HBH := Lib.hid HB1
            have NBH := Lib.hid NB1
            clear HB1 NB1 HB sp2 cv co
            go_wp2_with fail
            go_roundg (gk - 1)
            case measure => have := HQ.out; omega
            case rel => exact ⟨i + 1, _, _, _, by have := HQ.out; have := HIL.out; omega, by go_num, HN _ (HBH.out.set12 false) ((NBH.out.chg).trans (chg_cell _ _ _ _))⟩
          · rw [h5] at d0 g0
            go_upto_region 24 with fail
            have HB1 : WsAt ((wr.setCell ⟨g, 0, none⟩ (.int .i64 ((M : Int) + 1))).alloc (.cells C 41)) g ((M : Int) + 1) (m.groups : Int) m.ended false m.refs := ((HB.out).set0 _).alloc _
            have NB1 : Nb wr ((wr.setCell ⟨g, 0, none⟩ (.int .i64 ((M : Int) + 1))).alloc (.cells C 41)) g wr.heap.size C := Nb.start ig ((Chg.refl _ _).trans (chg_cell _ _ _ _)) (by simp) cz _
            generalize ((wr.setCell ⟨g, 0, none⟩ (.int .i64 ((M : Int) + 1))).alloc (.cells C 41)) = W1 at *
            generalize wr.heap.size = nb at *
            clear c0 c1 c12 c13 ff ig
            obtain ⟨c0, c1, c12, c13⟩ := HB1.cells
            have ff := HB1.free
            have ig := HB1.inh
            have inb := NB1.inh
            have n261 := (NB1.cell 261).trans d261
            have HBH := Lib.hid HB1
            have NBH := Lib.hid NB1
            clear HB1 NB1 HB sp2 cv co
            go_wp2_with fail
            go_roundg (gk - 1)
            case measure => have := HQ.out; omega
            case rel => exact ⟨i + 1, _, _, _, by have := HQ.out; have := HIL.out; omega, by go_num, HN _ (HBH.out.set12 false) ((NBH.out.chg).trans (chg_cell _ _ _ _))⟩
end Go.Proofs.YtmobcljinfoacaaDoor
