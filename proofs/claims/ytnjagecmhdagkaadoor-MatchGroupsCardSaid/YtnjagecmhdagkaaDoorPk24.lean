/-
  Patterns: a tree of one's own, that may be written; what is written into its nodes' kinds.
-/
import Derived.Test.YtnjagecmhdagkaaDoorPk21
import Derived.Test.YtnjagecmhdagkaaDoorPk22
set_option linter.unusedSimpArgs false
set_option linter.unusedVariables false
namespace Go.Proofs.YtnjagecmhdagkaaDoor
open Go.RowKit

/-- A block of one's own, that may be written. -/
def Live (lo : Nat) (w : World) (b : Nat) : Prop := lo ≤ b ∧ 0 < (blk w b).size
/-- A tree, of whose rows none but the first lies in the first one's block. -/
def FrTop (lo : Nat) (w : World) (A : Option Addr) (cap : Nat) (f : Fr) : Prop := ∃ xs, Sl (Live lo w) w A cap f.len xs ∧ FrRow (fun b => Live lo w b ∧ ∀ a, A = some a → ¬ a.block = b) w f xs
set_option maxRecDepth 3000 in
theorem FrTop.at_ {lo : Nat} {w : World} {A : Option Addr} {cap : Nat} {f : Fr} (h : FrTop lo w A cap f) : FrAt (Live lo w) w A cap f := by
  obtain ⟨xs, h1, h2⟩ := h
  exact ⟨xs, h1, h2.mono fun b _ h => h.1⟩
def Twin3 (w : World) (f : Fr) (e : Ending) (w' : World) : Prop := ∃ A cap, e = .returned (.slice A f.len cap) ∧ FrTop w.heap.size w' A cap f ∧ Grows w w'
set_option maxRecDepth 3000 in
theorem twin3_nil {w w' : World} {e : Ending} (h : Twin2 w .nil e w') : Twin3 w .nil e w' := by
  obtain ⟨A, cap, rfl, ⟨xs, h1, h2⟩, hg⟩ := h
  exact ⟨A, cap, rfl, ⟨xs, ⟨h1.rd, h1.nil, h1.le, h1.cap63, fun h => absurd h (Nat.lt_irrefl 0)⟩, h2⟩, hg⟩
/-- Some of the nodes have kids of their own by now. -/
structure TwinAt3 (w wr : World) (g : Nat) (f : Fr) (i : Nat) (a c : Fr) (xs ys tl : List Value) : Prop where
  at_ : TwinAt w wr g f i a c xs ys tl
  live : FrRow (fun b => Live w.heap.size wr b ∧ b ≠ g) wr a xs
set_option maxRecDepth 3000 in
theorem live_cell {lo g o b : Nat} {w : World} {v : Value} (h : Live lo w b) (hb : b < w.heap.size) (hne : b ≠ g) : Live lo (w.setCell ⟨g, o, none⟩ v) b :=
  ⟨h.1, by rw [chg_blk (chg_cell w g o v) hb hne]; exact h.2⟩
set_option maxRecDepth 3000 in
theorem live_grows {lo b : Nat} {w w' : World} (h : Live lo w b) (hb : b < w.heap.size) (hg : Grows w w') : Live lo w' b :=
  ⟨h.1, by obtain ⟨m, rfl⟩ := hg; rw [blk_more _ _ _ hb]; exact h.2⟩
set_option maxRecDepth 3000 in
theorem TwinAt3.step {w wr w2 : World} {g i : Nat} {f a : Fr} {xs tl zs : List Value} {x : NdV} {kids rest : Fr} {A A' : Option Addr} {cap cap' : Nat}
    (h : TwinAt3 w wr g f i a (.cons x kids rest) xs ((ndC x (.slice A kids.len cap)).toList ++ zs) tl) (hz : FrRow (fun b => b < w.heap.size) wr rest zs)
    (hg : Grows wr w2) (hk : FrTop wr.heap.size w2 A' cap' kids) (o : Nat) (ho : o = i * 262 + 261) :
    TwinAt3 w (w2.setCell ⟨g, o, none⟩ (.slice A' kids.len cap')) g f (i + 1) (a.app (.cons x kids .nil)) rest (xs ++ (ndC x (.slice A' kids.len cap')).toList) zs tl := by
  have hz1 : 0 < (blk wr g).size := by rw [h.at_.cells]; simp [ndA_size]; omega
  have ig := Blk.inHeap (c := blk wr g) rfl hz1
  have hc := chg_cell w2 g o (.slice A' kids.len cap')
  have hs := hg.below.size
  have hk2 : FrAt (fun b => wr.heap.size ≤ b) w2 A' cap' kids := hk.at_.mono fun b _ h => h.1
  refine ⟨h.at_.step hz hg hk2 o ho, FrRow.app ?_ ?_⟩
  · exact (((h.live.mono (ok2 := fun b => Live w.heap.size (w2.setCell ⟨g, o, none⟩ (.slice A' kids.len cap')) b ∧ b ≠ g) fun b hb k => ⟨live_cell (live_grows k.1 hb hg) (by omega) k.2, k.2⟩).chg (Chg.of_grows (p := fun _ => False) hg) fun _ _ _ k => k)).chg hc fun b _ hb => hb.2
  · obtain ⟨ys, h1, h2⟩ := (hk.at_.mono (ok2 := fun b => Live w.heap.size (w2.setCell ⟨g, o, none⟩ (.slice A' kids.len cap')) b ∧ b ≠ g) fun b hb k => by
      have hne : b ≠ g := fun e => by subst e; exact absurd ig (Nat.not_lt.2 k.1)
      exact ⟨live_cell ⟨Nat.le_trans h.at_.grown.below.size k.1, k.2⟩ hb hne, hne⟩).chg hc fun b _ hb => hb.2
    exact ⟨A', cap', ys, [], by simp, h1, h2, rfl⟩
set_option maxRecDepth 3000 in
theorem TwinAt3.head {w wr : World} {g i : Nat} {f a : Fr} {xs ys tl : List Value} {x : NdV} {kids rest : Fr} (h : TwinAt3 w wr g f i a (.cons x kids rest) xs ys tl) :
    ∃ A cap yk zs, TwinAt3 w wr g f i a (.cons x kids rest) xs ((ndC x (.slice A kids.len cap)).toList ++ zs) tl ∧ Sl (fun b => b < w.heap.size) wr A cap kids.len yk ∧ FrRow (fun b => b < w.heap.size) wr kids yk ∧ FrRow (fun b => b < w.heap.size) wr rest zs := by
  obtain ⟨A, cap, yk, zs, h0, h1, h2, h3⟩ := h.at_.head
  exact ⟨A, cap, yk, zs, ⟨h0, h.live⟩, h1, h2, h3⟩
set_option maxRecDepth 3000 in
theorem TwinAt3.fin {w wr : World} {g i cap : Nat} {f a : Fr} {xs ys tl : List Value} (h : TwinAt3 w wr g f i a .nil xs ys tl) (hp : 0 < f.len) (h1 : f.len ≤ cap) (h2 : cap ≤ maxLen) : FrTop w.heap.size wr (some ⟨g, 0, none⟩) cap f := by
  obtain ⟨⟨e, hl, hc, hlow, hd, ht, hg⟩, hv⟩ := h
  rw [Fr.app_nil] at e
  subst e
  have hx := hd.len
  have ht : ys = [] := ht
  subst ht
  have hz : 0 < (blk wr g).size := by rw [hc]; simp; omega
  refine ⟨xs, ⟨⟨hx, fun _ => ⟨g, 0, rfl, Blk.inHeap (c := blk wr g) rfl hz, fun j u hu => ?_⟩⟩, (fun e => by cases e), h1, by unfold maxLen at h2; omega, fun _ a e => by cases e; exact ⟨hlow, hz⟩⟩, hv.mono fun b _ hb => ⟨hb.1, fun a e => by cases e; exact fun e => hb.2 e.symm⟩⟩
  rw [Nat.zero_add, Blk.cell hc (by rw [← hc]; exact hz), List.getElem?_toArray, List.append_nil, List.getElem?_append_left (List.getElem?_eq_some_iff.1 hu).1]
  exact hu
set_option maxRecDepth 3000 in
set_option maxHeartbeats 1000000 in
theorem twin3_any : ∀ (m : Nat) (f : Fr) (ok : Nat → Prop) (A : Option Addr) (cap : Nat) (w : World), f.size ≤ m → f.size ≤ 1000000 → FrAt ok w A cap f →
    Calls Tryd.prog 27 #[.slice A f.len cap] w (Twin3 w f) := by
  intro m
  induction m with
  | zero =>
    intro f ok A cap w hm hmx hA
    obtain ⟨xs0, hs, hr⟩ := hA
    have hz : f.len = 0 := by have := f.len_size; omega
    obtain rfl := Fr.nil_of_len hz
    cases A with
    | none => obtain ⟨_, rfl⟩ := hs.nil rfl; exact (twin_none w).mono fun _ _ h => twin3_nil h
    | some a => exact (twin_zero a cap w).mono fun _ _ h => twin3_nil h
  | succ m ih =>
    intro f ok A cap w hm hmx hA
    obtain ⟨xs0, hs, hr⟩ := hA
    rcases Nat.eq_zero_or_pos f.len with hz | hp
    · obtain rfl := Fr.nil_of_len hz
      cases A with
      | none => obtain ⟨_, rfl⟩ := hs.nil rfl; exact (twin_none w).mono fun _ _ h => twin3_nil h
      | some a => exact (twin_zero a cap w).mono fun _ _ h => twin3_nil h
    cases A with
    | none => have := (hs.nil rfl).1; omega
    | some a =>
      have hlen := f.len_size
      have hclone := cloneNd a cap f.len xs0 w hs.rd (by omega) hp hr.one
      go_enter Tryd.func27, Tryd.ntmps27
      go_wp2_with fail
      (with_reducible refine hclone.mono ?_)
      rintro e w1 ⟨v, rfl, hown, hg1⟩
      obtain ⟨hl, ⟨rfl, h0⟩ | ⟨g, cap1, cur, rfl, hb, hh, h1, h2, h3, h4⟩⟩ := hown
      · omega
      have T0 : TwinAt3 w w1 g f 0 .nil f [] xs0 (cur.toList.drop (f.len * 262)) := ⟨⟨rfl, rfl, by
        unfold blk; rw [hh]; simp only [List.nil_append]; rw [← h4, List.take_append_drop, Array.toArray_toList], hb, rfl,
        (hr.mono fun b hk _ => hk).chg (Chg.of_grows (p := fun _ => False) hg1) (fun _ _ _ k => k), hg1⟩, rfl⟩
      generalize cur.toList.drop (f.len * 262) = tl at T0
      clear hclone
      go_wp2_with fail
      go_loopg [3, 8] f.len (fun q _ v8 wr => ∃ (i : Nat) (a c : Fr) (xs ys : List Value), q + i = f.len ∧ v8 = .int .i64 i ∧ TwinAt3 w wr g f i a c xs ys tl)
      case atStart => exact ⟨0, _, _, _, _, by omega, rfl, T0⟩
      case round =>
        obtain ⟨i, a1, c, xs, ys, hq, rfl, T⟩ := hrel
        cases c with
        | nil =>
          have hi : i = f.len := by rw [T.at_.all, Fr.len_app, T.at_.len]; rfl
          subst hi
          have T := Lib.hid T
          go_wp2_with fail
          go_ret
          exact ⟨_, _, rfl, T.out.fin hp h1 h2, T.out.at_.grown⟩
        | cons x kids rest =>
          have hil : i < f.len := by rw [T.at_.all, Fr.len_app, T.at_.len]; simp [Fr.len]
          have hsz : kids.size + 1 ≤ f.size := by rw [T.at_.all, Fr.size_app]; simp [Fr.size]; omega
          have T9 := T.head
          clear T
          clear ys
          obtain ⟨Ak, capk, ysk, zs, T, hk1, hk2, hk3⟩ := T9
          have hz1 : 0 < (blk wr g).size := by rw [T.at_.cells]; simp [ndA_size]; omega
          have ig : InHeap g wr := Blk.inHeap (c := blk wr g) rfl hz1
          have hxl := T.at_.done.len
          rw [T.at_.len] at hxl
          have hcell : wr.cell? ⟨g, i * 262 + 261, none⟩ = some (.slice Ak kids.len capk) := by
            rw [Blk.cell T.at_.cells (by rw [← T.at_.cells]; exact hz1), List.getElem?_toArray]
            exact get_kids x _ xs zs tl _ (by omega)
          have TT := Lib.hid T
          clear T
          have hk3 := Lib.hid hk3
          have hcall := ih kids _ Ak capk wr (by omega) (by omega) ⟨ysk, hk1, hk2⟩
          clear hk1 hk2
          go_wp2_with fail
          (with_reducible refine hcall.mono ?_)
          rintro e w2 ⟨A2, cap2, rfl, hf2, hg2⟩
          have ig2 : InHeap g w2 := Nat.lt_of_lt_of_le ig hg2.below.size
          have T2 := Lib.hid (TT.out.step hk3.out hg2 hf2 (i * 262 + 261) rfl)
          have hcell2 : w2.cell? ⟨g, i * 262 + 261, none⟩ = some (.slice Ak kids.len capk) := by
            obtain ⟨m, rfl⟩ := hg2; rw [cell_more _ _ _ ig]; exact hcell
          have hfr2 : ∀ k, w2.frozen? ⟨g, k, none⟩ = false := fun k => by
            have : blk w2 g = blk wr g := by obtain ⟨m, rfl⟩ := hg2; exact blk_more _ _ _ ig
            exact Blk.free this hz1 k
          clear hf2 hg2 hcall
          go_wp2_with fail
          go_roundg (gk - 1)
          case measure => omega
          case rel => exact ⟨i + 1, _, _, _, _, by omega, rfl, T2.out⟩
set_option maxRecDepth 3000 in
theorem tree3_any {ok : Nat → Prop} {w : World} {g : Nat} {f : Fr} {t : PS} (h : ReAt ok w g f t) (hf : f.size ≤ 1000000) :
    Calls Tryd.prog 18 #[.pointer (some ⟨g, 1, none⟩)] w (Twin3 w f) := by
  obtain ⟨A, cap, h1, h2⟩ := h.tree
  have ig : InHeap g w := World.block_lt_of_cell? _ _ h1
  have hcall := twin3_any f.size f ok A cap w (Nat.le_refl _) hf h2
  clear h h2
  go_enter Tryd.func18, Tryd.ntmps18
  go_wp2_with fail
  (with_reducible refine hcall.mono ?_)
  rintro e w1 ⟨A2, cap2, rfl, hf2, hg2⟩
  have hf2 := Lib.hid hf2
  clear hcall
  go_wp2_with fail
  go_ret
  exact ⟨A2, cap2, rfl, hf2.out, hg2⟩
set_option maxRecDepth 3000 in
theorem FrTop.grows {lo : Nat} {w w' : World} {A : Option Addr} {cap : Nat} {f : Fr} (h : FrTop lo w A cap f) (hg : Grows w w') : FrTop lo w' A cap f := by
  obtain ⟨xs, h1, h2⟩ := h
  have hc : Chg (fun _ => False) w w' := Chg.of_grows hg
  exact ⟨xs, (h1.mono (ok2 := Live lo w') fun b hb k => live_grows k hb hg).chg hc (fun _ _ _ k => k), (h2.mono (ok2 := fun b => Live lo w' b ∧ ∀ a, A = some a → ¬ a.block = b) fun b hb k => ⟨live_grows k.1 hb hg, k.2⟩).chg hc (fun _ _ _ k => k)⟩
set_option maxRecDepth 3000 in
/-- A node's cells within the first row; its kids lie in other blocks. -/
theorem FrTop.node {lo : Nat} {w : World} {A : Option Addr} {cap : Nat} {x : NdV} {kids rest a f : Fr} (h : FrTop lo w A cap f) (e : f = a.app (.cons x kids rest)) {b o : Nat} (hA : A = some ⟨b, o, none⟩) :
    ∃ K capk, FrAt (fun c => Live lo w c ∧ ¬ b = c) w K capk kids ∧ ∀ j u, (ndC x (.slice K kids.len capk))[j]? = some u → w.cell? ⟨b, o + (a.len * 262 + j), none⟩ = some u := by
  subst e
  obtain ⟨xs, h1, h2⟩ := h
  obtain ⟨K, capk, h3, h4⟩ := h2.node
  refine ⟨K, capk, h3.mono fun c _ h => ⟨h.1, h.2 _ hA⟩, fun j u hu => ?_⟩
  have hlt : 0 < (a.app (.cons x kids rest)).len := by rw [Fr.len_app, Fr.len]; omega
  obtain ⟨b', o', e, _, hc⟩ := h1.rd.2 hlt
  have hu2 := h4 j u hu
  clear h4 hu h1 h2
  have e2 : (⟨b, o, none⟩ : Addr) = ⟨b', o', none⟩ := Option.some.inj (hA.symm.trans e)
  have e3 : b = b' := congrArg Addr.block e2
  have e4 : o = o' := congrArg Addr.off e2
  rw [e3, e4]
  exact hc (a.len * 262 + j) u hu2
set_option maxRecDepth 3000 in
/-- A kid's first cell. -/
theorem FrAt.kind {ok : Nat → Prop} {w : World} {A : Option Addr} {cap : Nat} {f : Fr} (h : FrAt ok w A cap f) {k : Nat} (hk : k < f.len) {b o : Nat} (hA : A = Option.some ⟨b, o, none⟩) : ok b ∧ ∃ u, w.cell? ⟨b, o + k * 262, none⟩ = Option.some u := by
  obtain ⟨xs, h1, h2⟩ := h
  refine ⟨h1.ok (by omega) _ hA, ?_⟩
  obtain ⟨b', o', e, _, hc⟩ := h1.rd.2 (by omega)
  have e2 : (⟨b, o, none⟩ : Addr) = ⟨b', o', none⟩ := Option.some.inj (hA.symm.trans e)
  have e3 : b = b' := congrArg Addr.block e2
  have e4 : o = o' := congrArg Addr.off e2
  have hl := h2.len
  have hi : k * 262 < xs.length := by rw [hl]; omega
  rw [e3, e4]
  exact ⟨_, hc (k * 262) _ (List.getElem?_eq_getElem hi)⟩
/-- What was written: blocks of one's own, and of the first row its kinds alone. -/
structure Marks (T g o : Nat) (w2 wr : World) : Prop where
  chg : Chg (fun b => T ≤ b) w2 wr
  size : ∀ b, b < w2.heap.size → (blk wr b).size = (blk w2 b).size
  top : ∀ j, wr.cell? ⟨g, o + (j * 262 + 261), none⟩ = w2.cell? ⟨g, o + (j * 262 + 261), none⟩
section
variable {T g o : Nat} {w2 wr : World}
set_option maxRecDepth 3000 in
theorem Marks.start (T g o : Nat) (w : World) : Marks T g o w w := ⟨Chg.of_grows (Grows.refl _), fun _ _ => rfl, fun _ => rfl⟩
set_option maxRecDepth 3000 in
theorem Marks.put (h : Marks T g o w2 wr) (hg : 0 < (blk w2 g).size) {kb i : Nat} (hT : T ≤ kb) (hl : 0 < (blk w2 kb).size) (hx : kb = g → ∃ j, i = o + j * 262) (v : Value) : Marks T g o w2 (wr.setCell ⟨kb, i, none⟩ v) := by
  have ik : kb < w2.heap.size := Blk.inHeap rfl hl
  have igg : g < w2.heap.size := Blk.inHeap rfl hg
  have hs := h.chg.size
  have hl2 : 0 < (blk wr kb).size := by rw [h.size _ ik]; exact hl
  have hg2 : 0 < (blk wr g).size := by rw [h.size _ igg]; exact hg
  have hput := pa_put (w := wr) (g := kb) rfl hl2 i v
  refine ⟨h.chg.trans ((chg_cell wr kb i v).mono fun b _ e => by subst e; exact hT), fun b hb => ?_, fun j => ?_⟩
  · by_cases e : b = kb
    · subst e; rw [hput, Array.size_setIfInBounds]; exact h.size _ ik
    · rw [chg_blk (chg_cell wr kb i v) (by omega) e]; exact h.size b hb
  · rw [← h.top j]
    by_cases e : kb = g
    · obtain ⟨q, hq⟩ := hx e
      subst e
      rw [Blk.cell hput (by rw [Array.size_setIfInBounds]; exact hl2), Blk.cell rfl hl2, Array.getElem?_setIfInBounds_ne (by omega)]
    · exact (chg_cell wr kb i v).cell (a := ⟨g, o + (j * 262 + 261), none⟩) (by show g < wr.heap.size; omega) (fun e2 => e e2.symm)
set_option maxRecDepth 3000 in
theorem Marks.live (h : Marks T g o w2 wr) {b i : Nat} {u : Value} (hc : w2.cell? ⟨b, i, none⟩ = some u) (hl : 0 < (blk w2 b).size) : ∃ v, wr.cell? ⟨b, i, none⟩ = some v ∧ wr.frozen? ⟨b, i, none⟩ = false ∧ InHeap b wr := by
  have hb : b < w2.heap.size := Blk.inHeap rfl hl
  have hl2 : 0 < (blk wr b).size := by rw [h.size _ hb]; exact hl
  rw [Blk.cell rfl hl] at hc
  have hi := (Array.getElem?_eq_some_iff.1 hc).1
  rw [← h.size _ hb] at hi
  exact ⟨(blk wr b)[i], by rw [Blk.cell rfl hl2]; exact Array.getElem?_eq_getElem hi, Blk.free rfl hl2 _, Blk.inHeap rfl hl2⟩
end
end Go.Proofs.YtnjagecmhdagkaaDoor
