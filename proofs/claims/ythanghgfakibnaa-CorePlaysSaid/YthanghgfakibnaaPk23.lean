/-
  Several texts of the proof: RegsPush, RegsCl, RegsGetO.
-/
import Derived.Test.YthanghgfakibnaaPk22
/-
  Registers: the walk of Push.
-/
namespace Go.Proofs.Ythanghgfakibnaa
open Go.RowKit
attribute [local go_sem] bput
attribute [local go_sem ↓] makeR eqlMap updR entR stoR lookR lookV zeroReg
set_option maxRecDepth 3000 in
/-- Set, whatever the letter and the text. -/
theorem set_any {ok okx : Nat → Prop} (p r : Nat) (S : RS) (k : Nat) (A : Option Addr) (cap : Nat) (x : Rg) (w : World) (h : Regs ok w p r S) (hx : LRd okx w A cap x.d) (hf : x.fits) (hok : ∀ b, w.heap.size ≤ b → ok b) (hnr : ¬ ok r) :
    Calls Try.prog 30 #[.pointer (some ⟨p, 0, none⟩), .int .u8 k, .agg #[.slice A x.d.length cap, .bool x.whole]] w (PutOut ok p r (rset S k x) w) := by
  unfold rset
  cases hc : rcheck x with
  | false => simp only [if_true]; exact set_bad p r S k A cap x w h hx hf hok hnr hc
  | true =>
    rw [if_neg (by simp)]
    by_cases h0 : (k : Int) = 0
    · rw [if_pos h0, h0]
      exact set_zero p r S A cap x w h hx hf hok hnr hc
    · rw [if_neg h0]
      by_cases h1 : 65 ≤ (k : Int) ∧ (k : Int) ≤ 90
      · rw [if_pos h1]
        cases hy : rcheck (rjoin ((S ((k : Int) + 32)).getD rg0) x) with
        | false => simp only [if_true]; exact set_long p r S k A cap x w h hx hf hok hnr hc (by omega) (by omega) hy
        | true => rw [if_neg (by simp)]; exact set_great p r S k A cap x w h hx hf hok hnr hc (by omega) (by omega) hy
      · rw [if_neg h1]
        by_cases h2 : 97 ≤ (k : Int) ∧ (k : Int) ≤ 122
        · rw [if_pos h2]
          exact set_small p r S k A cap x w h hx hf hok hnr hc (by omega) (by omega)
        · rw [if_neg h2]
          by_cases h3 : k < 65
          · exact set_odd1 p r S k A cap x w h hx hf hok hnr hc (by omega) h3
          · by_cases h4 : k < 97
            · exact set_odd2 p r S k A cap x w h hx hf hok hnr hc (by omega) h4
            · exact set_odd3 p r S k A cap x w h hx hf hok hnr hc (by omega)
end Go.Proofs.Ythanghgfakibnaa

/-
  Registers: the walk of Clone.
-/
namespace Go.Proofs.Ythanghgfakibnaa
open Go.RowKit Go.MapKept
attribute [local go_sem ↓] makeR eqlMap updR entR stoR lookR lookV zeroReg
set_option maxRecDepth 3000 in
theorem run_maps_clone {P : Program} (w : World) {r : Nat} {es : Array MapEntry} {clock : Nat} (t : TypeId) (hb : w.heap[r]? = some (.map es clock)) :
    (Extern.MapsClone.clone #[.iface t (.map (some r))]).run P w = .ok (.iface t (.map (some w.heap.size))) (w.alloc (.map es clock)) := by
  have e : Extern.MapsClone.clone #[.iface t (.map (some r))] = (getObj r >>= fun o => match o with
      | .map entries clock => (newObj (.map entries clock) >>= fun n => pure (.iface t (.map (some n))))
      | _ => stuck "maps.clone: a map expected") := rfl
  rw [e]
  simp [MapKept.run_getObj_map hb, Result.andThen, go_sem]
set_option maxRecDepth 3000 in
theorem assertMap (w : World) (v : Value) (xT : TypeId) : (Instr.typeAssert (.iface 94 v) xT 94 false).run Try.prog w = .ok v w := by
  simp [Instr.typeAssert, run_underlying Try.underlying94, go_sem, Result.andThen]
attribute [local go_sem ↓] assertMap
set_option maxRecDepth 3000 in
set_option maxHeartbeats 1000000 in
theorem mapsClone_any {ok : Nat → Prop} (r : Nat) (S : RS) (w : World) (h : MapR ok w r S) : Calls Try.prog 67 #[.map (some r)] w fun e w' => e = .returned (.map (some w.heap.size)) ∧ Grows w w' ∧ MapR ok w' w.heap.size S := by
  obtain ⟨M, ⟨es, clk, hb, hs, hst, hM⟩, hS⟩ := h
  have HB := Lib.hid hb
  clear hb
  go_enter Try.func67, Try.ntmps67
  go_wp2_with fail
  rw [run_callFunc_extern Try.func87 (by kernel_rfl) (by kernel_rfl) (by kernel_rfl) (e := Extern.MapsClone.clone) (by kernel_rfl), run_maps_clone w 94 HB.out]
  simp only [Result.andThen]
  go_wp2_with fail
  go_ret
  have hg : Grows w (w.alloc (.map es clk)) := (Grows.refl w).alloc _
  exact ⟨rfl, hg, M, ⟨es, clk, (heap_alloc w _).1, hs, hst, hM⟩, fun k => (hS k).chg (Chg.of_grows (p := fun _ => False) hg) (fun _ _ _ h => h)⟩
set_option maxRecDepth 3000 in
set_option maxHeartbeats 1000000 in
/-- Clone: registers of their own. -/
theorem clone_regs {ok : Nat → Prop} (p r : Nat) (S : RS) (w : World) (h : Regs ok w p r S) : Calls Try.prog 41 #[.pointer (some ⟨p, 0, none⟩)] w fun e w' => ∃ q r2 : Nat, e = .returned (.pointer (some ⟨q, 0, none⟩)) ∧ Grows w w' ∧ w.heap.size ≤ q ∧ w.heap.size ≤ r2 ∧ Regs ok w' q r2 S := by
  have hp := h.cell
  have hg := Lib.hid h.good
  have hm := Lib.hid h.map
  have hb : InHeap p w := h.inp
  clear h
  go_enter Try.func41, Try.ntmps41
  go_wp2_with fail
  (with_reducible refine (none_map p r _ hp).mono ?_)
  rintro e w1 ⟨rfl, rfl⟩
  go_wp2_with fail
  (with_reducible refine (mapsClone_any r S _ hm.out).mono ?_)
  rintro e w1 ⟨rfl, ⟨m1, rfl⟩, hm1⟩
  have hm1 := Lib.hid hm1
  go_wp2_with fail
  go_ret
  refine ⟨_, _, rfl, (Grows.of w m1).alloc _, by simp, Nat.le_refl _, by simp [go_sem], hm1.out.grows ((Grows.refl _).alloc _), hg.out, ?_, by simp⟩
  intro e
  have := hm1.out.lt
  simp only [size_more] at this e
  omega
end Go.Proofs.Ythanghgfakibnaa

/-
  Registers: Get once more: what it tells is memory of its own.
-/
namespace Go.Proofs.Ythanghgfakibnaa
open Go.RowKit
attribute [local go_sem] bput
attribute [local go_sem ↓] makeR eqlMap updR entR stoR lookR lookV zeroReg
set_option maxRecDepth 3000 in
theorem ownrow_chg {w w' : World} {p : Nat → Prop} {base n : Nat} {v : Value} {xs : List Value} (h : w.ownsRow base 9 1 v n xs) (hc : Chg p w w') (hp : ∀ g, v.ownBlock = some g → ¬ p g) : w'.ownsRow base 9 1 v n xs := by
  obtain ⟨h1, h2⟩ := h
  refine ⟨h1, h2.elim Or.inl ?_⟩
  rintro ⟨g, cap, cur, hv, hb, hh, r⟩
  exact Or.inr ⟨g, cap, cur, hv, hb, by rw [hc.block g (Array.getElem?_eq_some_iff.1 hh).1 (hp g (by rw [hv]; rfl))]; exact hh, r⟩
set_option maxRecDepth 3000 in
theorem ownrow_box {w : World} {a b a2 b2 : Obj} {m : More} {v : Value} {n : Nat} {xs : List Value} (h : (more ((w.alloc a).alloc b) m).ownsRow ((w.alloc a).alloc b).heap.size 9 1 v n xs) : (more ((w.alloc a2).alloc b2) m).ownsRow w.heap.size 9 1 v n xs :=
  own_le (ownrow_chg h (chg_boxes a b a2 b2 m) (fun g hg hp => by have := h.lt g hg; simp at this; omega)) (by simp; omega)
/-- A text in memory of its own. -/
def NewRegO (x : Rg) (w : World) (e : Ending) (w' : World) : Prop := ∃ A cap, e = .returned (.agg #[.slice A x.d.length cap, .bool x.whole]) ∧ w'.ownsRow w.heap.size 9 1 (.slice A x.d.length cap) x.d.length (lv x.d) ∧ Grows w w'
set_option maxRecDepth 3000 in
set_option maxHeartbeats 400000 in
theorem own_anyO {ok : Nat → Prop} (A : Option Addr) (cap : Nat) (x : Rg) (w : World) (hx : LRd ok w A cap x.d) (hl : x.d.length ≤ 4000) :
    Calls Try.prog 53 #[.agg #[.slice A x.d.length cap, .bool x.whole]] w (NewRegO x w) := by
  have hr := hx.rd
  have hn := Lib.hid hx.nil
  go_enter Try.func53, Try.ntmps53
  go_wp2_with fail
  (with_reducible refine (clone_any A cap x.d _ (hr.grows (((Grows.refl _).alloc _).alloc _)) (by omega) hn.out).mono ?_)
  rintro e w1 ⟨v, rfl, hown, m1, rfl⟩
  obtain ⟨A1, c1, rfl, -⟩ := own_rd' hown
  have h1 := Lib.hid hown
  clear hown hr hx hn
  go_wp2_with fail
  exact bodyPost_ret (v := .agg #[.slice A1 x.d.length c1, .bool x.whole]) (by simp [results, Try.results53, go_sem]) rfl ⟨A1, c1, rfl, ownrow_box h1.out, by repeat' first | exact Grows.refl _ | refine Grows.more ?_ _ | refine Grows.alloc ?_ _⟩
/-- What Get answers, in memory of its own. -/
def GetO (x : Rg × Int) (w : World) (e : Ending) (w' : World) : Prop := ∃ A cap, e = .returned (.tuple #[.agg #[.slice A x.1.d.length cap, .bool x.1.whole], .int .i64 x.2]) ∧ w'.ownsRow w.heap.size 9 1 (.slice A x.1.d.length cap) x.1.d.length (lv x.1.d) ∧ Grows w w'
set_option maxRecDepth 3000 in
set_option maxHeartbeats 1000000 in
theorem getO_up {ok : Nat → Prop} (p r : Nat) (S : RS) (k : Nat) (w : World) (h : Regs ok w p r S) (h1 : 65 ≤ k) (h2 : k ≤ 90) : Calls Try.prog 31 #[.pointer (some ⟨p, 0, none⟩), .int .u8 k] w (GetO (match S ((k : Int) + 32) with | none => (rg0, 170) | some x => (x, 0)) w) := by
  have hb : InHeap p w := h.inp
  have hr : InHeap r w := h.map.lt
  have hp := h.cell
  have hB := h.map.bmap
  have hhas := h.map.has ((k : Int) + 32)
  have hval := h.map.val ((k : Int) + 32)
  have hg := h.good.getD ((k : Int) + 32)
  have hw : IntKind.u8.wrap ((k : Int) + 32) = (k : Int) + 32 := u8_wrap (by omega) (by omega)
  have k1 : (65 : Int) ≤ k := by omega
  have k2 : (k : Int) ≤ 90 := by omega
  obtain ⟨A, cap, he, hL⟩ := hval
  cases hs : S ((k : Int) + 32) with
  | none =>
    rw [hs] at hhas
    have hhas : hasB w r ((k : Int) + 32) = false := hhas
    clear h hg hL
    go_enter Try.func31, Try.ntmps31
    go_wp2_with fail
    (with_reducible refine (none_map p r _ (by simp [go_sem, hb, hp])).mono ?_)
    rintro e w1 ⟨rfl, rfl⟩
    go_wp2_with fail
    exact bodyPost_ret (v := .tuple #[.agg #[.slice none 0 0, .bool false], .int .i64 170]) (by simp [results, Try.results31, go_sem]) rfl ⟨none, 0, rfl, World.ownsRow_nil _ _ _ _, by repeat' first | exact Grows.refl _ | refine Grows.more ?_ _ | refine Grows.alloc ?_ _⟩
  | some x =>
    rw [hs] at hhas he hL hg
    have hhas : hasB w r ((k : Int) + 32) = true := hhas
    have he : valB w r ((k : Int) + 32) rz = .agg #[.slice A x.d.length cap, .bool x.whole] := he
    have hL : LRd ok w A cap x.d := hL
    have hl : x.d.length ≤ 4000 := by have : x.d.length ≤ 2000 := hg.1; omega
    have hL := Lib.hid hL
    clear h hg
    go_enter Try.func31, Try.ntmps31
    go_wp2_with fail
    (with_reducible refine (none_map p r _ (by simp [go_sem, hb, hp])).mono ?_)
    rintro e w1 ⟨rfl, rfl⟩
    go_wp2_with fail
    (with_reducible refine (own_anyO A cap x _ (hL.out.grows (by repeat' first | exact Grows.refl _ | refine Grows.alloc ?_ _)) hl).mono ?_)
    rintro e w1 ⟨A1, c1, rfl, hO, m1, rfl⟩
    have hO := Lib.hid hO
    go_wp2_with fail
    exact bodyPost_ret (v := .tuple #[.agg #[.slice A1 x.d.length c1, .bool x.whole], .int .i64 0]) (by simp [results, Try.results31, go_sem]) rfl ⟨A1, c1, rfl, ownrow_box hO.out, by repeat' first | exact Grows.refl _ | refine Grows.more ?_ _ | refine Grows.alloc ?_ _⟩
set_option maxRecDepth 3000 in
set_option maxHeartbeats 1000000 in
theorem getO_low {ok : Nat → Prop} (p r : Nat) (S : RS) (k : Nat) (w : World) (h : Regs ok w p r S) (h1 : k < 65) : Calls Try.prog 31 #[.pointer (some ⟨p, 0, none⟩), .int .u8 k] w (GetO (match S (k : Int) with | none => (rg0, 170) | some x => (x, 0)) w) := by
  have hb : InHeap p w := h.inp
  have hr : InHeap r w := h.map.lt
  have hp := h.cell
  have hB := h.map.bmap
  have hhas := h.map.has (k : Int)
  have hval := h.map.val (k : Int)
  have hg := h.good.getD (k : Int)
  have k1 : ¬ (65 : Int) ≤ k := by omega
  obtain ⟨A, cap, he, hL⟩ := hval
  cases hs : S (k : Int) with
  | none =>
    rw [hs] at hhas
    have hhas : hasB w r (k : Int) = false := hhas
    clear h hg hL
    go_enter Try.func31, Try.ntmps31
    go_wp2_with fail
    (with_reducible refine (none_map p r _ (by simp [go_sem, hb, hp])).mono ?_)
    rintro e w1 ⟨rfl, rfl⟩
    go_wp2_with fail
    exact bodyPost_ret (v := .tuple #[.agg #[.slice none 0 0, .bool false], .int .i64 170]) (by simp [results, Try.results31, go_sem]) rfl ⟨none, 0, rfl, World.ownsRow_nil _ _ _ _, by repeat' first | exact Grows.refl _ | refine Grows.more ?_ _ | refine Grows.alloc ?_ _⟩
  | some x =>
    rw [hs] at hhas he hL hg
    have hhas : hasB w r (k : Int) = true := hhas
    have he : valB w r (k : Int) rz = .agg #[.slice A x.d.length cap, .bool x.whole] := he
    have hL : LRd ok w A cap x.d := hL
    have hl : x.d.length ≤ 4000 := by have : x.d.length ≤ 2000 := hg.1; omega
    have hL := Lib.hid hL
    clear h hg
    go_enter Try.func31, Try.ntmps31
    go_wp2_with fail
    (with_reducible refine (none_map p r _ (by simp [go_sem, hb, hp])).mono ?_)
    rintro e w1 ⟨rfl, rfl⟩
    go_wp2_with fail
    (with_reducible refine (own_anyO A cap x _ (hL.out.grows (by repeat' first | exact Grows.refl _ | refine Grows.alloc ?_ _)) hl).mono ?_)
    rintro e w1 ⟨A1, c1, rfl, hO, m1, rfl⟩
    have hO := Lib.hid hO
    go_wp2_with fail
    exact bodyPost_ret (v := .tuple #[.agg #[.slice A1 x.d.length c1, .bool x.whole], .int .i64 0]) (by simp [results, Try.results31, go_sem]) rfl ⟨A1, c1, rfl, ownrow_box hO.out, by repeat' first | exact Grows.refl _ | refine Grows.more ?_ _ | refine Grows.alloc ?_ _⟩
set_option maxRecDepth 3000 in
set_option maxHeartbeats 1000000 in
theorem getO_high {ok : Nat → Prop} (p r : Nat) (S : RS) (k : Nat) (w : World) (h : Regs ok w p r S) (h1 : 90 < k) : Calls Try.prog 31 #[.pointer (some ⟨p, 0, none⟩), .int .u8 k] w (GetO (match S (k : Int) with | none => (rg0, 170) | some x => (x, 0)) w) := by
  have hb : InHeap p w := h.inp
  have hr : InHeap r w := h.map.lt
  have hp := h.cell
  have hB := h.map.bmap
  have hhas := h.map.has (k : Int)
  have hval := h.map.val (k : Int)
  have hg := h.good.getD (k : Int)
  have k1 : (65 : Int) ≤ k := by omega
  have k2 : ¬ (k : Int) ≤ 90 := by omega
  obtain ⟨A, cap, he, hL⟩ := hval
  cases hs : S (k : Int) with
  | none =>
    rw [hs] at hhas
    have hhas : hasB w r (k : Int) = false := hhas
    clear h hg hL
    go_enter Try.func31, Try.ntmps31
    go_wp2_with fail
    (with_reducible refine (none_map p r _ (by simp [go_sem, hb, hp])).mono ?_)
    rintro e w1 ⟨rfl, rfl⟩
    go_wp2_with fail
    exact bodyPost_ret (v := .tuple #[.agg #[.slice none 0 0, .bool false], .int .i64 170]) (by simp [results, Try.results31, go_sem]) rfl ⟨none, 0, rfl, World.ownsRow_nil _ _ _ _, by repeat' first | exact Grows.refl _ | refine Grows.more ?_ _ | refine Grows.alloc ?_ _⟩
  | some x =>
    rw [hs] at hhas he hL hg
    have hhas : hasB w r (k : Int) = true := hhas
    have he : valB w r (k : Int) rz = .agg #[.slice A x.d.length cap, .bool x.whole] := he
    have hL : LRd ok w A cap x.d := hL
    have hl : x.d.length ≤ 4000 := by have : x.d.length ≤ 2000 := hg.1; omega
    have hL := Lib.hid hL
    clear h hg
    go_enter Try.func31, Try.ntmps31
    go_wp2_with fail
    (with_reducible refine (none_map p r _ (by simp [go_sem, hb, hp])).mono ?_)
    rintro e w1 ⟨rfl, rfl⟩
    go_wp2_with fail
    (with_reducible refine (own_anyO A cap x _ (hL.out.grows (by repeat' first | exact Grows.refl _ | refine Grows.alloc ?_ _)) hl).mono ?_)
    rintro e w1 ⟨A1, c1, rfl, hO, m1, rfl⟩
    have hO := Lib.hid hO
    go_wp2_with fail
    exact bodyPost_ret (v := .tuple #[.agg #[.slice A1 x.d.length c1, .bool x.whole], .int .i64 0]) (by simp [results, Try.results31, go_sem]) rfl ⟨A1, c1, rfl, ownrow_box hO.out, by repeat' first | exact Grows.refl _ | refine Grows.more ?_ _ | refine Grows.alloc ?_ _⟩
set_option maxRecDepth 3000 in
theorem getO_any {ok : Nat → Prop} (p r : Nat) (S : RS) (k : Nat) (w : World) (h : Regs ok w p r S) : Calls Try.prog 31 #[.pointer (some ⟨p, 0, none⟩), .int .u8 k] w (GetO (rget S k) w) := by
  have key : ∀ j : Int, (j = if 65 ≤ (k : Int) ∧ (k : Int) ≤ 90 then (k : Int) + 32 else k) → rget S k = match S j with | none => (rg0, 170) | some x => (x, 0) := by
    intro j hj
    subst hj
    rfl
  by_cases h1 : k < 65
  · rw [key k (by rw [if_neg (by omega)])]
    exact getO_low p r S k w h h1
  · by_cases h2 : 90 < k
    · rw [key k (by rw [if_neg (by omega)])]
      exact getO_high p r S k w h h2
    · rw [key ((k : Int) + 32) (by rw [if_pos (by omega)])]
      exact getO_up p r S k w h (by omega) (by omega)
set_option maxRecDepth 3000 in
theorem Chg.late {p q : Nat → Prop} {a b c : World} (h : Chg p a b) (k : Chg q b c) (hq : ∀ x, x < a.heap.size → q x → p x) : Chg p a c :=
  ⟨k.os.trans h.os, k.tape.trans h.tape, k.output.trans h.output, Nat.le_trans h.size k.size, fun x hx hp => (k.block x (Nat.lt_of_lt_of_le hx h.size) (fun e => hp (hq x hx e))).trans (h.block x hx hp)⟩
/-- The block of a slice. -/
def isX (A : Option Addr) (b : Nat) : Prop := ∃ a, A = some a ∧ a.block = b
set_option maxRecDepth 3000 in
theorem isX_own {w : World} {base n cap : Nat} {A : Option Addr} {xs : List Value} (h : w.ownsRow base 9 1 (.slice A n cap) n xs) {b : Nat} (hb : isX A b) : base ≤ b ∧ b < w.heap.size ∧ ∃ cur, w.heap[b]? = some (.cells cur 9 (0, 0)) := by
  obtain ⟨a, rfl, rfl⟩ := hb
  rcases h.2 with ⟨e, _⟩ | ⟨g, c, cur, e, hb, hh, _⟩
  · cases e
  · injection e with e1
    injection e1 with e1
    subst e1
    exact ⟨hb, (Array.getElem?_eq_some_iff.1 hh).1, cur, hh⟩
set_option maxRecDepth 3000 in
theorem Regs.mono {ok ok' : Nat → Prop} {w : World} {p r : Nat} {S : RS} (h : Regs ok w p r S) (ho : ∀ b, b < w.heap.size → ok b → ok' b) : Regs ok' w p r S := ⟨h.cell, h.map.mono ho, h.good, h.ne, h.inp⟩
end Go.Proofs.Ythanghgfakibnaa
