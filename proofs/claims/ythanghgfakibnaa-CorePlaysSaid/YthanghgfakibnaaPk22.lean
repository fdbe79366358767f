/-
  Registers: the walk of Set.
-/
import Derived.Test.YthanghgfakibnaaPk15
import Derived.Test.YthanghgfakibnaaPk17
import Derived.Test.YthanghgfakibnaaPk21
namespace Go.Proofs.Ythanghgfakibnaa
open Go.RowKit
attribute [local go_sem] bput
attribute [local go_sem ↓] makeR eqlMap updR entR stoR lookR lookV zeroReg
set_option maxRecDepth 3000 in
/-- regs.Join, whatever the texts. -/
theorem join_any {ok ok' : Nat → Prop} (A B : Option Addr) (ca cb : Nat) (a b : Rg) (w : World) (ha : LRd ok w A ca a.d) (hb : LRd ok' w B cb b.d) (la : a.d.length ≤ 4000 ∧ ∀ s ∈ a.d, s.length ≤ 4000) (lb : b.d.length ≤ 4000 ∧ ∀ s ∈ b.d, s.length ≤ 4000) :
    Calls Try.prog 54 #[.agg #[.slice A a.d.length ca, .bool a.whole], .agg #[.slice B b.d.length cb, .bool b.whole]] w (NewReg (rjoin a b) w) := by
  obtain ⟨da, wa⟩ := a
  obtain ⟨db, wb⟩ := b
  simp only [] at ha hb la lb ⊢
  have hs : da.length + db.length ≤ 5000000000000 := by omega
  unfold rjoin
  simp only []
  by_cases h1 : da.length = 0
  · rw [if_pos (.inl h1)]
    cases wa
    · exact joinA_f A B ca cb da db wb w ha hb hs h1
    · exact joinA_t A B ca cb da db wb w ha hb hs h1
  · by_cases h2 : db.length = 0
    · rw [if_pos (.inr (.inl h2))]
      cases wa
      · exact joinB_f A B ca cb da db wb w ha hb hs h1 h2
      · exact joinB_t A B ca cb da db wb w ha hb hs h1 h2
    · cases wa
      · cases wb
        · rw [if_neg (by simp; exact ⟨fun h => h1 (by simp [h]), fun h => h2 (by simp [h])⟩)]
          obtain ⟨d0, x, rfl⟩ : ∃ d0 x, da = d0 ++ [x] := ⟨da.dropLast, da.getLast (fun h => h1 (by simp [h])), (List.dropLast_concat_getLast _).symm⟩
          cases db with
          | nil => exact absurd rfl h2
          | cons y d1 =>
            have hx := la.2 x (by simp)
            have hy := lb.2 y (by simp)
            have l1 := la.1
            have l2 := lb.1
            simp only [List.length_append, List.length_cons, List.length_nil, Nat.zero_add] at l1 l2
            have := joinD_any A B ca cb d0 d1 x y w ha hb (by omega) (by omega)
            rw [joinD_parts]
            simpa using this
        · rw [if_pos (by simp)]
          exact joinC_f A B ca cb da db w ha hb hs h1 h2
      · rw [if_pos (by simp)]
        exact joinC_t A B ca cb da db wb w ha hb hs h1 h2

/-- What Set and Push do. -/
def PutOut (ok : Nat → Prop) (p r : Nat) (x : RS × Int) (w : World) (e : Ending) (w' : World) : Prop := e = .returned (.int .i64 x.2) ∧ Chg (fun b => b = r) w w' ∧ Regs ok w' p r x.1
set_option maxRecDepth 3000 in
theorem Regs.chg {ok q : Nat → Prop} {w w' : World} {p r : Nat} {S : RS} (h : Regs ok w p r S) (hc : Chg q w w') (hr : ¬ q r) (hp : ¬ q p) (ho : ∀ b, b < w.heap.size → ok b → ¬ q b) : Regs ok w' p r S :=
  ⟨(hc.cell (a := ⟨p, 0, none⟩) h.inp hp).trans h.cell, h.map.chg hc hr ho, h.good, h.ne, Nat.lt_of_lt_of_le h.inp hc.size⟩
set_option maxRecDepth 3000 in
theorem Regs.grows {ok : Nat → Prop} {w w' : World} {p r : Nat} {S : RS} (h : Regs ok w p r S) (hg : Grows w w') : Regs ok w' p r S := h.chg (Chg.of_grows (p := fun _ => False) hg) (fun h => h) (fun h => h) fun _ _ _ h => h
set_option maxRecDepth 3000 in
theorem Regs.put {ok : Nat → Prop} {w : World} {p r : Nat} {S : RS} (h : Regs ok w p r S) (hok : ¬ ok r) (k : Int) {A : Option Addr} {cap : Nat} {x : Rg} (hx : LRd ok w A cap x.d) (hc : rcheck x = true) : Regs ok (putB w r k (.agg #[.slice A x.d.length cap, .bool x.whole])) p r (rsSet S k x) :=
  ⟨(cell_putB h.ne).trans h.cell, h.map.put hok k ⟨A, cap, rfl, hx⟩, h.good.set k hc, h.ne, by rw [size_putB]; exact h.inp⟩
set_option maxRecDepth 3000 in
theorem Chg.putB {w : World} {r : Nat} (k : Int) (v : Value) : Chg (fun b => b = r) w (putB w r k v) := Chg.putO (p := fun b => b = r) rfl _

set_option maxRecDepth 3000 in
theorem bmap_at {ok : Nat → Prop} {w W : World} {r : Nat} (hB : BMap w r) {A : Option Addr} {cap : Nat} {d : List (List UInt8)} (_ : LRd ok W A cap d) (hg : Grows w W) : BMap W r := by
  have hlt := hB.lt
  obtain ⟨es, clk, h1, h2⟩ := hB
  obtain ⟨m, rfl⟩ := hg
  exact ⟨es, clk, by rw [heap_more _ _ _ hlt]; exact h1, h2⟩
set_option maxRecDepth 3000 in
set_option maxHeartbeats 400000 in
theorem set_nil (c : Int) (A : Option Addr) (n cap : Nat) (b : Bool) (w : World) : Calls Try.prog 30 #[.pointer none, .int .u8 c, .agg #[.slice A n cap, .bool b]] w fun e w' => e = .returned (.int .i64 1) ∧ Grows w w' := by
  go_enter Try.func30, Try.ntmps30
  go_wp2_with fail
  (with_reducible refine (none_nil _).mono ?_)
  rintro e w1 ⟨rfl, rfl⟩
  go_wp2_with fail
  go_ret
  exact ⟨rfl, (by repeat' first | exact Grows.refl _ | refine Grows.more ?_ _ | refine Grows.alloc ?_ _ | refine Grows.drew ?_)⟩
set_option maxRecDepth 3000 in
set_option maxHeartbeats 400000 in
theorem set_none (p : Nat) (w : World) (hp : w.cell? ⟨p, 0, none⟩ = some (.map none)) (hb : InHeap p w) (c : Int) (A : Option Addr) (n cap : Nat) (b : Bool) : Calls Try.prog 30 #[.pointer (some ⟨p, 0, none⟩), .int .u8 c, .agg #[.slice A n cap, .bool b]] w fun e w' => e = .returned (.int .i64 1) ∧ Grows w w' := by
  go_enter Try.func30, Try.ntmps30
  go_wp2_with fail
  (with_reducible refine (none_zero p _ (by simp [go_sem, hb, hp])).mono ?_)
  rintro e w1 ⟨rfl, rfl⟩
  go_wp2_with fail
  go_ret
  exact ⟨rfl, (by repeat' first | exact Grows.refl _ | refine Grows.more ?_ _ | refine Grows.alloc ?_ _ | refine Grows.drew ?_)⟩
set_option maxRecDepth 3000 in
set_option maxHeartbeats 2000000 in
theorem set_bad {ok okx : Nat → Prop} (p r : Nat) (S : RS) (k : Nat) (A : Option Addr) (cap : Nat) (x : Rg) (w : World) (h : Regs ok w p r S) (hx : LRd okx w A cap x.d) (hf : x.fits) (hok : ∀ b, w.heap.size ≤ b → ok b) (hnr : ¬ ok r) (hc : rcheck x = false) :
    Calls Try.prog 30 #[.pointer (some ⟨p, 0, none⟩), .int .u8 (k : Int), .agg #[.slice A x.d.length cap, .bool x.whole]] w (PutOut ok p r (S, 2) w) := by
  have hb : InHeap p w := h.inp
  have hr : InHeap r w := h.map.lt
  have hrl := h.map.lt
  have hp := h.cell
  have hB := h.map.bmap
  have hne := h.ne
  have n0 : ¬ w.heap.size = r := by omega
  have n1 : ∀ n, ¬ w.heap.size + 1 + n = r := fun n => by omega
  have hl := hf.len
  have hR := Lib.hid h
  have hX := Lib.hid hx
  have hC := Lib.hid hc
  clear h hx
  go_enter Try.func30, Try.ntmps30
  go_wp2_with fail
  (with_reducible refine (none_map p r _ (by simp [go_sem, hb, hp])).mono ?_)
  rintro e w1 ⟨rfl, rfl⟩
  go_wp2_with fail
  (with_reducible refine (check_any A cap x _ (hX.out.grows (by repeat' first | exact Grows.refl _ | refine Grows.more ?_ _ | refine Grows.alloc ?_ _ | refine Grows.drew ?_)) hf).mono ?_)
  rw [hC.out]
  rintro e w1 ⟨rfl, m1, rfl⟩
  go_wp2_with fail
  go_ret
  exact ⟨rfl, Chg.of_grows (by repeat' first | exact Grows.refl _ | refine Grows.more ?_ _ | refine Grows.alloc ?_ _ | refine Grows.drew ?_), hR.out.grows (by repeat' first | exact Grows.refl _ | refine Grows.more ?_ _ | refine Grows.alloc ?_ _ | refine Grows.drew ?_)⟩
set_option maxRecDepth 3000 in
set_option maxHeartbeats 2000000 in
theorem set_zero {ok okx : Nat → Prop} (p r : Nat) (S : RS) (A : Option Addr) (cap : Nat) (x : Rg) (w : World) (h : Regs ok w p r S) (hx : LRd okx w A cap x.d) (hf : x.fits) (hok : ∀ b, w.heap.size ≤ b → ok b) (hnr : ¬ ok r) (hc : rcheck x = true) :
    Calls Try.prog 30 #[.pointer (some ⟨p, 0, none⟩), .int .u8 0, .agg #[.slice A x.d.length cap, .bool x.whole]] w (PutOut ok p r (rsSet S 0 x, 0) w) := by
  have hb : InHeap p w := h.inp
  have hr : InHeap r w := h.map.lt
  have hrl := h.map.lt
  have hp := h.cell
  have hB := h.map.bmap
  have hne := h.ne
  have n0 : ¬ w.heap.size = r := by omega
  have n1 : ∀ n, ¬ w.heap.size + 1 + n = r := fun n => by omega
  have hl := hf.len
  have hR := Lib.hid h
  have hX := Lib.hid hx
  have hC := Lib.hid hc
  clear h hx
  go_enter Try.func30, Try.ntmps30
  go_wp2_with fail
  (with_reducible refine (none_map p r _ (by simp [go_sem, hb, hp])).mono ?_)
  rintro e w1 ⟨rfl, rfl⟩
  go_wp2_with fail
  (with_reducible refine (check_any A cap x _ (hX.out.grows (by repeat' first | exact Grows.refl _ | refine Grows.more ?_ _ | refine Grows.alloc ?_ _ | refine Grows.drew ?_)) hf).mono ?_)
  rw [hC.out]
  rintro e w1 ⟨rfl, m1, rfl⟩
  go_wp2_with fail
  go_region_held3 (fun w' => w'.cell? ⟨p, 0, none⟩ = some (.map (some r)) ∧ w'.cell? ⟨w.heap.size, 0, none⟩ = some (.slice A x.d.length cap) ∧ w'.cell? ⟨w.heap.size, 1, none⟩ = some (.bool x.whole))
    (first | (simp [go_sem, hb, hp, hne, n0]; done))
    (first | (go_at_call 53; (refine Calls.mono (own_any A cap x _ (hX.out.grows ?_) hl) ?_); (repeat' first | exact Grows.refl _ | refine Grows.more ?_ _ | refine Grows.alloc ?_ _ | refine Grows.drew ?_); rintro e w2 ⟨A1, c1, rfl, hO, m2, rfl⟩))
  go_wp2_with fail
  go_ret
  exact ⟨rfl, (Chg.of_grows (by repeat' first | exact Grows.refl _ | refine Grows.more ?_ _ | refine Grows.alloc ?_ _ | refine Grows.drew ?_)).trans (Chg.putB _ _), (hR.out.grows (by repeat' first | exact Grows.refl _ | refine Grows.more ?_ _ | refine Grows.alloc ?_ _ | refine Grows.drew ?_)).put hnr 0 (hO.mono fun b _ hb => hok b (by simp at hb; omega)) hC.out⟩
set_option maxRecDepth 3000 in
set_option maxHeartbeats 2000000 in
theorem set_odd1 {ok okx : Nat → Prop} (p r : Nat) (S : RS) (k : Nat) (A : Option Addr) (cap : Nat) (x : Rg) (w : World) (h : Regs ok w p r S) (hx : LRd okx w A cap x.d) (hf : x.fits) (hok : ∀ b, w.heap.size ≤ b → ok b) (hnr : ¬ ok r) (hc : rcheck x = true) (h1 : 0 < k) (h2 : k < 65) :
    Calls Try.prog 30 #[.pointer (some ⟨p, 0, none⟩), .int .u8 (k : Int), .agg #[.slice A x.d.length cap, .bool x.whole]] w (PutOut ok p r (S, 170) w) := by
  have hb : InHeap p w := h.inp
  have hr : InHeap r w := h.map.lt
  have hrl := h.map.lt
  have hp := h.cell
  have hB := h.map.bmap
  have hne := h.ne
  have n0 : ¬ w.heap.size = r := by omega
  have n1 : ∀ n, ¬ w.heap.size + 1 + n = r := fun n => by omega
  have hl := hf.len
  have hR := Lib.hid h
  have hX := Lib.hid hx
  have hC := Lib.hid hc
  have z0 : ((k : Int) == 0) = false := by rw [beq_eq_false_iff_ne]; omega
  have k1 : ¬ (65 : Int) ≤ k := by omega
  have k3 : ¬ (97 : Int) ≤ k := by omega
  clear h hx
  go_enter Try.func30, Try.ntmps30
  go_wp2_with fail
  (with_reducible refine (none_map p r _ (by simp [go_sem, hb, hp])).mono ?_)
  rintro e w1 ⟨rfl, rfl⟩
  go_wp2_with fail
  (with_reducible refine (check_any A cap x _ (hX.out.grows (by repeat' first | exact Grows.refl _ | refine Grows.more ?_ _ | refine Grows.alloc ?_ _ | refine Grows.drew ?_)) hf).mono ?_)
  rw [hC.out]
  rintro e w1 ⟨rfl, m1, rfl⟩
  go_wp2_with fail
  go_ret
  exact ⟨rfl, Chg.of_grows (by repeat' first | exact Grows.refl _ | refine Grows.more ?_ _ | refine Grows.alloc ?_ _ | refine Grows.drew ?_), hR.out.grows (by repeat' first | exact Grows.refl _ | refine Grows.more ?_ _ | refine Grows.alloc ?_ _ | refine Grows.drew ?_)⟩
set_option maxRecDepth 3000 in
set_option maxHeartbeats 2000000 in
theorem set_odd2 {ok okx : Nat → Prop} (p r : Nat) (S : RS) (k : Nat) (A : Option Addr) (cap : Nat) (x : Rg) (w : World) (h : Regs ok w p r S) (hx : LRd okx w A cap x.d) (hf : x.fits) (hok : ∀ b, w.heap.size ≤ b → ok b) (hnr : ¬ ok r) (hc : rcheck x = true) (h1 : 90 < k) (h2 : k < 97) :
    Calls Try.prog 30 #[.pointer (some ⟨p, 0, none⟩), .int .u8 (k : Int), .agg #[.slice A x.d.length cap, .bool x.whole]] w (PutOut ok p r (S, 170) w) := by
  have hb : InHeap p w := h.inp
  have hr : InHeap r w := h.map.lt
  have hrl := h.map.lt
  have hp := h.cell
  have hB := h.map.bmap
  have hne := h.ne
  have n0 : ¬ w.heap.size = r := by omega
  have n1 : ∀ n, ¬ w.heap.size + 1 + n = r := fun n => by omega
  have hl := hf.len
  have hR := Lib.hid h
  have hX := Lib.hid hx
  have hC := Lib.hid hc
  have z0 : ((k : Int) == 0) = false := by rw [beq_eq_false_iff_ne]; omega
  have k1 : (65 : Int) ≤ k := by omega
  have k2 : ¬ (k : Int) ≤ 90 := by omega
  have k3 : ¬ (97 : Int) ≤ k := by omega
  clear h hx
  go_enter Try.func30, Try.ntmps30
  go_wp2_with fail
  (with_reducible refine (none_map p r _ (by simp [go_sem, hb, hp])).mono ?_)
  rintro e w1 ⟨rfl, rfl⟩
  go_wp2_with fail
  (with_reducible refine (check_any A cap x _ (hX.out.grows (by repeat' first | exact Grows.refl _ | refine Grows.more ?_ _ | refine Grows.alloc ?_ _ | refine Grows.drew ?_)) hf).mono ?_)
  rw [hC.out]
  rintro e w1 ⟨rfl, m1, rfl⟩
  go_wp2_with fail
  go_ret
  exact ⟨rfl, Chg.of_grows (by repeat' first | exact Grows.refl _ | refine Grows.more ?_ _ | refine Grows.alloc ?_ _ | refine Grows.drew ?_), hR.out.grows (by repeat' first | exact Grows.refl _ | refine Grows.more ?_ _ | refine Grows.alloc ?_ _ | refine Grows.drew ?_)⟩
set_option maxRecDepth 3000 in
set_option maxHeartbeats 2000000 in
theorem set_odd3 {ok okx : Nat → Prop} (p r : Nat) (S : RS) (k : Nat) (A : Option Addr) (cap : Nat) (x : Rg) (w : World) (h : Regs ok w p r S) (hx : LRd okx w A cap x.d) (hf : x.fits) (hok : ∀ b, w.heap.size ≤ b → ok b) (hnr : ¬ ok r) (hc : rcheck x = true) (h1 : 122 < k) :
    Calls Try.prog 30 #[.pointer (some ⟨p, 0, none⟩), .int .u8 (k : Int), .agg #[.slice A x.d.length cap, .bool x.whole]] w (PutOut ok p r (S, 170) w) := by
  have hb : InHeap p w := h.inp
  have hr : InHeap r w := h.map.lt
  have hrl := h.map.lt
  have hp := h.cell
  have hB := h.map.bmap
  have hne := h.ne
  have n0 : ¬ w.heap.size = r := by omega
  have n1 : ∀ n, ¬ w.heap.size + 1 + n = r := fun n => by omega
  have hl := hf.len
  have hR := Lib.hid h
  have hX := Lib.hid hx
  have hC := Lib.hid hc
  have z0 : ((k : Int) == 0) = false := by rw [beq_eq_false_iff_ne]; omega
  have k1 : (65 : Int) ≤ k := by omega
  have k2 : ¬ (k : Int) ≤ 90 := by omega
  have k3 : (97 : Int) ≤ k := by omega
  have k4 : ¬ (k : Int) ≤ 122 := by omega
  clear h hx
  go_enter Try.func30, Try.ntmps30
  go_wp2_with fail
  (with_reducible refine (none_map p r _ (by simp [go_sem, hb, hp])).mono ?_)
  rintro e w1 ⟨rfl, rfl⟩
  go_wp2_with fail
  (with_reducible refine (check_any A cap x _ (hX.out.grows (by repeat' first | exact Grows.refl _ | refine Grows.more ?_ _ | refine Grows.alloc ?_ _ | refine Grows.drew ?_)) hf).mono ?_)
  rw [hC.out]
  rintro e w1 ⟨rfl, m1, rfl⟩
  go_wp2_with fail
  go_ret
  exact ⟨rfl, Chg.of_grows (by repeat' first | exact Grows.refl _ | refine Grows.more ?_ _ | refine Grows.alloc ?_ _ | refine Grows.drew ?_), hR.out.grows (by repeat' first | exact Grows.refl _ | refine Grows.more ?_ _ | refine Grows.alloc ?_ _ | refine Grows.drew ?_)⟩
set_option maxRecDepth 3000 in
set_option maxHeartbeats 2000000 in
theorem set_small {ok okx : Nat → Prop} (p r : Nat) (S : RS) (k : Nat) (A : Option Addr) (cap : Nat) (x : Rg) (w : World) (h : Regs ok w p r S) (hx : LRd okx w A cap x.d) (hf : x.fits) (hok : ∀ b, w.heap.size ≤ b → ok b) (hnr : ¬ ok r) (hc : rcheck x = true) (h1 : 97 ≤ k) (h2 : k ≤ 122) :
    Calls Try.prog 30 #[.pointer (some ⟨p, 0, none⟩), .int .u8 (k : Int), .agg #[.slice A x.d.length cap, .bool x.whole]] w (PutOut ok p r (rsSet (rsSet S k x) 0 x, 0) w) := by
  have hb : InHeap p w := h.inp
  have hr : InHeap r w := h.map.lt
  have hrl := h.map.lt
  have hp := h.cell
  have hB := h.map.bmap
  have hne := h.ne
  have n0 : ¬ w.heap.size = r := by omega
  have n1 : ∀ n, ¬ w.heap.size + 1 + n = r := fun n => by omega
  have hl := hf.len
  have hR := Lib.hid h
  have hX := Lib.hid hx
  have hC := Lib.hid hc
  have z0 : ((k : Int) == 0) = false := by rw [beq_eq_false_iff_ne]; omega
  have k1 : (65 : Int) ≤ k := by omega
  have k2 : ¬ (k : Int) ≤ 90 := by omega
  have k3 : (97 : Int) ≤ k := by omega
  have k4 : (k : Int) ≤ 122 := by omega
  clear h hx
  go_enter Try.func30, Try.ntmps30
  go_wp2_with fail
  (with_reducible refine (none_map p r _ (by simp [go_sem, hb, hp])).mono ?_)
  rintro e w1 ⟨rfl, rfl⟩
  go_wp2_with fail
  (with_reducible refine (check_any A cap x _ (hX.out.grows (by repeat' first | exact Grows.refl _ | refine Grows.more ?_ _ | refine Grows.alloc ?_ _ | refine Grows.drew ?_)) hf).mono ?_)
  rw [hC.out]
  rintro e w1 ⟨rfl, m1, rfl⟩
  go_wp2_with fail
  (with_reducible refine (check_any A cap x _ (hX.out.grows (by repeat' first | exact Grows.refl _ | refine Grows.more ?_ _ | refine Grows.alloc ?_ _ | refine Grows.drew ?_)) hf).mono ?_)
  rw [hC.out]
  rintro e w1 ⟨rfl, m2, rfl⟩
  go_wp2_with fail
  go_region_held3 (fun w' => w'.cell? ⟨p, 0, none⟩ = some (.map (some r)) ∧ w'.cell? ⟨w.heap.size, 0, none⟩ = some (.slice A x.d.length cap) ∧ w'.cell? ⟨w.heap.size, 1, none⟩ = some (.bool x.whole) ∧ w'.cell? ⟨w.heap.size + 1 + m1.bs.size, 0, none⟩ = some (.slice A x.d.length cap) ∧ w'.cell? ⟨w.heap.size + 1 + m1.bs.size, 1, none⟩ = some (.bool x.whole))
    (first | (simp [go_sem, hb, hp, hne, n0, n1]; done))
    (first | (go_at_call 53; (refine Calls.mono (own_any A cap x _ (hX.out.grows ?_) hl) ?_); (repeat' first | exact Grows.refl _ | refine Grows.more ?_ _ | refine Grows.alloc ?_ _ | refine Grows.drew ?_); first | (guard_hyp hOa : LRd _ _ _ _ _; rintro e w3 ⟨A3, c3, rfl, hOb, m4, rfl⟩; have hB2 := bmap_at hB hOb (by repeat' first | exact Grows.refl _ | refine Grows.more ?_ _ | refine Grows.alloc ?_ _ | refine Grows.drew ?_)) | (rintro e w2 ⟨A2, c2, rfl, hOa, m3, rfl⟩)))
  go_wp2_with fail
  go_ret
  exact ⟨rfl, ((Chg.of_grows (by repeat' first | exact Grows.refl _ | refine Grows.more ?_ _ | refine Grows.alloc ?_ _ | refine Grows.drew ?_)).trans (Chg.putB _ _)).trans (Chg.putB _ _), ((hR.out.grows (by repeat' first | exact Grows.refl _ | refine Grows.more ?_ _ | refine Grows.alloc ?_ _ | refine Grows.drew ?_)).put hnr _ ((hOa.grows (by repeat' first | exact Grows.refl _ | refine Grows.more ?_ _ | refine Grows.alloc ?_ _ | refine Grows.drew ?_)).mono fun b _ hb => hok b (by simp at hb; omega)) hC.out).put hnr 0 ((hOb.mono fun b _ hb => hok b (by simp at hb; omega)).chg (Chg.putB _ _) fun b _ hb e => hnr (e ▸ hb)) hC.out⟩
set_option maxRecDepth 3000 in
set_option maxHeartbeats 2000000 in
theorem set_long {ok okx : Nat → Prop} (p r : Nat) (S : RS) (k : Nat) (A : Option Addr) (cap : Nat) (x : Rg) (w : World) (h : Regs ok w p r S) (hx : LRd okx w A cap x.d) (hf : x.fits) (hok : ∀ b, w.heap.size ≤ b → ok b) (hnr : ¬ ok r) (hc : rcheck x = true) (h1 : 65 ≤ k) (h2 : k ≤ 90) (hcy : rcheck (rjoin ((S ((k : Int) + 32)).getD rg0) x) = false) :
    Calls Try.prog 30 #[.pointer (some ⟨p, 0, none⟩), .int .u8 (k : Int), .agg #[.slice A x.d.length cap, .bool x.whole]] w (PutOut ok p r (S, 3) w) := by
  have hb : InHeap p w := h.inp
  have hr : InHeap r w := h.map.lt
  have hrl := h.map.lt
  have hp := h.cell
  have hB := h.map.bmap
  have hne := h.ne
  have n0 : ¬ w.heap.size = r := by omega
  have n1 : ∀ n, ¬ w.heap.size + 1 + n = r := fun n => by omega
  have hl := hf.len
  have hR := Lib.hid h
  have hX := Lib.hid hx
  have hC := Lib.hid hc
  have z0 : ((k : Int) == 0) = false := by rw [beq_eq_false_iff_ne]; omega
  have k1 : (65 : Int) ≤ k := by omega
  have k2 : (k : Int) ≤ 90 := by omega
  have hw : IntKind.u8.wrap ((k : Int) + 32) = (k : Int) + 32 := u8_wrap (by omega) (by omega)
  have k3 : (97 : Int) ≤ (k : Int) + 32 := by omega
  have k4 : (k : Int) + 32 ≤ 122 := by omega
  have hval := h.map.val ((k : Int) + 32)
  have hgd := h.good.getD ((k : Int) + 32)
  have hfj := rjoin_fits _ _ hgd (rcheck_fits hc)
  have hfx : x.d.length ≤ 4000 ∧ ∀ s ∈ x.d, s.length ≤ 4000 := ⟨hf.len, hf.each⟩
  have hfy : ((S ((k : Int) + 32)).getD rg0).d.length ≤ 4000 ∧ ∀ s ∈ ((S ((k : Int) + 32)).getD rg0).d, s.length ≤ 4000 := ⟨by have := hgd.1; omega, fun s hs => by have := hgd.2 s hs; omega⟩
  clear hgd
  generalize hy0 : (S ((k : Int) + 32)).getD rg0 = y0 at *
  obtain ⟨Ay, cy, he, hLy⟩ := hval
  have hLy := Lib.hid hLy
  have hY := Lib.hid hcy
  have hyx : Hid ((rjoin y0 x).fits) := Lib.hid hfj
  have hyl := hfj.len
  clear hcy hfj
  clear h hx
  go_enter Try.func30, Try.ntmps30
  go_wp2_with fail
  (with_reducible refine (none_map p r _ (by simp [go_sem, hb, hp])).mono ?_)
  rintro e w1 ⟨rfl, rfl⟩
  go_wp2_with fail
  (with_reducible refine (check_any A cap x _ (hX.out.grows (by repeat' first | exact Grows.refl _ | refine Grows.more ?_ _ | refine Grows.alloc ?_ _ | refine Grows.drew ?_)) hf).mono ?_)
  rw [hC.out]
  rintro e w1 ⟨rfl, m1, rfl⟩
  go_wp2_with fail
  go_region_held3 (fun w' => w'.cell? ⟨p, 0, none⟩ = some (.map (some r)) ∧ w'.cell? ⟨w.heap.size, 0, none⟩ = some (.slice A x.d.length cap) ∧ w'.cell? ⟨w.heap.size, 1, none⟩ = some (.bool x.whole))
    (first | (simp [go_sem, hb, hp]; done))
    (first | (go_at_call 54; (refine Calls.mono (join_any Ay A cy cap y0 x _ (hLy.out.grows ?_) (hX.out.grows ?_) hfy hfx) ?_); (repeat' first | exact Grows.refl _ | refine Grows.more ?_ _ | refine Grows.alloc ?_ _ | refine Grows.drew ?_); rintro e w2 ⟨A2, c2, rfl, hJ, m2, rfl⟩))
  simp only [more_drew] at hJ
  have hJ := Lib.hid ((hJ.chg (chg_box _ (.cells #[.slice A2 (rjoin y0 x).d.length c2, .bool (rjoin y0 x).whole] 68) _) (fun b _ hb hp => by simp at hb hp; omega)).mono fun b _ hb => (by simp at hb; omega : w.heap.size ≤ b))
  go_wp2_with fail
  (with_reducible refine (check_any A2 c2 (rjoin y0 x) _ hJ.out hyx.out).mono ?_)
  rw [hY.out]
  rintro e w1 ⟨rfl, m3, rfl⟩
  go_wp2_with fail
  go_ret
  exact ⟨rfl, Chg.of_grows (by repeat' first | exact Grows.refl _ | refine Grows.more ?_ _ | refine Grows.alloc ?_ _ | refine Grows.drew ?_), hR.out.grows (by repeat' first | exact Grows.refl _ | refine Grows.more ?_ _ | refine Grows.alloc ?_ _ | refine Grows.drew ?_)⟩
set_option maxRecDepth 3000 in
set_option maxHeartbeats 2000000 in
theorem set_great {ok okx : Nat → Prop} (p r : Nat) (S : RS) (k : Nat) (A : Option Addr) (cap : Nat) (x : Rg) (w : World) (h : Regs ok w p r S) (hx : LRd okx w A cap x.d) (hf : x.fits) (hok : ∀ b, w.heap.size ≤ b → ok b) (hnr : ¬ ok r) (hc : rcheck x = true) (h1 : 65 ≤ k) (h2 : k ≤ 90) (hcy : rcheck (rjoin ((S ((k : Int) + 32)).getD rg0) x) = true) :
    Calls Try.prog 30 #[.pointer (some ⟨p, 0, none⟩), .int .u8 (k : Int), .agg #[.slice A x.d.length cap, .bool x.whole]] w (PutOut ok p r (rsSet (rsSet S ((k : Int) + 32) (rjoin ((S ((k : Int) + 32)).getD rg0) x)) 0 x, 0) w) := by
  have hb : InHeap p w := h.inp
  have hr : InHeap r w := h.map.lt
  have hrl := h.map.lt
  have hp := h.cell
  have hB := h.map.bmap
  have hne := h.ne
  have n0 : ¬ w.heap.size = r := by omega
  have n1 : ∀ n, ¬ w.heap.size + 1 + n = r := fun n => by omega
  have hl := hf.len
  have hR := Lib.hid h
  have hX := Lib.hid hx
  have hC := Lib.hid hc
  have z0 : ((k : Int) == 0) = false := by rw [beq_eq_false_iff_ne]; omega
  have k1 : (65 : Int) ≤ k := by omega
  have k2 : (k : Int) ≤ 90 := by omega
  have hw : IntKind.u8.wrap ((k : Int) + 32) = (k : Int) + 32 := u8_wrap (by omega) (by omega)
  have k3 : (97 : Int) ≤ (k : Int) + 32 := by omega
  have k4 : (k : Int) + 32 ≤ 122 := by omega
  have hval := h.map.val ((k : Int) + 32)
  have hgd := h.good.getD ((k : Int) + 32)
  have hfj := rjoin_fits _ _ hgd (rcheck_fits hc)
  have hfx : x.d.length ≤ 4000 ∧ ∀ s ∈ x.d, s.length ≤ 4000 := ⟨hf.len, hf.each⟩
  have hfy : ((S ((k : Int) + 32)).getD rg0).d.length ≤ 4000 ∧ ∀ s ∈ ((S ((k : Int) + 32)).getD rg0).d, s.length ≤ 4000 := ⟨by have := hgd.1; omega, fun s hs => by have := hgd.2 s hs; omega⟩
  clear hgd
  generalize hy0 : (S ((k : Int) + 32)).getD rg0 = y0 at *
  obtain ⟨Ay, cy, he, hLy⟩ := hval
  have hLy := Lib.hid hLy
  have hY := Lib.hid hcy
  have hyx : Hid ((rjoin y0 x).fits) := Lib.hid hfj
  have hyl := hfj.len
  clear hcy hfj
  clear h hx
  go_enter Try.func30, Try.ntmps30
  go_wp2_with fail
  (with_reducible refine (none_map p r _ (by simp [go_sem, hb, hp])).mono ?_)
  rintro e w1 ⟨rfl, rfl⟩
  go_wp2_with fail
  (with_reducible refine (check_any A cap x _ (hX.out.grows (by repeat' first | exact Grows.refl _ | refine Grows.more ?_ _ | refine Grows.alloc ?_ _ | refine Grows.drew ?_)) hf).mono ?_)
  rw [hC.out]
  rintro e w1 ⟨rfl, m1, rfl⟩
  go_wp2_with fail
  go_region_held3 (fun w' => w'.cell? ⟨p, 0, none⟩ = some (.map (some r)) ∧ w'.cell? ⟨w.heap.size, 0, none⟩ = some (.slice A x.d.length cap) ∧ w'.cell? ⟨w.heap.size, 1, none⟩ = some (.bool x.whole))
    (first | (simp [go_sem, hb, hp]; done))
    (first | (go_at_call 54; (refine Calls.mono (join_any Ay A cy cap y0 x _ (hLy.out.grows ?_) (hX.out.grows ?_) hfy hfx) ?_); (repeat' first | exact Grows.refl _ | refine Grows.more ?_ _ | refine Grows.alloc ?_ _ | refine Grows.drew ?_); rintro e w2 ⟨A2, c2, rfl, hJ, m2, rfl⟩))
  simp only [more_drew] at hJ
  have hJ := Lib.hid ((hJ.chg (chg_box _ (.cells #[.slice A2 (rjoin y0 x).d.length c2, .bool (rjoin y0 x).whole] 68) _) (fun b _ hb hp => by simp at hb hp; omega)).mono fun b _ hb => (by simp at hb; omega : w.heap.size ≤ b))
  go_wp2_with fail
  (with_reducible refine (check_any A2 c2 (rjoin y0 x) _ hJ.out hyx.out).mono ?_)
  rw [hY.out]
  rintro e w1 ⟨rfl, m3, rfl⟩
  go_wp2_with fail
  go_region_held3 (fun w' => w'.cell? ⟨p, 0, none⟩ = some (.map (some r)) ∧ w'.cell? ⟨w.heap.size, 0, none⟩ = some (.slice A x.d.length cap) ∧ w'.cell? ⟨w.heap.size, 1, none⟩ = some (.bool x.whole) ∧ w'.cell? ⟨w.heap.size + 1 + m1.bs.size, 0, none⟩ = some (.slice A2 (rjoin y0 x).d.length c2) ∧ w'.cell? ⟨w.heap.size + 1 + m1.bs.size, 1, none⟩ = some (.bool (rjoin y0 x).whole))
    (first | (simp [go_sem, hb, hp, hne, n0, n1]; done))
    (first | (go_at_call 53; (refine Calls.mono (own_any A2 c2 (rjoin y0 x) _ (hJ.out.grows ?_) hyl) ?_); (repeat' first | exact Grows.refl _ | refine Grows.more ?_ _ | refine Grows.alloc ?_ _ | refine Grows.drew ?_); (rintro e w2 ⟨A4, c4, rfl, hOa, m4, rfl⟩)) | (go_at_call 53; (refine Calls.mono (own_any A cap x _ (hX.out.grows ?_) hl) ?_); (repeat' first | exact Grows.refl _ | refine Grows.more ?_ _ | refine Grows.alloc ?_ _ | refine Grows.drew ?_); (rintro e w3 ⟨A3, c3, rfl, hOb, m5, rfl⟩; have hB2 := bmap_at hB hOb (by repeat' first | exact Grows.refl _ | refine Grows.more ?_ _ | refine Grows.alloc ?_ _ | refine Grows.drew ?_))))
  go_wp2_with fail
  go_ret
  exact ⟨rfl, ((Chg.of_grows (by repeat' first | exact Grows.refl _ | refine Grows.more ?_ _ | refine Grows.alloc ?_ _ | refine Grows.drew ?_)).trans (Chg.putB _ _)).trans (Chg.putB _ _), ((hR.out.grows (by repeat' first | exact Grows.refl _ | refine Grows.more ?_ _ | refine Grows.alloc ?_ _ | refine Grows.drew ?_)).put hnr _ ((hOa.grows (by repeat' first | exact Grows.refl _ | refine Grows.more ?_ _ | refine Grows.alloc ?_ _ | refine Grows.drew ?_)).mono fun b _ hb => hok b (by simp at hb; omega)) hY.out).put hnr 0 ((hOb.mono fun b _ hb => hok b (by simp at hb; omega)).chg (Chg.putB _ _) fun b _ hb e => hnr (e ▸ hb)) hC.out⟩
end Go.Proofs.Ythanghgfakibnaa
