/-
  Chapter 19's does: an act done to the package's buffer and to the document's.
-/
import Derived.Test.YthanghgfakibnaaPk45
import Derived.Test.YthanghgfakibnaaPk37
namespace Go.Proofs.Ythanghgfakibnaa
open Go.RowKit

/-- What an act leaves. -/
def plV (c : CoV) (s : AcC) : CoV :=
  if s.kind % 12 = 0 then (coBegin c).1 else if s.kind % 12 = 1 ∨ s.kind % 12 = 2 ∨ s.kind % 12 = 3 then (coSplice c s.sp).1 else if s.kind % 12 = 4 then (coEnd c).1 else if s.kind % 12 = 5 then coAbort c else
  if s.kind % 12 = 6 then (coUndo c).1 else if s.kind % 12 = 7 then (coGo c s.line).1 else if s.kind % 12 = 8 then (coMark c s.letter s.line).1 else
  if s.kind % 12 = 9 then (coSet c s.letter ⟨[s.text], false⟩).1 else if s.kind % 12 = 10 then { c with dirty := false } else { c with last := s.text }
def plVs (c : CoV) (L : List AcC) : CoV := L.foldl plV c
set_option maxRecDepth 3000 in
theorem plVs_take (c : CoV) (L : List AcC) (k : Nat) (h : k < L.length) : plVs c (L.take (k + 1)) = plV (plVs c (L.take k)) L[k] := by
  unfold plVs
  rw [List.take_add_one, List.getElem?_eq_getElem h, List.foldl_append]
  rfl
set_option maxRecDepth 3000 in
theorem plV_did (c : CoV) (s : AcC) : (plV c s).did.length ≤ c.did.length + 1 := by
  unfold plV
  split
  · unfold coBegin; split <;> simp
  · split
    · exact coSplice_did c _
    · split
      · unfold coEnd; split
        · simp
        · split <;> simp
      · split
        · unfold coAbort; split <;> simp
        · split
          · unfold coUndo; split
            · simp
            · split <;> simp
          · split
            · unfold coGo; split <;> simp
            · split
              · unfold coMark; split <;> simp
              · split
                · simp [coSet]
                · split <;> simp
set_option maxRecDepth 3000 in
theorem plVs_did (c : CoV) (L : List AcC) : (plVs c L).did.length ≤ c.did.length + L.length := by
  unfold plVs
  induction L generalizing c with
  | nil => simp
  | cons s L ih =>
    have := ih (plV c s)
    have := plV_did c s
    simp only [List.foldl_cons, List.length_cons]
    omega
set_option maxRecDepth 3000 in
theorem Step.cellS {K K' : Nat → Prop} {w w' : World} (h : Step K K' w w') (b i : Nat) (hk : ¬ K b) (hb : b < w.heap.size) : w'.cell? ⟨b, i, none⟩ = w.cell? ⟨b, i, none⟩ := h.chg.cell (a := ⟨b, i, none⟩) hb hk
/-- What is known ahead of an act. -/
structure Ahead (W : World) (K K2 : Nat → Prop) (g g2 : Nat) (c : CoV) (s : AcC) (n : Nat) (w : World) : Prop where
  z : Duo W K K2 g g2 c c w
  sok : s.ok w
  kind : s.kind = n
  lines : LRd (fun b => b < W.heap.size) w s.A s.cap s.ins
  did : c.did.length ≤ 1000000
  ins : s.ins.length ≤ 20
  each : ∀ t ∈ s.ins, t.length ≤ 9223372036854775807
  text : s.text.length ≤ 300
/-- What an act leaves of both. -/
def Done (W : World) (g g2 : Nat) (c' : CoV) (e : Ending) (w' : World) : Prop := e = .returned (.bool true) ∧ ∃ K K2, Duo W K K2 g g2 c' c' w'
section
variable {W w : World} {K K2 : Nat → Prop} {g g2 : Nat} {c : CoV} {s : AcC} {n : Nat}
set_option maxRecDepth 3000 in
theorem eql_u8 (a b : Nat) (h : a = b) : ((a : Int) == (b : Int)) = true := by rw [beq_iff_eq]; omega
set_option maxRecDepth 3000 in
set_option maxHeartbeats 2000000 in
theorem does_0 (h : Ahead W K K2 g g2 c s n w) (ht : n % 12 = 0) :
    Calls Try.prog 34 #[.pointer (some ⟨g, 0, none⟩), .pointer (some ⟨g2, 0, none⟩), .agg #[.int .u8 n, .int .i64 s.at_, .int .i64 s.del, .slice s.A s.ins.length s.cap, .int .i64 s.line, .int .u8 s.letter, .string (tx s.text)]] w (Done W g g2 ((coBegin c).1)) := by
  have t0 : ((n : Int) % 12 == 0) = true := by rw [beq_iff_eq]; omega
  have hn : n < 256 := by have := h.sok.kind; have := h.kind; omega
  have H := Lib.hid h
  have hfr : Hid (∀ {K : Nat → Prop}, (∀ b, K b → b < w.heap.size) → ¬ K w.heap.size) := Lib.hid (fun h1 h2 => Nat.lt_irrefl _ (h1 _ h2))
  clear h ht
  go_enter Try.func34, Try.ntmps34
  go_wp2_with fail
  (with_reducible refine (co_begin (H.out.z.a.grows (by repeat' first | exact Grows.refl _ | refine Grows.more ?_ _ | refine Grows.alloc ?_ _ | refine Grows.drew ?_ | refine Grows.drewN ?_ _)) (coBegin c).1 (coBegin c).2 rfl).mono ?_)
  rintro e w2 ⟨rfl, K5, hC, hst⟩
  have Z5 := Lib.hid ((H.out.z.grows (by repeat' first | exact Grows.refl _ | refine Grows.more ?_ _ | refine Grows.alloc ?_ _ | refine Grows.drew ?_ | refine Grows.drewN ?_ _)).stepA hC hst)
  clear hC hst
  go_wp2_with fail
  (with_reducible refine (ro_begin (Z5.out.b.grows (by repeat' first | exact Grows.refl _ | refine Grows.more ?_ _ | refine Grows.alloc ?_ _ | refine Grows.drew ?_ | refine Grows.drewN ?_ _)) (coBegin c).1 (coBegin c).2 rfl).mono ?_)
  rintro e w3 ⟨rfl, K6, hC, hst⟩
  have Z6 := Lib.hid ((Z5.out.grows (by repeat' first | exact Grows.refl _ | refine Grows.more ?_ _ | refine Grows.alloc ?_ _ | refine Grows.drew ?_ | refine Grows.drewN ?_ _)).stepB hC hst)
  clear hC hst
  go_wp2_with fail
  go_ret
  exact ⟨rfl, _, _, Z6.out⟩
set_option maxRecDepth 3000 in
set_option maxHeartbeats 2000000 in
theorem does_1 (h : Ahead W K K2 g g2 c s n w) (ht : n % 12 = 1) :
    Calls Try.prog 34 #[.pointer (some ⟨g, 0, none⟩), .pointer (some ⟨g2, 0, none⟩), .agg #[.int .u8 n, .int .i64 s.at_, .int .i64 s.del, .slice s.A s.ins.length s.cap, .int .i64 s.line, .int .u8 s.letter, .string (tx s.text)]] w (Done W g g2 ((coSplice c s.sp).1)) := by
  have t0 : ((n : Int) % 12 == 0) = false := by rw [beq_eq_false_iff_ne]; omega
  have t1 : ((n : Int) % 12 == 1) = true := by rw [beq_iff_eq]; omega
  have hn : n < 256 := by have := h.sok.kind; have := h.kind; omega
  have H := Lib.hid h
  have hfr : Hid (∀ {K : Nat → Prop}, (∀ b, K b → b < w.heap.size) → ¬ K w.heap.size) := Lib.hid (fun h1 h2 => Nat.lt_irrefl _ (h1 _ h2))
  clear h ht
  go_enter Try.func34, Try.ntmps34
  go_wp2_with fail
  go_region_held3 (fun w' => w'.cell? ⟨w.heap.size, 1, none⟩ = some (.int .i64 s.at_) ∧ w'.cell? ⟨w.heap.size, 2, none⟩ = some (.int .i64 s.del) ∧ w'.cell? ⟨w.heap.size, 3, none⟩ = some (.slice s.A s.ins.length s.cap))
    (first | (simp [go_sem]; done) | (simp [go_sem, x1, x2, x3]; done))
    (first
      | (go_at_call 23; (with_reducible refine Calls.mono (co_splice (H.out.z.a.grows ?_) s.at_ s.del s.A s.ins.length s.cap s.ins rfl H.out.sok.at_ H.out.sok.del (H.out.lines.grows ?_) H.out.each (by have := H.out.ins; omega) H.out.did (coSplice c s.sp).1 (coSplice c s.sp).2 rfl) ?_); (repeat' first | exact Grows.refl _ | refine Grows.more ?_ _ | refine Grows.alloc ?_ _ | refine Grows.drew ?_ | refine Grows.drewN ?_ _); rintro e w2 ⟨rfl, K5, hC, hst⟩; have Z5 := Lib.hid ((H.out.z.grows (by repeat' first | exact Grows.refl _ | refine Grows.more ?_ _ | refine Grows.alloc ?_ _ | refine Grows.drew ?_ | refine Grows.drewN ?_ _)).stepA hC hst); have I5 := Lib.hid (LRd.chg (H.out.lines.grows (by repeat' first | exact Grows.refl _ | refine Grows.more ?_ _ | refine Grows.alloc ?_ _ | refine Grows.drew ?_ | refine Grows.drewN ?_ _)) hst.chg (fun b _ hb hk => Nat.lt_irrefl _ (Nat.lt_of_lt_of_le hb (H.out.z.a.low b hk)))); have hx := fun i => hst.cellS w.heap.size i (hfr.out H.out.z.a.lt) (by simp); have x1 := (hx 1).trans (show _ = some (.int .i64 s.at_) by simp [go_sem]); have x2 := (hx 2).trans (show _ = some (.int .i64 s.del) by simp [go_sem]); have x3 := (hx 3).trans (show _ = some (.slice s.A s.ins.length s.cap) by simp [go_sem]); clear hx hC hst)
      | (go_at_call 57; (with_reducible refine Calls.mono (ro_splice (Z5.out.b.grows ?_) s.at_ s.del s.A s.ins.length s.cap s.ins rfl H.out.sok.at_ H.out.sok.del (I5.out.grows ?_) H.out.each (by have := H.out.ins; omega) H.out.did (coSplice c s.sp).1 (coSplice c s.sp).2 rfl) ?_); (repeat' first | exact Grows.refl _ | refine Grows.more ?_ _ | refine Grows.alloc ?_ _ | refine Grows.drew ?_ | refine Grows.drewN ?_ _); rintro e w3 ⟨rfl, K6, hC, hst⟩; have Z6 := Lib.hid ((Z5.out.grows (by repeat' first | exact Grows.refl _ | refine Grows.more ?_ _ | refine Grows.alloc ?_ _ | refine Grows.drew ?_ | refine Grows.drewN ?_ _)).stepB hC hst); have hx := fun i => hst.cellS w.heap.size i (hfr.out H.out.z.b.lt) (by have := World.block_lt_of_cell? _ _ x1; first | exact this | (simp; omega)); have x1 := (hx 1).trans (show _ = some (.int .i64 s.at_) by first | exact x1 | simp [go_sem, x1]); have x2 := (hx 2).trans (show _ = some (.int .i64 s.del) by first | exact x2 | simp [go_sem, x2]); have x3 := (hx 3).trans (show _ = some (.slice s.A s.ins.length s.cap) by first | exact x3 | simp [go_sem, x3]); clear hx hC hst))
  all_goals
    go_wp2_with fail
    go_ret
    exact ⟨rfl, _, _, Z6.out.grows (by repeat' first | exact Grows.refl _ | refine Grows.more ?_ _ | refine Grows.alloc ?_ _ | refine Grows.drew ?_ | refine Grows.drewN ?_ _)⟩
set_option maxRecDepth 3000 in
set_option maxHeartbeats 2000000 in
theorem does_2 (h : Ahead W K K2 g g2 c s n w) (ht : n % 12 = 2) :
    Calls Try.prog 34 #[.pointer (some ⟨g, 0, none⟩), .pointer (some ⟨g2, 0, none⟩), .agg #[.int .u8 n, .int .i64 s.at_, .int .i64 s.del, .slice s.A s.ins.length s.cap, .int .i64 s.line, .int .u8 s.letter, .string (tx s.text)]] w (Done W g g2 ((coSplice c s.sp).1)) := by
  have t0 : ((n : Int) % 12 == 0) = false := by rw [beq_eq_false_iff_ne]; omega
  have t1 : ((n : Int) % 12 == 1) = false := by rw [beq_eq_false_iff_ne]; omega
  have t2 : ((n : Int) % 12 == 2) = true := by rw [beq_iff_eq]; omega
  have hn : n < 256 := by have := h.sok.kind; have := h.kind; omega
  have H := Lib.hid h
  have hfr : Hid (∀ {K : Nat → Prop}, (∀ b, K b → b < w.heap.size) → ¬ K w.heap.size) := Lib.hid (fun h1 h2 => Nat.lt_irrefl _ (h1 _ h2))
  clear h ht
  go_enter Try.func34, Try.ntmps34
  go_wp2_with fail
  go_region_held3 (fun w' => w'.cell? ⟨w.heap.size, 1, none⟩ = some (.int .i64 s.at_) ∧ w'.cell? ⟨w.heap.size, 2, none⟩ = some (.int .i64 s.del) ∧ w'.cell? ⟨w.heap.size, 3, none⟩ = some (.slice s.A s.ins.length s.cap))
    (first | (simp [go_sem]; done) | (simp [go_sem, x1, x2, x3]; done))
    (first
      | (go_at_call 23; (with_reducible refine Calls.mono (co_splice (H.out.z.a.grows ?_) s.at_ s.del s.A s.ins.length s.cap s.ins rfl H.out.sok.at_ H.out.sok.del (H.out.lines.grows ?_) H.out.each (by have := H.out.ins; omega) H.out.did (coSplice c s.sp).1 (coSplice c s.sp).2 rfl) ?_); (repeat' first | exact Grows.refl _ | refine Grows.more ?_ _ | refine Grows.alloc ?_ _ | refine Grows.drew ?_ | refine Grows.drewN ?_ _); rintro e w2 ⟨rfl, K5, hC, hst⟩; have Z5 := Lib.hid ((H.out.z.grows (by repeat' first | exact Grows.refl _ | refine Grows.more ?_ _ | refine Grows.alloc ?_ _ | refine Grows.drew ?_ | refine Grows.drewN ?_ _)).stepA hC hst); have I5 := Lib.hid (LRd.chg (H.out.lines.grows (by repeat' first | exact Grows.refl _ | refine Grows.more ?_ _ | refine Grows.alloc ?_ _ | refine Grows.drew ?_ | refine Grows.drewN ?_ _)) hst.chg (fun b _ hb hk => Nat.lt_irrefl _ (Nat.lt_of_lt_of_le hb (H.out.z.a.low b hk)))); have hx := fun i => hst.cellS w.heap.size i (hfr.out H.out.z.a.lt) (by simp); have x1 := (hx 1).trans (show _ = some (.int .i64 s.at_) by simp [go_sem]); have x2 := (hx 2).trans (show _ = some (.int .i64 s.del) by simp [go_sem]); have x3 := (hx 3).trans (show _ = some (.slice s.A s.ins.length s.cap) by simp [go_sem]); clear hx hC hst)
      | (go_at_call 57; (with_reducible refine Calls.mono (ro_splice (Z5.out.b.grows ?_) s.at_ s.del s.A s.ins.length s.cap s.ins rfl H.out.sok.at_ H.out.sok.del (I5.out.grows ?_) H.out.each (by have := H.out.ins; omega) H.out.did (coSplice c s.sp).1 (coSplice c s.sp).2 rfl) ?_); (repeat' first | exact Grows.refl _ | refine Grows.more ?_ _ | refine Grows.alloc ?_ _ | refine Grows.drew ?_ | refine Grows.drewN ?_ _); rintro e w3 ⟨rfl, K6, hC, hst⟩; have Z6 := Lib.hid ((Z5.out.grows (by repeat' first | exact Grows.refl _ | refine Grows.more ?_ _ | refine Grows.alloc ?_ _ | refine Grows.drew ?_ | refine Grows.drewN ?_ _)).stepB hC hst); have hx := fun i => hst.cellS w.heap.size i (hfr.out H.out.z.b.lt) (by have := World.block_lt_of_cell? _ _ x1; first | exact this | (simp; omega)); have x1 := (hx 1).trans (show _ = some (.int .i64 s.at_) by first | exact x1 | simp [go_sem, x1]); have x2 := (hx 2).trans (show _ = some (.int .i64 s.del) by first | exact x2 | simp [go_sem, x2]); have x3 := (hx 3).trans (show _ = some (.slice s.A s.ins.length s.cap) by first | exact x3 | simp [go_sem, x3]); clear hx hC hst))
  all_goals
    go_wp2_with fail
    go_ret
    exact ⟨rfl, _, _, Z6.out.grows (by repeat' first | exact Grows.refl _ | refine Grows.more ?_ _ | refine Grows.alloc ?_ _ | refine Grows.drew ?_ | refine Grows.drewN ?_ _)⟩
set_option maxRecDepth 3000 in
set_option maxHeartbeats 2000000 in
theorem does_3 (h : Ahead W K K2 g g2 c s n w) (ht : n % 12 = 3) :
    Calls Try.prog 34 #[.pointer (some ⟨g, 0, none⟩), .pointer (some ⟨g2, 0, none⟩), .agg #[.int .u8 n, .int .i64 s.at_, .int .i64 s.del, .slice s.A s.ins.length s.cap, .int .i64 s.line, .int .u8 s.letter, .string (tx s.text)]] w (Done W g g2 ((coSplice c s.sp).1)) := by
  have t0 : ((n : Int) % 12 == 0) = false := by rw [beq_eq_false_iff_ne]; omega
  have t1 : ((n : Int) % 12 == 1) = false := by rw [beq_eq_false_iff_ne]; omega
  have t2 : ((n : Int) % 12 == 2) = false := by rw [beq_eq_false_iff_ne]; omega
  have t3 : ((n : Int) % 12 == 3) = true := by rw [beq_iff_eq]; omega
  have hn : n < 256 := by have := h.sok.kind; have := h.kind; omega
  have H := Lib.hid h
  have hfr : Hid (∀ {K : Nat → Prop}, (∀ b, K b → b < w.heap.size) → ¬ K w.heap.size) := Lib.hid (fun h1 h2 => Nat.lt_irrefl _ (h1 _ h2))
  clear h ht
  go_enter Try.func34, Try.ntmps34
  go_wp2_with fail
  go_region_held3 (fun w' => w'.cell? ⟨w.heap.size, 1, none⟩ = some (.int .i64 s.at_) ∧ w'.cell? ⟨w.heap.size, 2, none⟩ = some (.int .i64 s.del) ∧ w'.cell? ⟨w.heap.size, 3, none⟩ = some (.slice s.A s.ins.length s.cap))
    (first | (simp [go_sem]; done) | (simp [go_sem, x1, x2, x3]; done))
    (first
      | (go_at_call 23; (with_reducible refine Calls.mono (co_splice (H.out.z.a.grows ?_) s.at_ s.del s.A s.ins.length s.cap s.ins rfl H.out.sok.at_ H.out.sok.del (H.out.lines.grows ?_) H.out.each (by have := H.out.ins; omega) H.out.did (coSplice c s.sp).1 (coSplice c s.sp).2 rfl) ?_); (repeat' first | exact Grows.refl _ | refine Grows.more ?_ _ | refine Grows.alloc ?_ _ | refine Grows.drew ?_ | refine Grows.drewN ?_ _); rintro e w2 ⟨rfl, K5, hC, hst⟩; have Z5 := Lib.hid ((H.out.z.grows (by repeat' first | exact Grows.refl _ | refine Grows.more ?_ _ | refine Grows.alloc ?_ _ | refine Grows.drew ?_ | refine Grows.drewN ?_ _)).stepA hC hst); have I5 := Lib.hid (LRd.chg (H.out.lines.grows (by repeat' first | exact Grows.refl _ | refine Grows.more ?_ _ | refine Grows.alloc ?_ _ | refine Grows.drew ?_ | refine Grows.drewN ?_ _)) hst.chg (fun b _ hb hk => Nat.lt_irrefl _ (Nat.lt_of_lt_of_le hb (H.out.z.a.low b hk)))); have hx := fun i => hst.cellS w.heap.size i (hfr.out H.out.z.a.lt) (by simp); have x1 := (hx 1).trans (show _ = some (.int .i64 s.at_) by simp [go_sem]); have x2 := (hx 2).trans (show _ = some (.int .i64 s.del) by simp [go_sem]); have x3 := (hx 3).trans (show _ = some (.slice s.A s.ins.length s.cap) by simp [go_sem]); clear hx hC hst)
      | (go_at_call 57; (with_reducible refine Calls.mono (ro_splice (Z5.out.b.grows ?_) s.at_ s.del s.A s.ins.length s.cap s.ins rfl H.out.sok.at_ H.out.sok.del (I5.out.grows ?_) H.out.each (by have := H.out.ins; omega) H.out.did (coSplice c s.sp).1 (coSplice c s.sp).2 rfl) ?_); (repeat' first | exact Grows.refl _ | refine Grows.more ?_ _ | refine Grows.alloc ?_ _ | refine Grows.drew ?_ | refine Grows.drewN ?_ _); rintro e w3 ⟨rfl, K6, hC, hst⟩; have Z6 := Lib.hid ((Z5.out.grows (by repeat' first | exact Grows.refl _ | refine Grows.more ?_ _ | refine Grows.alloc ?_ _ | refine Grows.drew ?_ | refine Grows.drewN ?_ _)).stepB hC hst); have hx := fun i => hst.cellS w.heap.size i (hfr.out H.out.z.b.lt) (by have := World.block_lt_of_cell? _ _ x1; first | exact this | (simp; omega)); have x1 := (hx 1).trans (show _ = some (.int .i64 s.at_) by first | exact x1 | simp [go_sem, x1]); have x2 := (hx 2).trans (show _ = some (.int .i64 s.del) by first | exact x2 | simp [go_sem, x2]); have x3 := (hx 3).trans (show _ = some (.slice s.A s.ins.length s.cap) by first | exact x3 | simp [go_sem, x3]); clear hx hC hst))
  all_goals
    go_wp2_with fail
    go_ret
    exact ⟨rfl, _, _, Z6.out.grows (by repeat' first | exact Grows.refl _ | refine Grows.more ?_ _ | refine Grows.alloc ?_ _ | refine Grows.drew ?_ | refine Grows.drewN ?_ _)⟩
set_option maxRecDepth 3000 in
set_option maxHeartbeats 2000000 in
theorem does_5 (h : Ahead W K K2 g g2 c s n w) (ht : n % 12 = 5) :
    Calls Try.prog 34 #[.pointer (some ⟨g, 0, none⟩), .pointer (some ⟨g2, 0, none⟩), .agg #[.int .u8 n, .int .i64 s.at_, .int .i64 s.del, .slice s.A s.ins.length s.cap, .int .i64 s.line, .int .u8 s.letter, .string (tx s.text)]] w (Done W g g2 (coAbort c)) := by
  have t0 : ((n : Int) % 12 == 0) = false := by rw [beq_eq_false_iff_ne]; omega
  have t1 : ((n : Int) % 12 == 1) = false := by rw [beq_eq_false_iff_ne]; omega
  have t2 : ((n : Int) % 12 == 2) = false := by rw [beq_eq_false_iff_ne]; omega
  have t3 : ((n : Int) % 12 == 3) = false := by rw [beq_eq_false_iff_ne]; omega
  have t4 : ((n : Int) % 12 == 4) = false := by rw [beq_eq_false_iff_ne]; omega
  have t5 : ((n : Int) % 12 == 5) = true := by rw [beq_iff_eq]; omega
  have hn : n < 256 := by have := h.sok.kind; have := h.kind; omega
  have H := Lib.hid h
  have hfr : Hid (∀ {K : Nat → Prop}, (∀ b, K b → b < w.heap.size) → ¬ K w.heap.size) := Lib.hid (fun h1 h2 => Nat.lt_irrefl _ (h1 _ h2))
  clear h ht
  go_enter Try.func34, Try.ntmps34
  go_wp2_with fail
  (with_reducible refine (co_abort (H.out.z.a.grows (by repeat' first | exact Grows.refl _ | refine Grows.more ?_ _ | refine Grows.alloc ?_ _ | refine Grows.drew ?_ | refine Grows.drewN ?_ _))).mono ?_)
  rintro e w2 ⟨rfl, hC, hst⟩
  have Z5 := Lib.hid ((H.out.z.grows (by repeat' first | exact Grows.refl _ | refine Grows.more ?_ _ | refine Grows.alloc ?_ _ | refine Grows.drew ?_ | refine Grows.drewN ?_ _)).stepA hC hst)
  clear hC hst
  go_wp2_with fail
  (with_reducible refine (ro_abort (Z5.out.b.grows (by repeat' first | exact Grows.refl _ | refine Grows.more ?_ _ | refine Grows.alloc ?_ _ | refine Grows.drew ?_ | refine Grows.drewN ?_ _))).mono ?_)
  rintro e w3 ⟨rfl, hC, hst⟩
  have Z6 := Lib.hid ((Z5.out.grows (by repeat' first | exact Grows.refl _ | refine Grows.more ?_ _ | refine Grows.alloc ?_ _ | refine Grows.drew ?_ | refine Grows.drewN ?_ _)).stepB hC hst)
  clear hC hst
  go_wp2_with fail
  go_ret
  exact ⟨rfl, _, _, Z6.out⟩
set_option maxRecDepth 3000 in
set_option maxHeartbeats 2000000 in
theorem does_7 (h : Ahead W K K2 g g2 c s n w) (ht : n % 12 = 7) :
    Calls Try.prog 34 #[.pointer (some ⟨g, 0, none⟩), .pointer (some ⟨g2, 0, none⟩), .agg #[.int .u8 n, .int .i64 s.at_, .int .i64 s.del, .slice s.A s.ins.length s.cap, .int .i64 s.line, .int .u8 s.letter, .string (tx s.text)]] w (Done W g g2 ((coGo c s.line).1)) := by
  have t0 : ((n : Int) % 12 == 0) = false := by rw [beq_eq_false_iff_ne]; omega
  have t1 : ((n : Int) % 12 == 1) = false := by rw [beq_eq_false_iff_ne]; omega
  have t2 : ((n : Int) % 12 == 2) = false := by rw [beq_eq_false_iff_ne]; omega
  have t3 : ((n : Int) % 12 == 3) = false := by rw [beq_eq_false_iff_ne]; omega
  have t4 : ((n : Int) % 12 == 4) = false := by rw [beq_eq_false_iff_ne]; omega
  have t5 : ((n : Int) % 12 == 5) = false := by rw [beq_eq_false_iff_ne]; omega
  have t6 : ((n : Int) % 12 == 6) = false := by rw [beq_eq_false_iff_ne]; omega
  have t7 : ((n : Int) % 12 == 7) = true := by rw [beq_iff_eq]; omega
  have hn : n < 256 := by have := h.sok.kind; have := h.kind; omega
  have H := Lib.hid h
  have hfr : Hid (∀ {K : Nat → Prop}, (∀ b, K b → b < w.heap.size) → ¬ K w.heap.size) := Lib.hid (fun h1 h2 => Nat.lt_irrefl _ (h1 _ h2))
  clear h ht
  go_enter Try.func34, Try.ntmps34
  go_wp2_with fail
  go_region_held3 (fun w' => w'.cell? ⟨w.heap.size, 4, none⟩ = some (.int .i64 s.line))
    (first | (simp [go_sem]; done) | (simp [go_sem, x4]; done))
    (first
      | (go_at_call 18; (with_reducible refine Calls.mono (co_go (H.out.z.a.grows ?_) s.line H.out.sok.line (coGo c s.line).1 (coGo c s.line).2 rfl) ?_); (repeat' first | exact Grows.refl _ | refine Grows.more ?_ _ | refine Grows.alloc ?_ _ | refine Grows.drew ?_ | refine Grows.drewN ?_ _); rintro e w2 ⟨rfl, K5, hC, hst⟩; have Z5 := Lib.hid ((H.out.z.grows (by repeat' first | exact Grows.refl _ | refine Grows.more ?_ _ | refine Grows.alloc ?_ _ | refine Grows.drew ?_ | refine Grows.drewN ?_ _)).stepA hC hst); have hx := fun i => hst.cellS w.heap.size i (hfr.out H.out.z.a.lt) (by simp); have x4 := (hx 4).trans (show _ = some (.int .i64 s.line) by simp [go_sem]); clear hx hC hst)
      | (go_at_call 61; (with_reducible refine Calls.mono (ro_go (Z5.out.b.grows ?_) s.line H.out.sok.line (coGo c s.line).1 (coGo c s.line).2 rfl) ?_); (repeat' first | exact Grows.refl _ | refine Grows.more ?_ _ | refine Grows.alloc ?_ _ | refine Grows.drew ?_ | refine Grows.drewN ?_ _); rintro e w3 ⟨rfl, K6, hC, hst⟩; have Z6 := Lib.hid ((Z5.out.grows (by repeat' first | exact Grows.refl _ | refine Grows.more ?_ _ | refine Grows.alloc ?_ _ | refine Grows.drew ?_ | refine Grows.drewN ?_ _)).stepB hC hst); have hx := fun i => hst.cellS w.heap.size i (hfr.out H.out.z.b.lt) (by have := World.block_lt_of_cell? _ _ x4; first | exact this | (simp; omega)); have x4 := (hx 4).trans (show _ = some (.int .i64 s.line) by first | exact x4 | simp [go_sem, x4]); clear hx hC hst))
  all_goals
    go_wp2_with fail
    go_ret
    exact ⟨rfl, _, _, Z6.out.grows (by repeat' first | exact Grows.refl _ | refine Grows.more ?_ _ | refine Grows.alloc ?_ _ | refine Grows.drew ?_ | refine Grows.drewN ?_ _)⟩
set_option maxRecDepth 3000 in
set_option maxHeartbeats 2000000 in
theorem does_8 (h : Ahead W K K2 g g2 c s n w) (ht : n % 12 = 8) :
    Calls Try.prog 34 #[.pointer (some ⟨g, 0, none⟩), .pointer (some ⟨g2, 0, none⟩), .agg #[.int .u8 n, .int .i64 s.at_, .int .i64 s.del, .slice s.A s.ins.length s.cap, .int .i64 s.line, .int .u8 s.letter, .string (tx s.text)]] w (Done W g g2 ((coMark c s.letter s.line).1)) := by
  have t0 : ((n : Int) % 12 == 0) = false := by rw [beq_eq_false_iff_ne]; omega
  have t1 : ((n : Int) % 12 == 1) = false := by rw [beq_eq_false_iff_ne]; omega
  have t2 : ((n : Int) % 12 == 2) = false := by rw [beq_eq_false_iff_ne]; omega
  have t3 : ((n : Int) % 12 == 3) = false := by rw [beq_eq_false_iff_ne]; omega
  have t4 : ((n : Int) % 12 == 4) = false := by rw [beq_eq_false_iff_ne]; omega
  have t5 : ((n : Int) % 12 == 5) = false := by rw [beq_eq_false_iff_ne]; omega
  have t6 : ((n : Int) % 12 == 6) = false := by rw [beq_eq_false_iff_ne]; omega
  have t7 : ((n : Int) % 12 == 7) = false := by rw [beq_eq_false_iff_ne]; omega
  have t8 : ((n : Int) % 12 == 8) = true := by rw [beq_iff_eq]; omega
  have hn : n < 256 := by have := h.sok.kind; have := h.kind; omega
  have H := Lib.hid h
  have hfr : Hid (∀ {K : Nat → Prop}, (∀ b, K b → b < w.heap.size) → ¬ K w.heap.size) := Lib.hid (fun h1 h2 => Nat.lt_irrefl _ (h1 _ h2))
  clear h ht
  go_enter Try.func34, Try.ntmps34
  go_wp2_with fail
  go_region_held3 (fun w' => w'.cell? ⟨w.heap.size, 4, none⟩ = some (.int .i64 s.line) ∧ w'.cell? ⟨w.heap.size, 5, none⟩ = some (.int .u8 s.letter))
    (first | (simp [go_sem]; done) | (simp [go_sem, x4, x5]; done))
    (first
      | (go_at_call 19; (with_reducible refine Calls.mono (co_mark (H.out.z.a.grows ?_) s.letter s.line H.out.sok.letter.1 H.out.sok.letter.2 (coMark c s.letter s.line).1 (coMark c s.letter s.line).2 rfl) ?_); (repeat' first | exact Grows.refl _ | refine Grows.more ?_ _ | refine Grows.alloc ?_ _ | refine Grows.drew ?_ | refine Grows.drewN ?_ _); rintro e w2 ⟨rfl, K5, hC, hst⟩; have Z5 := Lib.hid ((H.out.z.grows (by repeat' first | exact Grows.refl _ | refine Grows.more ?_ _ | refine Grows.alloc ?_ _ | refine Grows.drew ?_ | refine Grows.drewN ?_ _)).stepA hC hst); have hx := fun i => hst.cellS w.heap.size i (hfr.out H.out.z.a.lt) (by simp); have x4 := (hx 4).trans (show _ = some (.int .i64 s.line) by simp [go_sem]); have x5 := (hx 5).trans (show _ = some (.int .u8 s.letter) by simp [go_sem]); clear hx hC hst)
      | (go_at_call 62; (with_reducible refine Calls.mono (ro_mark (Z5.out.b.grows ?_) s.letter s.line H.out.sok.letter.1 H.out.sok.letter.2 (coMark c s.letter s.line).1 (coMark c s.letter s.line).2 rfl) ?_); (repeat' first | exact Grows.refl _ | refine Grows.more ?_ _ | refine Grows.alloc ?_ _ | refine Grows.drew ?_ | refine Grows.drewN ?_ _); rintro e w3 ⟨rfl, K6, hC, hst⟩; have Z6 := Lib.hid ((Z5.out.grows (by repeat' first | exact Grows.refl _ | refine Grows.more ?_ _ | refine Grows.alloc ?_ _ | refine Grows.drew ?_ | refine Grows.drewN ?_ _)).stepB hC hst); have hx := fun i => hst.cellS w.heap.size i (hfr.out H.out.z.b.lt) (by have := World.block_lt_of_cell? _ _ x4; first | exact this | (simp; omega)); have x4 := (hx 4).trans (show _ = some (.int .i64 s.line) by first | exact x4 | simp [go_sem, x4]); have x5 := (hx 5).trans (show _ = some (.int .u8 s.letter) by first | exact x5 | simp [go_sem, x5]); clear hx hC hst))
  all_goals
    go_wp2_with fail
    go_ret
    exact ⟨rfl, _, _, Z6.out.grows (by repeat' first | exact Grows.refl _ | refine Grows.more ?_ _ | refine Grows.alloc ?_ _ | refine Grows.drew ?_ | refine Grows.drewN ?_ _)⟩
set_option maxRecDepth 3000 in
set_option maxHeartbeats 2000000 in
theorem does_10 (h : Ahead W K K2 g g2 c s n w) (ht : n % 12 = 10) :
    Calls Try.prog 34 #[.pointer (some ⟨g, 0, none⟩), .pointer (some ⟨g2, 0, none⟩), .agg #[.int .u8 n, .int .i64 s.at_, .int .i64 s.del, .slice s.A s.ins.length s.cap, .int .i64 s.line, .int .u8 s.letter, .string (tx s.text)]] w (Done W g g2 ({ c with dirty := false })) := by
  have t0 : ((n : Int) % 12 == 0) = false := by rw [beq_eq_false_iff_ne]; omega
  have t1 : ((n : Int) % 12 == 1) = false := by rw [beq_eq_false_iff_ne]; omega
  have t2 : ((n : Int) % 12 == 2) = false := by rw [beq_eq_false_iff_ne]; omega
  have t3 : ((n : Int) % 12 == 3) = false := by rw [beq_eq_false_iff_ne]; omega
  have t4 : ((n : Int) % 12 == 4) = false := by rw [beq_eq_false_iff_ne]; omega
  have t5 : ((n : Int) % 12 == 5) = false := by rw [beq_eq_false_iff_ne]; omega
  have t6 : ((n : Int) % 12 == 6) = false := by rw [beq_eq_false_iff_ne]; omega
  have t7 : ((n : Int) % 12 == 7) = false := by rw [beq_eq_false_iff_ne]; omega
  have t8 : ((n : Int) % 12 == 8) = false := by rw [beq_eq_false_iff_ne]; omega
  have t9 : ((n : Int) % 12 == 9) = false := by rw [beq_eq_false_iff_ne]; omega
  have t10 : ((n : Int) % 12 == 10) = true := by rw [beq_iff_eq]; omega
  have hn : n < 256 := by have := h.sok.kind; have := h.kind; omega
  have H := Lib.hid h
  have hfr : Hid (∀ {K : Nat → Prop}, (∀ b, K b → b < w.heap.size) → ¬ K w.heap.size) := Lib.hid (fun h1 h2 => Nat.lt_irrefl _ (h1 _ h2))
  clear h ht
  go_enter Try.func34, Try.ntmps34
  go_wp2_with fail
  (with_reducible refine (co_clean (H.out.z.a.grows (by repeat' first | exact Grows.refl _ | refine Grows.more ?_ _ | refine Grows.alloc ?_ _ | refine Grows.drew ?_ | refine Grows.drewN ?_ _))).mono ?_)
  rintro e w2 ⟨rfl, K5, hC, hst⟩
  have Z5 := Lib.hid ((H.out.z.grows (by repeat' first | exact Grows.refl _ | refine Grows.more ?_ _ | refine Grows.alloc ?_ _ | refine Grows.drew ?_ | refine Grows.drewN ?_ _)).stepA hC hst)
  obtain ⟨A, cap, p, hS⟩ := Z5.out.b.see
  obtain ⟨-, -, -, -, q30⟩ := hS.five
  have ig := hS.inh
  have f30 := hS.free 30
  clear hC hst hS
  go_wp2_with fail
  go_ret
  obtain ⟨hC, hst⟩ := ro_clean Z5.out.b
  exact ⟨rfl, _, _, Z5.out.stepB hC hst⟩
set_option maxRecDepth 3000 in
set_option maxHeartbeats 2000000 in
theorem does_11 (h : Ahead W K K2 g g2 c s n w) (ht : n % 12 = 11) :
    Calls Try.prog 34 #[.pointer (some ⟨g, 0, none⟩), .pointer (some ⟨g2, 0, none⟩), .agg #[.int .u8 n, .int .i64 s.at_, .int .i64 s.del, .slice s.A s.ins.length s.cap, .int .i64 s.line, .int .u8 s.letter, .string (tx s.text)]] w (Done W g g2 ({ c with last := s.text })) := by
  have t0 : ((n : Int) % 12 == 0) = false := by rw [beq_eq_false_iff_ne]; omega
  have t1 : ((n : Int) % 12 == 1) = false := by rw [beq_eq_false_iff_ne]; omega
  have t2 : ((n : Int) % 12 == 2) = false := by rw [beq_eq_false_iff_ne]; omega
  have t3 : ((n : Int) % 12 == 3) = false := by rw [beq_eq_false_iff_ne]; omega
  have t4 : ((n : Int) % 12 == 4) = false := by rw [beq_eq_false_iff_ne]; omega
  have t5 : ((n : Int) % 12 == 5) = false := by rw [beq_eq_false_iff_ne]; omega
  have t6 : ((n : Int) % 12 == 6) = false := by rw [beq_eq_false_iff_ne]; omega
  have t7 : ((n : Int) % 12 == 7) = false := by rw [beq_eq_false_iff_ne]; omega
  have t8 : ((n : Int) % 12 == 8) = false := by rw [beq_eq_false_iff_ne]; omega
  have t9 : ((n : Int) % 12 == 9) = false := by rw [beq_eq_false_iff_ne]; omega
  have t10 : ((n : Int) % 12 == 10) = false := by rw [beq_eq_false_iff_ne]; omega
  have t11 : ((n : Int) % 12 == 11) = true := by rw [beq_iff_eq]; omega
  have hn : n < 256 := by have := h.sok.kind; have := h.kind; omega
  have H := Lib.hid h
  have hfr : Hid (∀ {K : Nat → Prop}, (∀ b, K b → b < w.heap.size) → ¬ K w.heap.size) := Lib.hid (fun h1 h2 => Nat.lt_irrefl _ (h1 _ h2))
  clear h ht
  go_enter Try.func34, Try.ntmps34
  go_wp2_with fail
  (with_reducible refine (co_last (H.out.z.a.grows (by repeat' first | exact Grows.refl _ | refine Grows.more ?_ _ | refine Grows.alloc ?_ _ | refine Grows.drew ?_ | refine Grows.drewN ?_ _)) s.text).mono ?_)
  rintro e w2 ⟨rfl, K5, hC, hst⟩
  have Z5 := Lib.hid ((H.out.z.grows (by repeat' first | exact Grows.refl _ | refine Grows.more ?_ _ | refine Grows.alloc ?_ _ | refine Grows.drew ?_ | refine Grows.drewN ?_ _)).stepA hC hst)
  have hx := hst.cellS w.heap.size 6 (hfr.out H.out.z.a.lt) (by simp)
  have x6 := hx.trans (show _ = some (.string (tx s.text)) by simp [go_sem])
  have ix : InHeap w.heap.size w2 := Nat.lt_of_lt_of_le (by simp) hst.chg.size
  obtain ⟨A, cap, p, hS⟩ := Z5.out.b.see
  obtain ⟨-, -, q28, -, -⟩ := hS.five
  have ig := hS.inh
  have f28 := hS.free 28
  clear hC hst hS hx
  go_wp2_with fail
  go_ret
  obtain ⟨hC, hst⟩ := ro_last Z5.out.b s.text
  exact ⟨rfl, _, _, Z5.out.stepB hC hst⟩
end
end Go.Proofs.Ythanghgfakibnaa
