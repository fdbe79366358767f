/-
  Core: what is asked of a buffer: walks.
-/
import Derived.Test.YthanghgfakibnaaPk29
import Derived.Test.YthanghgfakibnaaPk30
namespace Go.Proofs.Ythanghgfakibnaa
open Go.RowKit

set_option maxRecDepth 3000 in
theorem i64_one : I64 1 := by unfold I64; omega
/-- Marks by a function. -/
def ms26 (f : Nat → Int) : List Int := [f 0, f 1, f 2, f 3, f 4, f 5, f 6, f 7, f 8, f 9, f 10, f 11, f 12, f 13, f 14, f 15, f 16, f 17, f 18, f 19, f 20, f 21, f 22, f 23, f 24, f 25]
set_option maxRecDepth 3000 in
theorem ms26_eq {ms : List Int} (h : ms.length = 26) : ∃ f, ms = ms26 f := by
  refine ⟨fun i => ms.getD i 0, ?_⟩
  match ms, h with
  | [a0, a1, a2, a3, a4, a5, a6, a7, a8, a9, a10, a11, a12, a13, a14, a15, a16, a17, a18, a19, a20, a21, a22, a23, a24, a25], _ => rfl
set_option maxRecDepth 3000 in
theorem rowMarks : RowOf Try.prog 36 26 := ⟨_, Try.underlying36, rfl, by kernel_rfl⟩
set_option maxRecDepth 3000 in
theorem rowState : RowOf Try.prog 53 28 := ⟨_, Try.underlying53, rfl, by kernel_rfl⟩
set_option maxRecDepth 3000 in
theorem rowStateR : RowOf Try.prog 100 28 := ⟨_, Try.underlying100, rfl, by kernel_rfl⟩
section
variable (w : World) (g o : Nat) (c : Array Value)
def ldMarks (x : Value) : Sem Value := Instr.loadAt 36 x
set_option maxRecDepth 3000 in
theorem ldMarks_eq (x : Value) : Instr.loadAt 36 x = ldMarks x := rfl
set_option maxRecDepth 3000 in
theorem loadMarks : (ldMarks (.pointer (some ⟨g, o, none⟩))).run Try.prog w = loadPart Try.prog w 36 g o 26 := rfl
def ldState (x : Value) : Sem Value := Instr.loadAt 53 x
set_option maxRecDepth 3000 in
theorem ldState_eq (x : Value) : Instr.loadAt 53 x = ldState x := rfl
set_option maxRecDepth 3000 in
theorem loadState : (ldState (.pointer (some ⟨g, o, none⟩))).run Try.prog w = loadPart Try.prog w 53 g o 28 := rfl
def ldStateR (x : Value) : Sem Value := Instr.loadAt 100 x
set_option maxRecDepth 3000 in
theorem ldStateR_eq (x : Value) : Instr.loadAt 100 x = ldStateR x := rfl
set_option maxRecDepth 3000 in
theorem loadStateR : (ldStateR (.pointer (some ⟨g, o, none⟩))).run Try.prog w = loadPart Try.prog w 100 g o 28 := rfl
set_option maxRecDepth 3000 in
theorem loadMarks_if : loadPart Try.prog w 36 g o 26 = if 0 < 26 ∧ o + 26 ≤ (blk w g).size then .ok (.agg (span (blk w g) o 26)) w else loadPartOdd Try.prog w 36 g o 26 := loadPart_if w _ g o 26 rowMarks
set_option maxRecDepth 3000 in
theorem loadState_if : loadPart Try.prog w 53 g o 28 = if 0 < 28 ∧ o + 28 ≤ (blk w g).size then .ok (.agg (span (blk w g) o 28)) w else loadPartOdd Try.prog w 53 g o 28 := loadPart_if w _ g o 28 rowState
set_option maxRecDepth 3000 in
theorem loadStateR_if : loadPart Try.prog w 100 g o 28 = if 0 < 28 ∧ o + 28 ≤ (blk w g).size then .ok (.agg (span (blk w g) o 28)) w else loadPartOdd Try.prog w 100 g o 28 := loadPart_if w _ g o 28 rowStateR
def stMarks (x v : Value) : Sem Unit := Instr.storeAt 36 x v
set_option maxRecDepth 3000 in
theorem stMarks_eq (x v : Value) : Instr.storeAt 36 x v = stMarks x v := rfl
set_option maxRecDepth 3000 in
theorem storeMarks : (stMarks (.pointer (some ⟨g, o, none⟩)) (.agg c)).run Try.prog w = storePart Try.prog w 36 g o c := rfl
def stState (x v : Value) : Sem Unit := Instr.storeAt 53 x v
set_option maxRecDepth 3000 in
theorem stState_eq (x v : Value) : Instr.storeAt 53 x v = stState x v := rfl
set_option maxRecDepth 3000 in
theorem storeState : (stState (.pointer (some ⟨g, o, none⟩)) (.agg c)).run Try.prog w = storePart Try.prog w 53 g o c := rfl
def stStateR (x v : Value) : Sem Unit := Instr.storeAt 100 x v
set_option maxRecDepth 3000 in
theorem stStateR_eq (x v : Value) : Instr.storeAt 100 x v = stStateR x v := rfl
set_option maxRecDepth 3000 in
theorem storeStateR : (stStateR (.pointer (some ⟨g, o, none⟩)) (.agg c)).run Try.prog w = storePart Try.prog w 100 g o c := rfl
set_option maxRecDepth 3000 in
theorem storeMarks_if (h : OneCells c) : storePart Try.prog w 36 g o c = if 0 < 26 ∧ o + 26 ≤ (blk w g).size ∧ c.size = 26 then .ok () (setBlk w g (over (blk w g) o c)) else storePartOdd Try.prog w 36 g o c := storePart_if w _ g o 26 c rowMarks h
set_option maxRecDepth 3000 in
theorem storeState_if (h : OneCells c) : storePart Try.prog w 53 g o c = if 0 < 28 ∧ o + 28 ≤ (blk w g).size ∧ c.size = 28 then .ok () (setBlk w g (over (blk w g) o c)) else storePartOdd Try.prog w 53 g o c := storePart_if w _ g o 28 c rowState h
set_option maxRecDepth 3000 in
theorem storeStateR_if (h : OneCells c) : storePart Try.prog w 100 g o c = if 0 < 28 ∧ o + 28 ≤ (blk w g).size ∧ c.size = 28 then .ok () (setBlk w g (over (blk w g) o c)) else storePartOdd Try.prog w 100 g o c := storePart_if w _ g o 28 c rowStateR h
end
section
variable {w : World} {g : Nat} {tv last rv dv uv wv hv nv : Value} {cur : Int} {ms : List Int}
set_option maxRecDepth 3000 in
theorem co_cells (hb : blk w g = coC tv cur ms last rv dv uv wv hv nv) (hm : ms.length = 26) : w.cell? ⟨g, 0, none⟩ = some tv ∧ w.cell? ⟨g, 1, none⟩ = some (.int .i64 cur) ∧ w.cell? ⟨g, 28, none⟩ = some last ∧ w.cell? ⟨g, 29, none⟩ = some rv ∧ w.cell? ⟨g, 30, none⟩ = some dv ∧ w.cell? ⟨g, 31, none⟩ = some uv ∧ w.cell? ⟨g, 32, none⟩ = some wv ∧ w.cell? ⟨g, 33, none⟩ = some hv ∧ w.cell? ⟨g, 34, none⟩ = some nv := by
  have hs : 0 < (coC tv cur ms last rv dv uv wv hv nv).size := by simp [coC_size]
  have hc := fun i => Blk.cell hb hs i
  exact ⟨(hc 0).trans (coC_0 _ _ _ _ _ _ _ _ _ _ hm), (hc 1).trans (coC_1 _ _ _ _ _ _ _ _ _ _ hm), (hc 28).trans (coC_tail _ _ _ _ _ _ _ _ _ _ hm 0), (hc 29).trans (coC_tail _ _ _ _ _ _ _ _ _ _ hm 1), (hc 30).trans (coC_tail _ _ _ _ _ _ _ _ _ _ hm 2), (hc 31).trans (coC_tail _ _ _ _ _ _ _ _ _ _ hm 3), (hc 32).trans (coC_tail _ _ _ _ _ _ _ _ _ _ hm 4), (hc 33).trans (coC_tail _ _ _ _ _ _ _ _ _ _ hm 5), (hc 34).trans (coC_tail _ _ _ _ _ _ _ _ _ _ hm 6)⟩
set_option maxRecDepth 3000 in
theorem co_free (hb : blk w g = coC tv cur ms last rv dv uv wv hv nv) (i : Nat) : w.frozen? ⟨g, i, none⟩ = false := Blk.free hb (by simp [coC_size]) i
set_option maxRecDepth 3000 in
theorem co_in (hb : blk w g = coC tv cur ms last rv dv uv wv hv nv) : InHeap g w := Blk.inHeap hb (by simp [coC_size])
end
attribute [local go_sem ↓] ldMarks_eq ldState_eq stMarks_eq stState_eq
attribute [local go_sem] loadMarks loadState storeMarks storeState loadMarks_if loadState_if storeMarks_if storeState_if coC_size coC_marks coC_state
set_option maxRecDepth 3000 in
theorem cell_grows {w w' : World} {a : Addr} {v : Value} (h : w.cell? a = some v) (hg : Grows w w') : w'.cell? a = some v := by
  obtain ⟨m, rfl⟩ := hg
  rw [cell_more _ _ _ (World.block_lt_of_cell? w a h)]
  exact h
set_option maxRecDepth 3000 in
theorem blk_grows {w w' : World} {g : Nat} {c : Array Value} (h : blk w g = c) (hz : 0 < c.size) (hg : Grows w w') : blk w' g = c := by
  obtain ⟨m, rfl⟩ := hg
  rw [blk_more _ _ _ (Blk.inHeap h hz)]
  exact h
set_option maxRecDepth 3000 in
set_option maxHeartbeats 400000 in
theorem coNone_no (g t : Nat) (w : World) (q0 : w.cell? ⟨g, 0, none⟩ = some (.pointer (some ⟨t, 0, none⟩))) : Calls Try.prog 36 #[.pointer (some ⟨g, 0, none⟩)] w fun e w' => e = .returned (.bool false) ∧ w = w' := by
  go_enter Try.func36, Try.ntmps36
  go_wp2_with fail
  go_ret
  exact ⟨rfl, rfl⟩
set_option maxRecDepth 3000 in
set_option maxHeartbeats 400000 in
theorem coNone_nil (w : World) : Calls Try.prog 36 #[.pointer none] w fun e w' => e = .returned (.bool true) ∧ w = w' := by
  go_enter Try.func36, Try.ntmps36
  go_wp2_with fail
  go_ret
  exact ⟨rfl, rfl⟩
set_option maxRecDepth 3000 in
set_option maxHeartbeats 400000 in
theorem coNone_zero (g : Nat) (w : World) (q0 : w.cell? ⟨g, 0, none⟩ = some (.pointer none)) : Calls Try.prog 36 #[.pointer (some ⟨g, 0, none⟩)] w fun e w' => e = .returned (.bool true) ∧ w = w' := by
  go_enter Try.func36, Try.ntmps36
  go_wp2_with fail
  go_ret
  exact ⟨rfl, rfl⟩
set_option maxRecDepth 3000 in
set_option maxHeartbeats 400000 in
theorem coN (g : Nat) (T : Tbl) (w : World) (q0 : w.cell? ⟨g, 0, none⟩ = some (.pointer (some ⟨T.g, 0, none⟩))) (hT : T.ok w) : Calls Try.prog 14 #[.pointer (some ⟨g, 0, none⟩)] w fun e w' => e = .returned (.int .i64 T.L.length) ∧ w = w' := by
  have HT := Lib.hid hT
  clear hT
  go_enter Try.func14, Try.ntmps14
  go_wp2_with fail
  (with_reducible refine (coNone_no g T.g _ q0).mono ?_)
  rintro e w1 ⟨rfl, rfl⟩
  go_wp2_with fail
  (with_reducible refine (len_ptr T _ HT.out).mono ?_)
  rintro e w1 ⟨rfl, rfl⟩
  go_wp2_with fail
  go_ret
  exact ⟨rfl, rfl⟩
set_option maxRecDepth 3000 in
set_option maxHeartbeats 400000 in
theorem coCur (g t : Nat) (cur : Int) (w : World) (q0 : w.cell? ⟨g, 0, none⟩ = some (.pointer (some ⟨t, 0, none⟩))) (q1 : w.cell? ⟨g, 1, none⟩ = some (.int .i64 cur)) : Calls Try.prog 17 #[.pointer (some ⟨g, 0, none⟩)] w fun e w' => e = .returned (.int .i64 cur) ∧ w = w' := by
  go_enter Try.func17, Try.ntmps17
  go_wp2_with fail
  (with_reducible refine (coNone_no g t _ q0).mono ?_)
  rintro e w1 ⟨rfl, rfl⟩
  go_wp2_with fail
  go_ret
  exact ⟨rfl, rfl⟩
set_option maxRecDepth 3000 in
set_option maxHeartbeats 400000 in
theorem coRegs (g t p : Nat) (w : World) (q0 : w.cell? ⟨g, 0, none⟩ = some (.pointer (some ⟨t, 0, none⟩))) (q1 : w.cell? ⟨g, 29, none⟩ = some (.pointer (some ⟨p, 0, none⟩))) : Calls Try.prog 20 #[.pointer (some ⟨g, 0, none⟩)] w fun e w' => e = .returned (.pointer (some ⟨p, 0, none⟩)) ∧ w = w' := by
  go_enter Try.func20, Try.ntmps20
  go_wp2_with fail
  (with_reducible refine (coNone_no g t _ q0).mono ?_)
  rintro e w1 ⟨rfl, rfl⟩
  go_wp2_with fail
  go_ret
  exact ⟨rfl, rfl⟩
set_option maxRecDepth 3000 in
set_option maxHeartbeats 400000 in
theorem coDirty (g t : Nat) (b : Bool) (w : World) (q0 : w.cell? ⟨g, 0, none⟩ = some (.pointer (some ⟨t, 0, none⟩))) (q1 : w.cell? ⟨g, 30, none⟩ = some (.bool b)) : Calls Try.prog 21 #[.pointer (some ⟨g, 0, none⟩)] w fun e w' => e = .returned (.bool b) ∧ w = w' := by
  go_enter Try.func21, Try.ntmps21
  go_wp2_with fail
  (with_reducible refine (coNone_no g t _ q0).mono ?_)
  rintro e w1 ⟨rfl, rfl⟩
  go_wp2_with fail
  go_ret
  exact ⟨rfl, rfl⟩
/-- All lines, in new memory. -/
def NewL2 (d : List (List UInt8)) (w : World) (e : Ending) (w' : World) : Prop := ∃ A cap, e = .returned (.slice A d.length cap) ∧ LRd (fun b => w.heap.size ≤ b) w' A cap d ∧ Grows w w'
set_option maxRecDepth 3000 in
theorem rangeV_all' (d : List (List UInt8)) : rangeV d 1 d.length = d := by simp [rangeV]
set_option maxRecDepth 3000 in
set_option maxHeartbeats 400000 in
theorem coLines (g : Nat) (T : Tbl) (w : World) (q0 : w.cell? ⟨g, 0, none⟩ = some (.pointer (some ⟨T.g, 0, none⟩))) (hT : T.ok w) (n : Int) (hn : n = T.L.length) : Calls Try.prog 16 #[.pointer (some ⟨g, 0, none⟩), .int .i64 1, .int .i64 n] w (NewL2 T.L w) := by
  subst hn
  have HT := Lib.hid hT
  have hs := hT.small
  have hi : Hid (I64 (T.L.length : Int)) := Lib.hid (i64_nat hs)
  clear hT
  go_enter Try.func16, Try.ntmps16
  go_wp2_with fail
  (with_reducible refine (coNone_no g T.g _ q0).mono ?_)
  rintro e w1 ⟨rfl, rfl⟩
  go_wp2_with fail
  (with_reducible refine (lines_ptr T 1 _ _ HT.out i64_one hi.out).mono ?_)
  rw [rangeV_all']
  rintro e w1 ⟨v, rfl, hown, hg⟩
  obtain ⟨A, cap, rfl, hL⟩ := LRd.of_own (ok := fun b => w.heap.size ≤ b) hown (fun b hb => hb)
  have HL := Lib.hid hL
  have HG := Lib.hid hg
  clear hown hL hg
  go_wp2_with fail
  go_ret
  exact ⟨A, cap, rfl, HL.out, HG.out⟩
/-- The cells of a view. -/
def viC (v : Value) (cur : Int) (ms : List Int) (last : Value) : Array Value := stC v cur ms ++ #[last]
set_option maxRecDepth 3000 in
theorem viC_size (v : Value) (cur : Int) (ms : List Int) (last : Value) : (viC v cur ms last).size = ms.length + 3 := by simp [viC, stC_size]
set_option maxRecDepth 3000 in
theorem viC_one (A : Option Addr) (n c : Nat) (cur : Int) (ms : List Int) (s : ByteArray) : OneCells (viC (.slice A n c) cur ms (.string s)) := by
  have := stC_one (.slice A n c) cur ms rfl
  unfold OneCells at *
  have h2 : (Value.string s).oneCell' = true := rfl
  simp [viC, this, h2]
set_option maxRecDepth 3000 in
theorem zeroView (w : World) : (zeroValue 38).run Try.prog w = .ok (.agg (viC (.slice none 0 0) 0 zeros (.string ⟨#[]⟩))) w := by kernel_rfl
def bldView (x : Array (Nat × Value)) : Sem Value := Instr.build 38 x
set_option maxRecDepth 3000 in
theorem bldView_eq (x : Array (Nat × Value)) : Instr.build 38 x = bldView x := rfl
set_option maxRecDepth 3000 in
theorem bldView_run (w : World) (A : Option Addr) (n c : Nat) (cur : Int) (f : Nat → Int) (s : ByteArray) : (bldView #[(0, .slice A n c), (1, .int .i64 cur), (2, .agg (MA (ms26 f))), (3, .string s)]).run Try.prog w = .ok (.agg (viC (.slice A n c) cur (ms26 f) (.string s))) w := by kernel_rfl
set_option maxRecDepth 3000 in
theorem bldView_runL (w : World) (A : Option Addr) (n c : Nat) (cur : Int) (f : Nat → Int) (s : ByteArray) : (bldView #[(0, .slice A n c), (1, .int .i64 cur), (2, .agg (MA (ms26 f)).toList.toArray), (3, .string s)]).run Try.prog w = .ok (.agg (viC (.slice A n c) cur (ms26 f) (.string s))) w := bldView_run w A n c cur f s
set_option maxRecDepth 3000 in
theorem co_range {w : World} {g : Nat} {tv last rv dv uv wv hv nv : Value} {cur : Int} {ms : List Int} (hb : blk w g = coC tv cur ms last rv dv uv wv hv nv) (hm : ms.length = 26) : w.rangeAt g 2 (MA ms).toList := by
  have hs : 0 < (coC tv cur ms last rv dv uv wv hv nv).size := by simp [coC_size]
  have hmk := coC_marks tv cur ms last rv dv uv wv hv nv hm
  generalize coC tv cur ms last rv dv uv wv hv nv = C at hb hs hmk
  intro j v h
  rw [Blk.cell hb hs (2 + j)]
  rw [← hmk] at h
  simp only [span, List.getElem?_take, List.getElem?_drop] at h
  split at h
  · simpa using h
  · cases h
attribute [local go_sem ↓] zeroView bldView_eq
attribute [local go_sem] bldView_run bldView_runL
attribute [local go_sem] viC_size viC_one
set_option maxRecDepth 3000 in
theorem length_ms26 (f : Nat → Int) : (ms26 f).length = 26 := rfl
attribute [local go_sem] length_ms26
/-- What View answers. -/
def ViewOut (L : List (List UInt8)) (cur : Int) (ms : List Int) (last : List UInt8) (w : World) (e : Ending) (w' : World) : Prop := ∃ A cap, e = .returned (.agg (viC (.slice A L.length cap) cur ms (.string (tx last)))) ∧ LRd (fun b => w.heap.size ≤ b) w' A cap L ∧ Grows w w'
set_option maxRecDepth 3000 in
set_option maxHeartbeats 1000000 in
theorem coView' (g : Nat) (T : Tbl) (cur : Int) (f : Nat → Int) (last : List UInt8) (rv dv uv wv hv nv : Value) (w : World) (hb : blk w g = coC (.pointer (some ⟨T.g, 0, none⟩)) cur (ms26 f) (.string (tx last)) rv dv uv wv hv nv) (hT : T.ok w) : Calls Try.prog 10 #[.pointer (some ⟨g, 0, none⟩)] w (ViewOut T.L cur (ms26 f) last w) := by
  have HT := Lib.hid hT
  obtain ⟨q0, q1, q28, -⟩ := co_cells hb rfl
  have ig := co_in hb
  have hu36 := Try.underlying36
  have hi36 : (Try.prog.info? 36).map (·.size) = some (MA (ms26 f)).toList.length := by kernel_rfl
  clear hT
  go_enter Try.func10, Try.ntmps10
  go_wp2_with fail
  (with_reducible refine (coNone_no g T.g _ (by simp [go_sem, ig, q0])).mono ?_)
  rintro e w1 ⟨rfl, rfl⟩
  go_wp2_with fail
  go_region_held3 (fun w' => w'.cell? ⟨g, 0, none⟩ = some (.pointer (some ⟨T.g, 0, none⟩)) ∧ w'.cell? ⟨g, 1, none⟩ = some (.int .i64 cur) ∧ w'.cell? ⟨g, 28, none⟩ = some (.string (tx last)) ∧ w'.rangeAt g 2 (MA (ms26 f)).toList)
    (first | (simp [go_sem, ig, q0, q1, q28]; done) | (exact co_range (show blk _ g = _ by simp [go_sem, ig, hb]; rfl) rfl) | (refine ⟨?_, ?_, ?_, co_range (show blk _ g = _ by simp [go_sem, ig, hb]; rfl) rfl⟩ <;> (simp [go_sem, ig, q0, q1, q28]; done)))
    (first | (go_at_call 14; (refine Calls.mono (coN g T _ (cell_grows q0 ?_) (HT.out.grows ?_)) ?_); (repeat' first | exact Grows.refl _ | refine Grows.more ?_ _ | refine Grows.alloc ?_ _ | refine Grows.drew ?_); rintro e w2 ⟨rfl, hw2⟩; have hw2 := hw2.symm; subst hw2) | (go_at_call 16; (refine Calls.mono (coLines g T _ (cell_grows q0 ?_) (HT.out.grows ?_) _ rfl) ?_); (repeat' first | exact Grows.refl _ | refine Grows.more ?_ _ | refine Grows.alloc ?_ _ | refine Grows.drew ?_); rintro e w2 ⟨A, cap, rfl, hL, m, rfl⟩; have hL := Lib.hid hL))
  go_wp2_with fail
  exact bodyPost_ret (v := .agg (viC (.slice A T.L.length cap) cur (ms26 f) (.string (tx last)))) (by simp [results, Try.results10, go_sem]) rfl ⟨A, cap, rfl, (hL.out.chg (chg_box _ _ _) (fun b _ hb hp => by simp at hb hp; omega)).mono (fun b _ hb => by simp at hb; omega), by repeat' first | exact Grows.refl _ | refine Grows.more ?_ _ | refine Grows.alloc ?_ _⟩
set_option maxRecDepth 3000 in
theorem coView (g : Nat) (T : Tbl) (cur : Int) (ms : List Int) (last : List UInt8) (rv dv uv wv hv nv : Value) (w : World) (hm : ms.length = 26) (hb : blk w g = coC (.pointer (some ⟨T.g, 0, none⟩)) cur ms (.string (tx last)) rv dv uv wv hv nv) (hT : T.ok w) : Calls Try.prog 10 #[.pointer (some ⟨g, 0, none⟩)] w (ViewOut T.L cur ms last w) := by
  obtain ⟨f, rfl⟩ := ms26_eq hm
  exact coView' g T cur f last rv dv uv wv hv nv w hb hT
end Go.Proofs.Ythanghgfakibnaa
