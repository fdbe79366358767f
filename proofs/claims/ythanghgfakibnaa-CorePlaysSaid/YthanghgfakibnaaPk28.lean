/-
  Several texts of the proof: CoreAsk, CoreDo.
-/
import Derived.Test.YthanghgfakibnaaPk26
import Derived.Test.YthanghgfakibnaaPk27
import Derived.Test.YthanghgfakibnaaPk24
/-
  Core: what is asked of a buffer: walks.
-/
namespace Go.Proofs.Ythanghgfakibnaa
open Go.RowKit

set_option maxRecDepth 3000 in
theorem i64_one : I64 1 := by unfold I64; omega
/-- Marks by a function. -/
def ms26 (f : Nat → Int) : List Int := [f 0, f 1, f 2, f 3, f 4, f 5, f 6, f 7, f 8, f 9, f 10, f 11, f 12, f 13, f 14, f 15, f 16, f 17, f 18, f 19, f 20, f 21, f 22, f 23, f 24, f 25]
set_option maxRecDepth 3000 in
theorem ms26_eq {ms : List Int} (h : ms.length = 26) : ∃ f, ms = ms26 f := by
  refine ⟨fun i => ms.getD i 0, ?_⟩
  match ms, h with
  | [a0, a1, a2, a3, a4, a5, a6, a7, a8, a9, a10, a11, a12, a13, a14, a15, a16, a17, a18, a19, a20, a21, a22, a23, a24, a25], _ => rfl
set_option maxRecDepth 3000 in
theorem rowMarks : RowOf Try.prog 36 26 := ⟨_, Try.underlying36, rfl, by kernel_rfl⟩
set_option maxRecDepth 3000 in
theorem rowState : RowOf Try.prog 53 28 := ⟨_, Try.underlying53, rfl, by kernel_rfl⟩
set_option maxRecDepth 3000 in
theorem rowStateR : RowOf Try.prog 100 28 := ⟨_, Try.underlying100, rfl, by kernel_rfl⟩
section
variable (w : World) (g o : Nat) (c : Array Value)
def ldMarks (x : Value) : Sem Value := Instr.loadAt 36 x
set_option maxRecDepth 3000 in
theorem ldMarks_eq (x : Value) : Instr.loadAt 36 x = ldMarks x := rfl
set_option maxRecDepth 3000 in
theorem loadMarks : (ldMarks (.pointer (some ⟨g, o, none⟩))).run Try.prog w = loadPart Try.prog w 36 g o 26 := rfl
def ldState (x : Value) : Sem Value := Instr.loadAt 53 x
set_option maxRecDepth 3000 in
theorem ldState_eq (x : Value) : Instr.loadAt 53 x = ldState x := rfl
set_option maxRecDepth 3000 in
theorem loadState : (ldState (.pointer (some ⟨g, o, none⟩))).run Try.prog w = loadPart Try.prog w 53 g o 28 := rfl
def ldStateR (x : Value) : Sem Value := Instr.loadAt 100 x
set_option maxRecDepth 3000 in
theorem ldStateR_eq (x : Value) : Instr.loadAt 100 x = ldStateR x := rfl
set_option maxRecDepth 3000 in
theorem loadStateR : (ldStateR (.pointer (some ⟨g, o, none⟩))).run Try.prog w = loadPart Try.prog w 100 g o 28 := rfl
set_option maxRecDepth 3000 in
theorem loadMarks_if : loadPart Try.prog w 36 g o 26 = if 0 < 26 ∧ o + 26 ≤ (blk w g).size then .ok (.agg (span (blk w g) o 26)) w else loadPartOdd Try.prog w 36 g o 26 := loadPart_if w _ g o 26 rowMarks
set_option maxRecDepth 3000 in
theorem loadState_if : loadPart Try.prog w 53 g o 28 = if 0 < 28 ∧ o + 28 ≤ (blk w g).size then .ok (.agg (span (blk w g) o 28)) w else loadPartOdd Try.prog w 53 g o 28 := loadPart_if w _ g o 28 rowState
set_option maxRecDepth 3000 in
theorem loadStateR_if : loadPart Try.prog w 100 g o 28 = if 0 < 28 ∧ o + 28 ≤ (blk w g).size then .ok (.agg (span (blk w g) o 28)) w else loadPartOdd Try.prog w 100 g o 28 := loadPart_if w _ g o 28 rowStateR
def stMarks (x v : Value) : Sem Unit := Instr.storeAt 36 x v
set_option maxRecDepth 3000 in
theorem stMarks_eq (x v : Value) : Instr.storeAt 36 x v = stMarks x v := rfl
set_option maxRecDepth 3000 in
theorem storeMarks : (stMarks (.pointer (some ⟨g, o, none⟩)) (.agg c)).run Try.prog w = storePart Try.prog w 36 g o c := rfl
def stState (x v : Value) : Sem Unit := Instr.storeAt 53 x v
set_option maxRecDepth 3000 in
theorem stState_eq (x v : Value) : Instr.storeAt 53 x v = stState x v := rfl
set_option maxRecDepth 3000 in
theorem storeState : (stState (.pointer (some ⟨g, o, none⟩)) (.agg c)).run Try.prog w = storePart Try.prog w 53 g o c := rfl
def stStateR (x v : Value) : Sem Unit := Instr.storeAt 100 x v
set_option maxRecDepth 3000 in
theorem stStateR_eq (x v : Value) : Instr.storeAt 100 x v = stStateR x v := rfl
set_option maxRecDepth 3000 in
theorem storeStateR : (stStateR (.pointer (some ⟨g, o, none⟩)) (.agg c)).run Try.prog w = storePart Try.prog w 100 g o c := rfl
set_option maxRecDepth 3000 in
theorem storeMarks_if (h : OneCells c) : storePart Try.prog w 36 g o c = if 0 < 26 ∧ o + 26 ≤ (blk w g).size ∧ c.size = 26 then .ok () (setBlk w g (over (blk w g) o c)) else storePartOdd Try.prog w 36 g o c := storePart_if w _ g o 26 c rowMarks h
set_option maxRecDepth 3000 in
theorem storeState_if (h : OneCells c) : storePart Try.prog w 53 g o c = if 0 < 28 ∧ o + 28 ≤ (blk w g).size ∧ c.size = 28 then .ok () (setBlk w g (over (blk w g) o c)) else storePartOdd Try.prog w 53 g o c := storePart_if w _ g o 28 c rowState h
set_option maxRecDepth 3000 in
theorem storeStateR_if (h : OneCells c) : storePart Try.prog w 100 g o c = if 0 < 28 ∧ o + 28 ≤ (blk w g).size ∧ c.size = 28 then .ok () (setBlk w g (over (blk w g) o c)) else storePartOdd Try.prog w 100 g o c := storePart_if w _ g o 28 c rowStateR h
end
section
variable {w : World} {g : Nat} {tv last rv dv uv wv hv nv : Value} {cur : Int} {ms : List Int}
set_option maxRecDepth 3000 in
theorem co_cells (hb : blk w g = coC tv cur ms last rv dv uv wv hv nv) (hm : ms.length = 26) : w.cell? ⟨g, 0, none⟩ = some tv ∧ w.cell? ⟨g, 1, none⟩ = some (.int .i64 cur) ∧ w.cell? ⟨g, 28, none⟩ = some last ∧ w.cell? ⟨g, 29, none⟩ = some rv ∧ w.cell? ⟨g, 30, none⟩ = some dv ∧ w.cell? ⟨g, 31, none⟩ = some uv ∧ w.cell? ⟨g, 32, none⟩ = some wv ∧ w.cell? ⟨g, 33, none⟩ = some hv ∧ w.cell? ⟨g, 34, none⟩ = some nv := by
  have hs : 0 < (coC tv cur ms last rv dv uv wv hv nv).size := by simp [coC_size]
  have hc := fun i => Blk.cell hb hs i
  exact ⟨(hc 0).trans (coC_0 _ _ _ _ _ _ _ _ _ _ hm), (hc 1).trans (coC_1 _ _ _ _ _ _ _ _ _ _ hm), (hc 28).trans (coC_tail _ _ _ _ _ _ _ _ _ _ hm 0), (hc 29).trans (coC_tail _ _ _ _ _ _ _ _ _ _ hm 1), (hc 30).trans (coC_tail _ _ _ _ _ _ _ _ _ _ hm 2), (hc 31).trans (coC_tail _ _ _ _ _ _ _ _ _ _ hm 3), (hc 32).trans (coC_tail _ _ _ _ _ _ _ _ _ _ hm 4), (hc 33).trans (coC_tail _ _ _ _ _ _ _ _ _ _ hm 5), (hc 34).trans (coC_tail _ _ _ _ _ _ _ _ _ _ hm 6)⟩
set_option maxRecDepth 3000 in
theorem co_free (hb : blk w g = coC tv cur ms last rv dv uv wv hv nv) (i : Nat) : w.frozen? ⟨g, i, none⟩ = false := Blk.free hb (by simp [coC_size]) i
set_option maxRecDepth 3000 in
theorem co_in (hb : blk w g = coC tv cur ms last rv dv uv wv hv nv) : InHeap g w := Blk.inHeap hb (by simp [coC_size])
end
attribute [local go_sem ↓] ldMarks_eq ldState_eq stMarks_eq stState_eq
attribute [local go_sem] loadMarks loadState storeMarks storeState loadMarks_if loadState_if storeMarks_if storeState_if coC_size coC_marks coC_state
set_option maxRecDepth 3000 in
theorem cell_grows {w w' : World} {a : Addr} {v : Value} (h : w.cell? a = some v) (hg : Grows w w') : w'.cell? a = some v := by
  obtain ⟨m, rfl⟩ := hg
  rw [cell_more _ _ _ (World.block_lt_of_cell? w a h)]
  exact h
set_option maxRecDepth 3000 in
theorem blk_grows {w w' : World} {g : Nat} {c : Array Value} (h : blk w g = c) (hz : 0 < c.size) (hg : Grows w w') : blk w' g = c := by
  obtain ⟨m, rfl⟩ := hg
  rw [blk_more _ _ _ (Blk.inHeap h hz)]
  exact h
set_option maxRecDepth 3000 in
set_option maxHeartbeats 400000 in
theorem coNone_no (g t : Nat) (w : World) (q0 : w.cell? ⟨g, 0, none⟩ = some (.pointer (some ⟨t, 0, none⟩))) : Calls Try.prog 36 #[.pointer (some ⟨g, 0, none⟩)] w fun e w' => e = .returned (.bool false) ∧ w = w' := by
  go_enter Try.func36, Try.ntmps36
  go_wp2_with fail
  go_ret
  exact ⟨rfl, rfl⟩
set_option maxRecDepth 3000 in
set_option maxHeartbeats 400000 in
theorem coNone_nil (w : World) : Calls Try.prog 36 #[.pointer none] w fun e w' => e = .returned (.bool true) ∧ w = w' := by
  go_enter Try.func36, Try.ntmps36
  go_wp2_with fail
  go_ret
  exact ⟨rfl, rfl⟩
set_option maxRecDepth 3000 in
set_option maxHeartbeats 400000 in
theorem coNone_zero (g : Nat) (w : World) (q0 : w.cell? ⟨g, 0, none⟩ = some (.pointer none)) : Calls Try.prog 36 #[.pointer (some ⟨g, 0, none⟩)] w fun e w' => e = .returned (.bool true) ∧ w = w' := by
  go_enter Try.func36, Try.ntmps36
  go_wp2_with fail
  go_ret
  exact ⟨rfl, rfl⟩
set_option maxRecDepth 3000 in
set_option maxHeartbeats 400000 in
theorem coN (g : Nat) (T : Tbl) (w : World) (q0 : w.cell? ⟨g, 0, none⟩ = some (.pointer (some ⟨T.g, 0, none⟩))) (hT : T.ok w) : Calls Try.prog 14 #[.pointer (some ⟨g, 0, none⟩)] w fun e w' => e = .returned (.int .i64 T.L.length) ∧ w = w' := by
  have HT := Lib.hid hT
  clear hT
  go_enter Try.func14, Try.ntmps14
  go_wp2_with fail
  (with_reducible refine (coNone_no g T.g _ q0).mono ?_)
  rintro e w1 ⟨rfl, rfl⟩
  go_wp2_with fail
  (with_reducible refine (len_ptr T _ HT.out).mono ?_)
  rintro e w1 ⟨rfl, rfl⟩
  go_wp2_with fail
  go_ret
  exact ⟨rfl, rfl⟩
set_option maxRecDepth 3000 in
set_option maxHeartbeats 400000 in
theorem coCur (g t : Nat) (cur : Int) (w : World) (q0 : w.cell? ⟨g, 0, none⟩ = some (.pointer (some ⟨t, 0, none⟩))) (q1 : w.cell? ⟨g, 1, none⟩ = some (.int .i64 cur)) : Calls Try.prog 17 #[.pointer (some ⟨g, 0, none⟩)] w fun e w' => e = .returned (.int .i64 cur) ∧ w = w' := by
  go_enter Try.func17, Try.ntmps17
  go_wp2_with fail
  (with_reducible refine (coNone_no g t _ q0).mono ?_)
  rintro e w1 ⟨rfl, rfl⟩
  go_wp2_with fail
  go_ret
  exact ⟨rfl, rfl⟩
set_option maxRecDepth 3000 in
set_option maxHeartbeats 400000 in
theorem coRegs (g t p : Nat) (w : World) (q0 : w.cell? ⟨g, 0, none⟩ = some (.pointer (some ⟨t, 0, none⟩))) (q1 : w.cell? ⟨g, 29, none⟩ = some (.pointer (some ⟨p, 0, none⟩))) : Calls Try.prog 20 #[.pointer (some ⟨g, 0, none⟩)] w fun e w' => e = .returned (.pointer (some ⟨p, 0, none⟩)) ∧ w = w' := by
  go_enter Try.func20, Try.ntmps20
  go_wp2_with fail
  (with_reducible refine (coNone_no g t _ q0).mono ?_)
  rintro e w1 ⟨rfl, rfl⟩
  go_wp2_with fail
  go_ret
  exact ⟨rfl, rfl⟩
set_option maxRecDepth 3000 in
set_option maxHeartbeats 400000 in
theorem coDirty (g t : Nat) (b : Bool) (w : World) (q0 : w.cell? ⟨g, 0, none⟩ = some (.pointer (some ⟨t, 0, none⟩))) (q1 : w.cell? ⟨g, 30, none⟩ = some (.bool b)) : Calls Try.prog 21 #[.pointer (some ⟨g, 0, none⟩)] w fun e w' => e = .returned (.bool b) ∧ w = w' := by
  go_enter Try.func21, Try.ntmps21
  go_wp2_with fail
  (with_reducible refine (coNone_no g t _ q0).mono ?_)
  rintro e w1 ⟨rfl, rfl⟩
  go_wp2_with fail
  go_ret
  exact ⟨rfl, rfl⟩
/-- All lines, in new memory. -/
def NewL2 (d : List (List UInt8)) (w : World) (e : Ending) (w' : World) : Prop := ∃ A cap, e = .returned (.slice A d.length cap) ∧ LRd (fun b => w.heap.size ≤ b) w' A cap d ∧ Grows w w'
set_option maxRecDepth 3000 in
theorem rangeV_all' (d : List (List UInt8)) : rangeV d 1 d.length = d := by simp [rangeV]
set_option maxRecDepth 3000 in
set_option maxHeartbeats 400000 in
theorem coLines (g : Nat) (T : Tbl) (w : World) (q0 : w.cell? ⟨g, 0, none⟩ = some (.pointer (some ⟨T.g, 0, none⟩))) (hT : T.ok w) (n : Int) (hn : n = T.L.length) : Calls Try.prog 16 #[.pointer (some ⟨g, 0, none⟩), .int .i64 1, .int .i64 n] w (NewL2 T.L w) := by
  subst hn
  have HT := Lib.hid hT
  have hs := hT.small
  have hi : Hid (I64 (T.L.length : Int)) := Lib.hid (i64_nat hs)
  clear hT
  go_enter Try.func16, Try.ntmps16
  go_wp2_with fail
  (with_reducible refine (coNone_no g T.g _ q0).mono ?_)
  rintro e w1 ⟨rfl, rfl⟩
  go_wp2_with fail
  (with_reducible refine (lines_ptr T 1 _ _ HT.out i64_one hi.out).mono ?_)
  rw [rangeV_all']
  rintro e w1 ⟨v, rfl, hown, hg⟩
  obtain ⟨A, cap, rfl, hL⟩ := LRd.of_own (ok := fun b => w.heap.size ≤ b) hown (fun b hb => hb)
  have HL := Lib.hid hL
  have HG := Lib.hid hg
  clear hown hL hg
  go_wp2_with fail
  go_ret
  exact ⟨A, cap, rfl, HL.out, HG.out⟩
/-- The cells of a view. -/
def viC (v : Value) (cur : Int) (ms : List Int) (last : Value) : Array Value := stC v cur ms ++ #[last]
set_option maxRecDepth 3000 in
theorem viC_size (v : Value) (cur : Int) (ms : List Int) (last : Value) : (viC v cur ms last).size = ms.length + 3 := by simp [viC, stC_size]
set_option maxRecDepth 3000 in
theorem viC_one (A : Option Addr) (n c : Nat) (cur : Int) (ms : List Int) (s : ByteArray) : OneCells (viC (.slice A n c) cur ms (.string s)) := by
  have := stC_one (.slice A n c) cur ms rfl
  unfold OneCells at *
  have h2 : (Value.string s).oneCell' = true := rfl
  simp [viC, this, h2]
set_option maxRecDepth 3000 in
theorem zeroView (w : World) : (zeroValue 38).run Try.prog w = .ok (.agg (viC (.slice none 0 0) 0 zeros (.string ⟨#[]⟩))) w := by kernel_rfl
def bldView (x : Array (Nat × Value)) : Sem Value := Instr.build 38 x
set_option maxRecDepth 3000 in
theorem bldView_eq (x : Array (Nat × Value)) : Instr.build 38 x = bldView x := rfl
set_option maxRecDepth 3000 in
theorem bldView_run (w : World) (A : Option Addr) (n c : Nat) (cur : Int) (f : Nat → Int) (s : ByteArray) : (bldView #[(0, .slice A n c), (1, .int .i64 cur), (2, .agg (MA (ms26 f))), (3, .string s)]).run Try.prog w = .ok (.agg (viC (.slice A n c) cur (ms26 f) (.string s))) w := by kernel_rfl
set_option maxRecDepth 3000 in
theorem bldView_runL (w : World) (A : Option Addr) (n c : Nat) (cur : Int) (f : Nat → Int) (s : ByteArray) : (bldView #[(0, .slice A n c), (1, .int .i64 cur), (2, .agg (MA (ms26 f)).toList.toArray), (3, .string s)]).run Try.prog w = .ok (.agg (viC (.slice A n c) cur (ms26 f) (.string s))) w := bldView_run w A n c cur f s
set_option maxRecDepth 3000 in
theorem co_range {w : World} {g : Nat} {tv last rv dv uv wv hv nv : Value} {cur : Int} {ms : List Int} (hb : blk w g = coC tv cur ms last rv dv uv wv hv nv) (hm : ms.length = 26) : w.rangeAt g 2 (MA ms).toList := by
  have hs : 0 < (coC tv cur ms last rv dv uv wv hv nv).size := by simp [coC_size]
  have hmk := coC_marks tv cur ms last rv dv uv wv hv nv hm
  generalize coC tv cur ms last rv dv uv wv hv nv = C at hb hs hmk
  intro j v h
  rw [Blk.cell hb hs (2 + j)]
  rw [← hmk] at h
  simp only [span, List.getElem?_take, List.getElem?_drop] at h
  split at h
  · simpa using h
  · cases h
attribute [local go_sem ↓] zeroView bldView_eq
attribute [local go_sem] bldView_run bldView_runL
attribute [local go_sem] viC_size viC_one
set_option maxRecDepth 3000 in
theorem length_ms26 (f : Nat → Int) : (ms26 f).length = 26 := rfl
attribute [local go_sem] length_ms26
/-- What View answers. -/
def ViewOut (L : List (List UInt8)) (cur : Int) (ms : List Int) (last : List UInt8) (w : World) (e : Ending) (w' : World) : Prop := ∃ A cap, e = .returned (.agg (viC (.slice A L.length cap) cur ms (.string (tx last)))) ∧ LRd (fun b => w.heap.size ≤ b) w' A cap L ∧ Grows w w'
set_option maxRecDepth 3000 in
set_option maxHeartbeats 1000000 in
theorem coView' (g : Nat) (T : Tbl) (cur : Int) (f : Nat → Int) (last : List UInt8) (rv dv uv wv hv nv : Value) (w : World) (hb : blk w g = coC (.pointer (some ⟨T.g, 0, none⟩)) cur (ms26 f) (.string (tx last)) rv dv uv wv hv nv) (hT : T.ok w) : Calls Try.prog 10 #[.pointer (some ⟨g, 0, none⟩)] w (ViewOut T.L cur (ms26 f) last w) := by
  have HT := Lib.hid hT
  obtain ⟨q0, q1, q28, -⟩ := co_cells hb rfl
  have ig := co_in hb
  have hu36 := Try.underlying36
  have hi36 : (Try.prog.info? 36).map (·.size) = some (MA (ms26 f)).toList.length := by kernel_rfl
  clear hT
  go_enter Try.func10, Try.ntmps10
  go_wp2_with fail
  (with_reducible refine (coNone_no g T.g _ (by simp [go_sem, ig, q0])).mono ?_)
  rintro e w1 ⟨rfl, rfl⟩
  go_wp2_with fail
  go_region_held3 (fun w' => w'.cell? ⟨g, 0, none⟩ = some (.pointer (some ⟨T.g, 0, none⟩)) ∧ w'.cell? ⟨g, 1, none⟩ = some (.int .i64 cur) ∧ w'.cell? ⟨g, 28, none⟩ = some (.string (tx last)) ∧ w'.rangeAt g 2 (MA (ms26 f)).toList)
    (first | (simp [go_sem, ig, q0, q1, q28]; done) | (exact co_range (show blk _ g = _ by simp [go_sem, ig, hb]; rfl) rfl) | (refine ⟨?_, ?_, ?_, co_range (show blk _ g = _ by simp [go_sem, ig, hb]; rfl) rfl⟩ <;> (simp [go_sem, ig, q0, q1, q28]; done)))
    (first | (go_at_call 14; (refine Calls.mono (coN g T _ (cell_grows q0 ?_) (HT.out.grows ?_)) ?_); (repeat' first | exact Grows.refl _ | refine Grows.more ?_ _ | refine Grows.alloc ?_ _ | refine Grows.drew ?_); rintro e w2 ⟨rfl, hw2⟩; have hw2 := hw2.symm; subst hw2) | (go_at_call 16; (refine Calls.mono (coLines g T _ (cell_grows q0 ?_) (HT.out.grows ?_) _ rfl) ?_); (repeat' first | exact Grows.refl _ | refine Grows.more ?_ _ | refine Grows.alloc ?_ _ | refine Grows.drew ?_); rintro e w2 ⟨A, cap, rfl, hL, m, rfl⟩; have hL := Lib.hid hL))
  go_wp2_with fail
  exact bodyPost_ret (v := .agg (viC (.slice A T.L.length cap) cur (ms26 f) (.string (tx last)))) (by simp [results, Try.results10, go_sem]) rfl ⟨A, cap, rfl, (hL.out.chg (chg_box _ _ _) (fun b _ hb hp => by simp at hb hp; omega)).mono (fun b _ hb => by simp at hb; omega), by repeat' first | exact Grows.refl _ | refine Grows.more ?_ _ | refine Grows.alloc ?_ _⟩
set_option maxRecDepth 3000 in
theorem coView (g : Nat) (T : Tbl) (cur : Int) (ms : List Int) (last : List UInt8) (rv dv uv wv hv nv : Value) (w : World) (hm : ms.length = 26) (hb : blk w g = coC (.pointer (some ⟨T.g, 0, none⟩)) cur ms (.string (tx last)) rv dv uv wv hv nv) (hT : T.ok w) : Calls Try.prog 10 #[.pointer (some ⟨g, 0, none⟩)] w (ViewOut T.L cur ms last w) := by
  obtain ⟨f, rfl⟩ := ms26_eq hm
  exact coView' g T cur f last rv dv uv wv hv nv w hb hT
end Go.Proofs.Ythanghgfakibnaa

/-
  Core: Go, Last, Clean, Mark: walks.
-/
namespace Go.Proofs.Ythanghgfakibnaa
open Go.RowKit

set_option maxRecDepth 3000 in
theorem co_put {w : World} {g : Nat} {c : Array Value} (hb : blk w g = c) (hz : 0 < c.size) (i : Nat) (v : Value) : blk (w.setCell ⟨g, i, none⟩ v) g = c.setIfInBounds i v := by
  rw [Blk.set hb hz, Blk.get _ hb hz]
set_option maxRecDepth 3000 in
theorem span_MA {ms : List Int} (h : ms.length = 26) : span (MA ms) 0 26 = MA ms := by
  apply Array.toList_inj.1
  simp only [span, List.drop_zero]
  exact List.take_of_length_le (by simp [MA, h])
set_option maxRecDepth 3000 in
theorem chg_one {w : World} {g i : Nat} {v : Value} {K : Nat → Prop} (hk : K g) : Chg K w (w.setCell ⟨g, i, none⟩ v) := Chg.setCell (p := K) (a := ⟨g, i, none⟩) hk v
set_option maxRecDepth 3000 in
theorem chg_setBlk {w : World} {g : Nat} {c : Array Value} {K : Nat → Prop} (hk : K g) : Chg K w (setBlk w g c) := by
  refine ⟨rfl, rfl, rfl, by simp, fun b _ hp => ?_⟩
  have hne : g ≠ b := fun e => hp (e ▸ hk)
  show (w.heap.modify g _)[b]? = w.heap[b]?
  rw [Array.getElem?_modify, if_neg hne]
section
variable {base : Nat} {ok K : Nat → Prop} {w : World} {g r r2 : Nat} {c : CoV} {tv rv uv wv hv dv : Value} {D : List Spx}
set_option maxRecDepth 3000 in
set_option maxHeartbeats 1000000 in
theorem go_any (h : CoreM kI base ok K w g c tv rv uv wv hv dv r r2 D) (line : Int) (hl : I64 line) :
    Calls Try.prog 18 #[.pointer (some ⟨g, 0, none⟩), .int .i64 line] w fun e w' => e = .returned (.int .i64 (coGo c line).2) ∧ Moved kI base ok K g w (coGo c line).1 w' := by
  have hb := h.cells
  obtain ⟨T, rfl, hT, hTL, -⟩ := h.lines
  have hm := h.good.s.many
  obtain ⟨q0, q1, -⟩ := co_cells hb hm
  have ig := co_in hb
  have f1 := co_free hb 1
  have HM := Lib.hid h
  have HB := Lib.hid hb
  have HT := Lib.hid hT
  have HL := Lib.hid hTL
  have HI := Lib.hid hl
  have hn : T.L.length ≤ 1000000 := hT.small
  clear h hb hm hT hTL hl
  by_cases h1 : line < 0
  · have hV : Hid (coGo c line = (c, 200)) := Lib.hid (by unfold coGo; rw [if_pos (.inl h1)])
    go_enter Try.func18, Try.ntmps18
    go_wp2_with fail
    (with_reducible refine (coNone_no g T.g _ q0).mono ?_)
    rintro e w1 ⟨rfl, rfl⟩
    go_wp2_with fail
    go_ret
    exact ⟨by rw [hV.out]; rfl, by rw [hV.out]; exact HM.out.moved (Chg.refl _ _)⟩
  · by_cases h2 : (T.L.length : Int) < line
    · have hV : Hid (coGo c line = (c, 200)) := Lib.hid (by unfold coGo; rw [if_pos (.inr (by rw [← HL.out]; exact h2))])
      go_enter Try.func18, Try.ntmps18
      go_wp2_with fail
      (with_reducible refine (coNone_no g T.g _ q0).mono ?_)
      rintro e w1 ⟨rfl, rfl⟩
      go_wp2_with fail
      (with_reducible refine (coN g T _ q0 HT.out).mono ?_)
      rintro e w1 ⟨rfl, rfl⟩
      go_wp2_with fail
      go_ret
      exact ⟨by rw [hV.out]; rfl, by rw [hV.out]; exact HM.out.moved (Chg.refl _ _)⟩
    · have hV : Hid (coGo c line = ({ c with s := { c.s with cur := line } }, 0)) := Lib.hid (by unfold coGo; rw [if_neg]; rw [← HL.out]; exact fun h => h.elim h1 h2)
      have hG : Hid ((coGo c line).1.good) := Lib.hid HM.out.good.go
      go_enter Try.func18, Try.ntmps18
      go_wp2_with fail
      (with_reducible refine (coNone_no g T.g _ q0).mono ?_)
      rintro e w1 ⟨rfl, rfl⟩
      go_wp2_with fail
      (with_reducible refine (coN g T _ q0 HT.out).mono ?_)
      rintro e w1 ⟨rfl, rfl⟩
      go_wp2_with fail
      go_ret
      refine ⟨by rw [hV.out]; rfl, ?_⟩
      have hG := hG.out
      rw [hV.out] at hG ⊢
      exact (HM.out.self (c' := { c with s := { c.s with cur := line } }) (chg_one rfl) ((co_put HB.out (by simp [coC_size]) 1 _).trans (coC_set1 _ _ _ _ _ _ _ _ _ _ _ HM.out.good.s.many)) rfl rfl rfl rfl rfl hG).moved (chg_one HM.out.Kg)
set_option maxRecDepth 3000 in
set_option maxHeartbeats 1000000 in
theorem last_any (h : CoreM kI base ok K w g c tv rv uv wv hv dv r r2 D) (re : List UInt8) :
    Calls Try.prog 11 #[.pointer (some ⟨g, 0, none⟩), .string (tx re)] w fun e w' => e = .returned (.tuple #[]) ∧ Moved kI base ok K g w { c with last := re } w' := by
  have hb := h.cells
  obtain ⟨T, rfl, hT, hTL, -⟩ := h.lines
  have hm := h.good.s.many
  obtain ⟨q0, -, q28, -⟩ := co_cells hb hm
  have ig := co_in hb
  have f1 := co_free hb 28
  have HM := Lib.hid h
  have HB := Lib.hid hb
  clear h hb hm hT hTL
  go_enter Try.func11, Try.ntmps11
  go_wp2_with fail
  (with_reducible refine (coNone_no g T.g _ q0).mono ?_)
  rintro e w1 ⟨rfl, rfl⟩
  go_wp2_with fail
  go_end0
  exact ⟨rfl, (HM.out.self (c' := { c with last := re }) (chg_one rfl) ((co_put HB.out (by simp [coC_size]) 28 _).trans (coC_set28 _ _ _ _ _ _ _ _ _ _ _ HM.out.good.s.many)) rfl rfl rfl rfl rfl ⟨HM.out.good.s, HM.out.good.undo, HM.out.good.was, HM.out.good.did⟩).moved (chg_one HM.out.Kg)⟩
set_option maxRecDepth 3000 in
set_option maxHeartbeats 1000000 in
theorem clean_any (h : CoreM kI base ok K w g c tv rv uv wv hv dv r r2 D) :
    Calls Try.prog 12 #[.pointer (some ⟨g, 0, none⟩)] w fun e w' => e = .returned (.tuple #[]) ∧ Moved kI base ok K g w { c with dirty := false } w' := by
  have hb := h.cells
  obtain ⟨T, rfl, hT, hTL, -⟩ := h.lines
  have hm := h.good.s.many
  obtain ⟨q0, -, -, -, q30, -⟩ := co_cells hb hm
  have ig := co_in hb
  have f1 := co_free hb 30
  have HM := Lib.hid h
  have HB := Lib.hid hb
  clear h hb hm hT hTL
  go_enter Try.func12, Try.ntmps12
  go_wp2_with fail
  (with_reducible refine (coNone_no g T.g _ q0).mono ?_)
  rintro e w1 ⟨rfl, rfl⟩
  go_wp2_with fail
  go_end0
  exact ⟨rfl, (HM.out.self (c' := { c with dirty := false }) (chg_one rfl) ((co_put HB.out (by simp [coC_size]) 30 _).trans (coC_set30 _ _ _ _ _ _ _ _ _ _ _ HM.out.good.s.many)) rfl rfl rfl rfl rfl ⟨HM.out.good.s, HM.out.good.undo, HM.out.good.was, HM.out.good.did⟩).moved (chg_one HM.out.Kg)⟩
attribute [local go_sem ↓] ldMarks_eq stMarks_eq zero23
attribute [local go_sem] loadMarks storeMarks loadMarks_if storeMarks_if coC_size coC_marks span_MA coC_overM length_ms26
set_option maxRecDepth 3000 in
theorem setV_len {ms : List Int} (h : ms.length = 26) (c l n : Int) : (setV ms c l n).1.length = 26 := by
  unfold setV
  repeat' split
  · rfl
  · rfl
  · simpa using h
set_option maxRecDepth 3000 in
theorem over_MA {a b : List Int} (ha : a.length = 26) (hb : b.length = 26) : over (MA a) 0 (MA b) = MA b := by
  apply Array.toList_inj.1
  simp [over, MA, ha, hb]
set_option maxRecDepth 3000 in
theorem over_Z {b : List Int} (hb : b.length = 26) : over (MA zeros) 0 (MA b) = MA b := over_MA rfl hb
attribute [local go_sem] over_Z
set_option maxRecDepth 3000 in
theorem CoreM.moved2' (h : CoreM kI base ok K w g c tv rv uv wv hv dv r r2 D) {w' : World} (hg : Grows w w') : Moved kI base ok K g w c w' := (h.grows hg).moved (Chg.of_grows hg)
set_option maxRecDepth 3000 in
theorem mark_fin (h : CoreM kI base ok K w g c tv rv uv wv hv dv r r2 D) {ms' : List Int} (hl : ms'.length = 26) {w' : World} (hG : (({ c with s := { c.s with ms := ms' } }, (0 : Int)) : CoV × Int).1.good) (hg : Grows (setBlk w g (coC tv c.s.cur ms' (.string (tx c.last)) rv (.bool c.dirty) uv wv hv dv)) w') :
    Moved kI base ok K g w ({ c with s := { c.s with ms := ms' } }, (0 : Int)).1 w' := by
  have hz : 0 < (coC tv c.s.cur ms' (.string (tx c.last)) rv (.bool c.dirty) uv wv hv dv).size := by simp [coC_size]
  refine (h.self (c' := { c with s := { c.s with ms := ms' } }) ((chg_setBlk (K := fun b => b = g) rfl).trans (Chg.of_grows hg)) ?_ rfl rfl rfl rfl rfl hG).moved ((chg_setBlk h.Kg).trans (Chg.of_grows hg))
  exact blk_grows (Blk.get _ h.cells (by simp [coC_size])) hz hg
set_option maxRecDepth 3000 in
theorem coN_q {T : Tbl} {m : More} (q0 : w.cell? ⟨g, 0, none⟩ = some (.pointer (some ⟨T.g, 0, none⟩))) (hT : T.ok w) : Calls Try.prog 14 #[.pointer (some ⟨g, 0, none⟩)] (more w m) fun e w'' => e = .returned (.int .i64 T.L.length) ∧ ∃ k, w'' = more w k :=
  calls_grows ((coN g T _ (cell_grows q0 (Grows.of _ _)) (hT.grows (Grows.of _ _))).mono fun e w' h => ⟨h.1, h.2 ▸ Grows.refl _⟩)
set_option maxRecDepth 3000 in
set_option maxHeartbeats 2000000 in
theorem mark_any (h : CoreM kI base ok K w g c tv rv uv wv hv dv r r2 D) (letter line : Int) (h0 : 0 ≤ letter) (h1 : letter ≤ 255) :
    Calls Try.prog 19 #[.pointer (some ⟨g, 0, none⟩), .int .u8 letter, .int .i64 line] w fun e w' => e = .returned (.int .i64 (coMark c letter line).2) ∧ Moved kI base ok K g w (coMark c letter line).1 w' := by
  have hb := h.cells
  obtain ⟨T, rfl, hT, hTL, -⟩ := h.lines
  have hm := h.good.s.many
  obtain ⟨q0, -⟩ := co_cells hb hm
  have ig := co_in hb
  have HM := Lib.hid h
  have HT := Lib.hid hT
  have hsl : ∀ l n, (setV c.s.ms l line n).1.length = 26 := fun l n => setV_len hm l line n
  have hV : Hid (coMark c letter line = if (setV c.s.ms letter line T.L.length).2 = 0 then ({ c with s := { c.s with ms := (setV c.s.ms letter line T.L.length).1 } }, 0) else (c, (setV c.s.ms letter line T.L.length).2)) := Lib.hid (by unfold coMark; rw [← hTL])
  have hG : Hid ((coMark c letter line).1.good) := Lib.hid HM.out.good.mark
  have hS : Hid (∀ w, Calls Try.prog 40 #[.agg (MA c.s.ms), .int .u8 letter, .int .i64 line, .int .i64 T.L.length] w fun e w' => e = .returned (.tuple #[.agg (MA (setV c.s.ms letter line T.L.length).1), .int .i64 (setV c.s.ms letter line T.L.length).2]) ∧ Grows w w') := Lib.hid (fun w => markSet_any c.s.ms letter line T.L.length w hm h0 h1)
  have hsl2 := hsl letter T.L.length
  clear h hT hTL hsl
  generalize setV c.s.ms letter line T.L.length = y at *
  obtain ⟨ms', er⟩ := y
  have hsl2 : ms'.length = 26 := hsl2
  go_enter Try.func19, Try.ntmps19
  go_wp2_with fail
  (with_reducible refine (coNone_no g T.g _ q0).mono ?_)
  rintro e w1 ⟨rfl, rfl⟩
  go_upto_region 3 with fail
  go_region_law (first
    | (go_simp; (with_reducible refine Calls.mono (coN g T _ (cell_grows q0 ?_) (HT.out.grows ?_)) ?_); (repeat' first | exact Grows.refl _ | refine Grows.more ?_ _ | refine Grows.alloc ?_ _ | refine Grows.drew ?_); rintro e w2 ⟨rfl, hw2⟩; have hw2 := hw2.symm; subst hw2; dsimp only)
    | (go_simp; (with_reducible refine Calls.mono (hS.out _) ?_); rintro e w2 ⟨rfl, m2, rfl⟩; dsimp only))
  all_goals
    by_cases h2 : er = 0
    · subst h2
      go_wp2_with fail
      go_ret
      refine ⟨by rw [hV.out]; rfl, ?_⟩
      have hG := hG.out
      rw [hV.out] at hG ⊢
      exact mark_fin HM.out hsl2 hG (by repeat' first | exact Grows.refl _ | refine Grows.more ?_ _ | refine Grows.alloc ?_ _ | refine Grows.drew ?_)
    · go_wp2_with fail
      go_ret
      refine ⟨by rw [hV.out, if_neg h2]; rfl, ?_⟩
      rw [hV.out, if_neg h2]
      exact HM.out.moved2' (by repeat' first | exact Grows.refl _ | refine Grows.more ?_ _ | refine Grows.alloc ?_ _ | refine Grows.drew ?_)
end
end Go.Proofs.Ythanghgfakibnaa
