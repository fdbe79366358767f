/-
  MarksStay: the walk.
-/
import Derived.Test.YthmfhcnminkhaaaMarksStayPlain
import Derived.Test.YthmfhcnminkhaaaBlk
namespace Go.Proofs.Ythmfhcnminkhaaa
open Go.RowKit

/-- The line of a letter. -/
def ltr (k : Nat) : List UInt8 := [UInt8.ofNat (97 + k)]
/-- The first lines. -/
def ltrs (n : Nat) : List (List UInt8) := (List.range n).map ltr
/-- The first marks. -/
def mks (n : Nat) : List Int := (List.range 26).map fun i => if i < n then (i : Int) + 1 else 0
@[simp] theorem length_ltrs (n : Nat) : (ltrs n).length = n := by simp [ltrs]
@[simp, go_sem] theorem length_mks (n : Nat) : (mks n).length = 26 := by simp [mks]
theorem ltrs_succ (n : Nat) : ltrs (n + 1) = ltrs n ++ [ltr n] := by simp [ltrs, List.range_succ]

theorem many_small (many : UInt8) : ∃ n : Nat, (wrap64 (many.toNat : Int)).tmod 27 = n ∧ n ≤ 26 := by
  have h := many.toNat_lt
  have e : wrap64 (many.toNat : Int) = many.toNat := by unfold wrap64; omega
  refine ⟨many.toNat % 27, ?_, by omega⟩
  rw [e]
  exact (Int.ofNat_tmod many.toNat 27).symm
theorem conv_ltr (W : World) (k : Nat) (g : Nat) (h : g = W.heap.size) : (convert 42 9 (.slice (some ⟨g, 0, none⟩) 1 1)).run Try.prog (W.alloc (.cells #[.int .u8 (97 + (k : Int))] 5)) = .ok (.string (tx (ltr k))) (W.alloc (.cells #[.int .u8 (97 + (k : Int))] 5)) := by
  subst h
  have := run_convert_bytes_arg (P := Try.prog) (W.alloc (.cells #[.int .u8 (97 + (k : Int))] 5)) 42 5 Try.underlying42 Try.underlying5 W.heap.size 0 1 1 [97 + (k : Int)] rfl (fun i hi => by
    obtain rfl : i = 0 := by omega
    simp [World.cell?_alloc_new]) 9 Try.underlying9
  rw [this]
  have e : strOfNums [97 + (k : Int)] = tx (ltr k) := by
    apply WideShapes.bytes_inj
    have : (97 + (k : Int)).toNat = 97 + k := by omega
    simp [strOfNums, tx, ltr, this]
  rw [e]
theorem conv_ltr_drew (W : World) (k : Nat) (g : Nat) (h : g = W.heap.size) : (convert 42 9 (.slice (some ⟨g, 0, none⟩) 1 1)).run Try.prog (W.alloc (.cells #[.int .u8 (97 + (k : Int))] 5)).drew = .ok (.string (tx (ltr k))) (W.alloc (.cells #[.int .u8 (97 + (k : Int))] 5)).drew := by
  have e : (W.alloc (.cells #[.int .u8 (97 + (k : Int))] 5)).drew = W.drew.alloc (.cells #[.int .u8 (97 + (k : Int))] 5) := rfl
  rw [e]
  exact conv_ltr W.drew k g h
attribute [local go_sem] conv_ltr conv_ltr_drew
attribute [local go_sem ↓] zero23
theorem mks_zero (k : Nat) (h : k < 26) : (MA (mks k))[k]? = some (.int .i64 0) := by
  simp [MA, mks, h]
theorem blk_grown {W w1 : World} {o p : Obj} {v : Value} {g : Nat} {c : Array Value} (h : ((W.alloc o).alloc p).grownBy w1 v.ownBlock) (hb : blk W g = c) (hg : g < W.heap.size) (hne : some g ≠ v.ownBlock) : blk w1 g = c := by
  have e : w1.heap[g]? = W.heap[g]? := by
    rw [h.block g (by simp; omega) hne]
    rw [heap_alloc_old _ _ (by simp; omega), heap_alloc_old _ _ hg]
  unfold blk at hb ⊢
  rw [e]
  exact hb
theorem mks_succ (k : Nat) (h : k < 26) : (MA (mks k)).setIfInBounds k (.int .i64 ((k : Int) + 1)) = MA (mks (k + 1)) := by
  apply Array.ext_getElem?
  intro i
  rw [Array.getElem?_setIfInBounds]
  simp only [MA, mks, List.getElem?_toArray, List.getElem?_map, List.size_toArray, List.length_map, List.length_range]
  by_cases hi : i < 26
  · rw [List.getElem?_range hi]
    by_cases he : k = i
    · subst he; simp [h]
    · have : (i < k + 1) ↔ i < k := by omega
      simp [he, this]
  · rw [List.getElem?_eq_none (by simp; omega)]
    by_cases he : k = i
    · omega
    · simp [he]
theorem own_setBlk {W : World} {base n g : Nat} {v : Value} {xs : List Value} {c : Array Value} (h : W.ownsRow base 9 1 v n xs) (hg : g < base) : (setBlk W g c).ownsRow base 9 1 v n xs := by
  refine ⟨h.1, h.2.elim Or.inl ?_⟩
  rintro ⟨b, cap, cur, hv, hb, hh, r⟩
  exact Or.inr ⟨b, cap, cur, hv, hb, by unfold setBlk; rw [setRow_other W g b c (by omega)]; exact hh, r⟩
theorem below_setBlk {w W : World} {base g : Nat} {c : Array Value} (h : Below base w W) (hg : base ≤ g) : Below base w (setBlk W g c) :=
  ⟨h.os, h.tape, h.output, by simpa using h.size, fun k hk => by unfold setBlk; rw [setRow_other W g k c (by omega)]; exact h.block k hk⟩
theorem own_below2 {w W w1 : World} {k : Nat} {v : Value} {xs : List Value} {o p : Obj} (hB : Below w.heap.size w W) (hrow : W.ownsRow (w.heap.size + 1) 9 1 v k xs) (hgrow : ((W.alloc o).alloc p).grownBy w1 v.ownBlock) : Below w.heap.size w w1 :=
  ((hB.alloc hB.size o).alloc (by have := hB.size; simp; omega) p).grown hgrow (by have := hB.size; simp; omega) (fun j hj => by have := (hrow.lt j hj).1; omega)
theorem ltrs_line (n : Nat) : ∀ t ∈ ltrs n, t.length = 1 := by
  intro t ht
  simp only [ltrs, List.mem_map] at ht
  obtain ⟨a, _, rfl⟩ := ht
  rfl
theorem ltr_inj {i j : Nat} (hi : i < 26) (hj : j < 26) (h : ltr i = ltr j) : i = j := by
  simp only [ltr, List.cons.injEq, and_true] at h
  have := congrArg UInt8.toNat h
  simp only [UInt8.toNat_ofNat'] at this
  omega
theorem ltrs_get (n i : Nat) : (ltrs n)[i]? = if i < n then some (ltr i) else none := by
  unfold ltrs
  rw [List.getElem?_map]
  split
  · rw [List.getElem?_range (by assumption)]; rfl
  · rw [List.getElem?_eq_none (by simp; omega)]; rfl
theorem mks_place (n : Nat) (hn : n ≤ 26) : ∀ j (h : j < (mks n).length), j < n → AtPlace (ltr j) (ltrs n) (mks n)[j] := by
  intro j h hj
  refine Or.inr ⟨j, by simp [mks, hj], by rw [ltrs_get, if_pos hj], fun i hi => ?_⟩
  rw [ltrs_get] at hi
  split at hi
  · exact ltr_inj (by omega) (by omega) (by simpa using hi)
  · cases hi
theorem mks_none (n : Nat) : ∀ j (h : j < (mks n).length), n ≤ j → (mks n)[j] = 0 := by
  intro j h hj
  have : ¬ j < n := by omega
  simp [mks, this]
/-- What holds behind each splice. -/
structure StayAt (w : World) (n : Nat) (v : Value) (d : List (List UInt8)) (ms : List Int) (wx : World) : Prop where
  row : wx.ownsRow (w.heap.size + 1) 9 1 v d.length (lv d)
  below : Below w.heap.size w wx
  blk : blk wx w.heap.size = MA ms
  size : w.heap.size < wx.heap.size
  len : ms.length = 26
  short : d.length ≤ 2000
  line : ∀ t ∈ d, t.length = 1
  place : ∀ j (h : j < ms.length), j < n → AtPlace (ltr j) d ms[j]
  zero : ∀ j (h : j < ms.length), n ≤ j → ms[j] = 0
theorem blk_below {W W' : World} {g : Nat} (h : Below W.heap.size W W') (hg : g < W.heap.size) : blk W' g = blk W g := by
  unfold blk; rw [h.block g hg]
theorem StayAt.grows {w W W' : World} {n : Nat} {v : Value} {d : List (List UInt8)} {ms : List Int} (h : StayAt w n v d ms W) (hg : Grows W W') : StayAt w n v d ms W' :=
  ⟨own_grows h.row hg, h.below.trans (hg.below.mono h.below.size), (blk_below hg.below h.size).trans h.blk, Nat.lt_of_lt_of_le h.size hg.below.size, h.len, h.short, h.line, h.place, h.zero⟩
theorem StayAt.i64 {w W : World} {n : Nat} {v : Value} {d : List (List UInt8)} {ms : List Int} (h : StayAt w n v d ms W) : ∀ p ∈ ms, I64 p := by
  intro p hp
  obtain ⟨j, hj, rfl⟩ := List.getElem_of_mem hp
  have hs := h.short
  rcases Nat.lt_or_ge j n with k | k
  · have := (h.place j hj k).le
    unfold I64; omega
  · rw [h.zero j hj k]; unfold I64; omega
theorem beyond_len {L : List Spl} {many : Int} (h : beyondV L many = false) (j : Nat) (hj : j < L.length) : L[j].len ≤ 100 := by
  rcases Nat.lt_or_ge 100 L[j].len with k | k
  · rw [beyondV_long L many j hj k] at h; cases h
  · exact k
/-- What is found of a place p among the first j lines. -/
def seenAt (p : Int) (j : Nat) : Int := if p ≤ j then p else 0
theorem seenAt_zero {p : Int} (h : 0 ≤ p) : seenAt p 0 = 0 := by unfold seenAt; split <;> omega
theorem seenAt_all {x : List UInt8} {d : List (List UInt8)} {p : Int} (h : AtPlace x d p) : seenAt p d.length = p := by
  have := h.le
  unfold seenAt; rw [if_pos this.2]
theorem seenAt_yes {x : List UInt8} {d : List (List UInt8)} {p : Int} (h : AtPlace x d p) {j : Nat} (hj : j < d.length) (e : d[j] = x) : seenAt p (j + 1) = j + 1 := by
  have := (h.here j).1 (by rw [List.getElem?_eq_getElem hj, e])
  unfold seenAt; rw [if_pos (by omega)]; exact this
theorem seenAt_no {x : List UInt8} {d : List (List UInt8)} {p : Int} (h : AtPlace x d p) {j : Nat} (hj : j < d.length) (e : d[j] ≠ x) : seenAt p (j + 1) = seenAt p j := by
  have h1 : ¬ p = j + 1 := fun k => e (by
    have := (h.here j).2 k
    rw [List.getElem?_eq_getElem hj] at this
    exact Option.some.inj this)
  have := h.le
  unfold seenAt; split <;> split <;> omega
/-- Lines laid anew. -/
def dashes (c : Nat) : List (List UInt8) := List.replicate c [45]
/-- The splice of the law, while its lines are laid. -/
def DashAt (W : World) (s : Spl) (c : Nat) (wx : World) : Prop :=
  ∃ v, wx.ownsRow (W.heap.size + 1) 9 1 v (dashes c).length (lv (dashes c)) ∧ Below W.heap.size W wx ∧ blk wx W.heap.size = #[.int .i64 s.at_, .int .i64 s.del, v] ∧ W.heap.size < wx.heap.size
theorem own_form {w : World} {base n size : Nat} {e : TypeId} {v : Value} {xs : List Value} (h : w.ownsRow base e size v n xs) : ∃ A cap, v = .slice A n cap := by
  rcases h.2 with ⟨e, h0⟩ | ⟨g, cap, cur, hv, _⟩
  · exact ⟨none, 0, by rw [e, h0]⟩
  · exact ⟨_, cap, hv⟩
theorem blk_grown1 {W w1 : World} {p : Obj} {v : Value} {g : Nat} {c : Array Value} (h : (W.alloc p).grownBy w1 v.ownBlock) (hb : blk W g = c) (hg : g < W.heap.size) (hne : some g ≠ v.ownBlock) : blk w1 g = c := by
  have e : w1.heap[g]? = W.heap[g]? := by
    rw [h.block g (by simp; omega) hne]
    rw [heap_alloc_old _ _ hg]
  unfold blk at hb ⊢
  rw [e]
  exact hb
theorem dash_step {W wx w1 : World} {s : Spl} {c : Nat} {v v' : Value} {o : Obj} (hrow : wx.ownsRow (W.heap.size + 1) 9 1 v (dashes c).length (lv (dashes c))) (hB : Below W.heap.size W wx) (hgs : W.heap.size < wx.heap.size) (hk1 : blk w1 W.heap.size = #[.int .i64 s.at_, .int .i64 s.del, v])
    (hown : w1.ownsRow (W.heap.size + 1) 9 1 v' ((dashes c).length + 1) (lv (dashes c) ++ [.string (tx [45])])) (hgrow : (wx.alloc o).grownBy w1 v.ownBlock) : DashAt W s (c + 1) (setBlk w1 W.heap.size #[.int .i64 s.at_, .int .i64 s.del, v']) := by
  have e : dashes (c + 1) = dashes c ++ [[45]] := by simp [dashes, List.replicate_succ']
  refine ⟨v', own_setBlk (by rw [e, List.length_append, ← lv_snoc]; exact hown) (by omega), below_setBlk ((hB.alloc hB.size o).grown hgrow (by have := hB.size; simp; omega) (fun j hj => by have := (hrow.lt j hj).1; omega)) (Nat.le_refl _), Blk.get _ hk1 (by simp), by simp; have := hgrow.size; simp at this; omega⟩
theorem spAll_dash {d : List (List UInt8)} {s : Spl} {A : Option Addr} {cap : Nat} (h : (spAllV d [⟨s.at_, s.del, A, cap, dashes s.len⟩]).2 = 0) : ∃ a e : Nat, s.at_ = a ∧ s.del = e ∧ a + e ≤ d.length ∧ (spAllV d [⟨s.at_, s.del, A, cap, dashes s.len⟩]).1 = d.take a ++ (dashes s.len ++ d.drop (a + e)) ∧ (spAllV d [⟨s.at_, s.del, A, cap, dashes s.len⟩]).1.length ≤ 2000 := by
  unfold spAllV at h ⊢
  split at h
  · rename_i h1; exact absurd h h1
  · rename_i h1
    rw [if_neg h1]
    simp only [foldV] at h ⊢
    split at h
    · rename_i h2; exact absurd h h2
    · rename_i h2
      rw [if_neg h2]
      have hl := doneV_len d s.at_ s.del (dashes s.len)
      have h2 : (doneV d s.at_ s.del (dashes s.len)).2 = 0 := by simpa using h2
      unfold doneV at h2 hl ⊢
      split at h2
      · rename_i h3; exact absurd h2 h3
      · rename_i h3
        have hmin : ¬ min s.at_ s.del < 0 := by
          intro h; simp [spCheckV, h] at h3
        split at h2
        · cases h2
        · rename_i h4
          split at h2
          · cases h2
          · rename_i h5
            rw [if_neg h3, if_neg h4, if_neg h5] at hl ⊢
            refine ⟨s.at_.toNat, s.del.toNat, by omega, by omega, by omega, ?_, hl⟩
            have : (s.at_ + s.del).toNat = s.at_.toNat + s.del.toNat := by omega
            rw [this]
theorem ltr_dash (j : Nat) (hj : j < 26) (n : Nat) : ∀ t ∈ dashes n, t ≠ ltr j := by
  intro t ht
  rw [List.eq_of_mem_replicate ht]
  intro h
  simp only [ltr, List.cons.injEq, and_true] at h
  have := congrArg UInt8.toNat h
  simp only [UInt8.toNat_ofNat'] at this
  have e : (45 : UInt8).toNat = 45 := rfl
  omega
theorem StayAt.step {w wo wr : World} {n : Nat} {v v' : Value} {d : List (List UInt8)} {ms : List Int} {s : Spl} {A : Option Addr} {cap : Nat} {m : More} (h : StayAt w n v d ms wo) (hn : n ≤ 26) (hz : (spAllV d [⟨s.at_, s.del, A, cap, dashes s.len⟩]).2 = 0) (hok : s.ok) (hl : s.len ≤ 100)
    (hrow : (more wr m).ownsRow (w.heap.size + 1) 9 1 v' (spAllV d [⟨s.at_, s.del, A, cap, dashes s.len⟩]).1.length (lv (spAllV d [⟨s.at_, s.del, A, cap, dashes s.len⟩]).1)) (hb : Go.Proofs.Ythmfhcnminkhaaa.blk wr w.heap.size = MA ms) (hg : Grows wo wr) (m2 : More) :
    StayAt w n v' (spAllV d [⟨s.at_, s.del, A, cap, dashes s.len⟩]).1 (shiftV ms s.at_ s.del ↑(dashes s.len).length) (more (more (setBlk wr w.heap.size (MA (shiftV ms s.at_ s.del ↑(dashes s.len).length))) m) m2) := by
  obtain ⟨a, e, ha, he, hae, hres, hres2⟩ := spAll_dash hz
  have hin : InHeap w.heap.size wr := Nat.lt_of_lt_of_le h.size hg.below.size
  have e1 : more (setBlk wr w.heap.size (MA (shiftV ms s.at_ s.del ↑(dashes s.len).length))) m = setBlk (more wr m) w.heap.size (MA (shiftV ms s.at_ s.del ↑(dashes s.len).length)) := (setBlk_more wr m _ _ hin).symm
  have hg2 : Grows wo (more wr m) := hg.more m
  have hs := h.short
  have hd : (dashes s.len).length = s.len := by simp [dashes]
  refine StayAt.grows ?_ (Grows.of _ m2)
  rw [e1]
  refine ⟨own_setBlk hrow (by omega), below_setBlk (h.below.trans (hg2.below.mono h.below.size)) (Nat.le_refl _), ?_, by have := hg2.below.size; have := h.size; simp [-size_more]; omega, by simp [shiftV, h.len], hres2, ?_, ?_, ?_⟩
  · refine Blk.get (c := MA ms) _ ?_ (by simp [h.len])
    rw [blk_more _ _ _ hin]; exact hb
  · intro t ht
    rw [hres] at ht
    rcases List.mem_append.1 ht with k | k
    · exact h.line t (List.mem_of_mem_take k)
    · rcases List.mem_append.1 k with k | k
      · rw [List.eq_of_mem_replicate k]; rfl
      · exact h.line t (List.mem_of_mem_drop k)
  · intro j hj hjn
    have hj' : j < ms.length := by simpa [shiftV] using hj
    have := (h.place j hj' hjn).step (ins := dashes s.len) hae (ltr_dash j (by omega) _) (by omega) (by omega)
    rw [hres]
    simpa [shiftV, ha, he] using this
  · intro j hj hjn
    have hj' : j < ms.length := by simpa [shiftV] using hj
    have e0 := h.zero j hj' hjn
    simp [shiftV, e0, lineV]
theorem StayAt.check {w W : World} {n : Nat} {v : Value} {d : List (List UInt8)} {ms : List Int} (h : StayAt w n v d ms W) : checkV ms d.length = true := by
  refine checkV_true _ _ fun j hj => ?_
  rcases Nat.lt_or_ge j n with k | k
  · have := (h.place j hj k).le
    omega
  · rw [h.zero j hj k]; omega
theorem dash_ok {w : World} {s : Spl} {A : Option Addr} {cap : Nat} (h : s.ok) (hA : Rd w 1 A (dashes s.len).length (lv (dashes s.len))) (hn : A = none → (dashes s.len).length = 0 ∧ cap = 0) (hl : s.len ≤ 100) : Spx.ok w ⟨s.at_, s.del, A, cap, dashes s.len⟩ :=
  ⟨h.1, h.2.1, hA, hn, by simp [dashes]; omega, fun t ht => by rw [List.eq_of_mem_replicate ht]; simp⟩
theorem apply_dash (Ad : Option Addr) (cd : Nat) (d : List (List UInt8)) (s : Spl) (A : Option Addr) (cap : Nat) (w : World) (hA : Rd w 1 Ad d.length (lv d)) (hnA : Ad = none → d.length = 0 ∧ cd = 0) (hd : d.length ≤ 8000000000000) (hdl : ∀ t ∈ d, t.length ≤ 9223372036854775807) (hs : Spx.ok w ⟨s.at_, s.del, A, cap, dashes s.len⟩) :
    Calls Try.prog 17 #[.slice Ad d.length cd, .agg #[.int .i64 s.at_, .int .i64 s.del, .slice A (dashes s.len).length cap]] w (DonePost (spAllV d [⟨s.at_, s.del, A, cap, dashes s.len⟩]) w) :=
  apply_any Ad cd d ⟨s.at_, s.del, A, cap, dashes s.len⟩ w hA hnA hd hdl hs
set_option maxHeartbeats 2000000 in
set_option maxRecDepth 100000 in
theorem marksStay_any (many : UInt8) (L : List Spl) (A : Option Addr) (cap : Nat) (w : World) (hL : Rd w 3 A L.length (L.flatMap Spl.cells)) (hlen : L.length ≤ 9223372036854775807) (hl : ∀ s ∈ L, s.ok) (hbey : beyondV L 20 = false) :
    Calls Try.prog 5 #[.int .u8 (many.toNat : Int), .slice A L.length cap] w fun e w' => e = .returned (.bool true) ∧ Grows w w' := by
  have HL := Lib.hid hl
  go_enter Try.func5, Try.ntmps5
  go_wp2_with fail
  (with_reducible refine (beyond_any L A cap 20 _ hL hlen (fun s hs => (HL.out s hs).len_le)).mono ?_)
  rw [hbey]
  rintro e w' ⟨rfl, m1, rfl⟩
  go_wp2_with fail
  obtain ⟨n, hn, hn26⟩ := many_small many
  rw [hn]
  clear hn
  obtain ⟨i0, hi, hz0, hz1, hz2⟩ := info_parts infoStr
  go_loopg [6, 8] n (fun q v i wr => ∃ k : Nat, q + k = n ∧ i = .int .i64 k ∧ wr.ownsRow (w.heap.size + 1) 9 1 v (ltrs k).length (lv (ltrs k)) ∧ Below w.heap.size w wr ∧ blk wr w.heap.size = MA (mks k) ∧ w.heap.size < wr.heap.size)
  case atStart => exact ⟨0, by omega, rfl, World.ownsRow_nil _ _ _ _, (Below.refl _ _).alloc (Nat.le_refl _) _, by unfold blk; rw [World.alloc_heap_new]; rfl, by simp⟩
  case round =>
    obtain ⟨k, hq, rfl, hrow, hB, hblk, hgs⟩ := hrel
    have HQ := Lib.hid hq
    have hkn : k ≤ n := by omega
    clear hq
    by_cases h1 : k < n
    · have hlk : (ltrs k).length ≤ 26 := by simp; omega
      have hbs := hB.size
      go_wp2_with (at_builtin; refine wpList_append_own _ rfl (.tmp 28) (.tmp 34) 25 rfl (w.heap.size + 1) 9 i0 (.string ⟨#[]⟩) 1 16 Try.underlying25 hi hz0 hz1 hz2 rfl (by decide) _ _ _ rfl ((hrow.alloc _).alloc _) ⟨wr.heap.size + 1, 0, none⟩ 1 1 [.string (tx (ltr k))] rfl rfl ?c1 (by simp [Value.oneCell']) (by unfold maxLen; omega) (by omega) (by simp; omega) ?_; rotate_left; intro v' w1 hown' hgrow _; have hk1 := blk_grown hgrow hblk hgs (row_past hrow (by omega)); have hc1 : w1.cell? ⟨w.heap.size, k, none⟩ = some (.int .i64 0) := (Blk.cell hk1 (by simp [MA]) k).trans (mks_zero k (by omega)); have hf1 := Blk.free hk1 (by simp [MA]) k; have hs1 := Blk.set hk1 (by simp [MA]) k (.int .i64 ((k : Int) + 1)); have hi1 := Blk.inHeap hk1 (by simp [MA]))
      case c1 =>
        intro j u hu
        match j, hu with
        | 0, hu => simp at hu; subst hu; simp [go_sem]
        | j + 1, hu => simp at hu
      go_roundg (gk - 1)
      case measure => have := HQ.out; omega
      case rel => exact ⟨k + 1, by have := HQ.out; omega, by go_num, own_setBlk (by rw [lv_snoc, ← ltrs_succ] at hown'; simpa using hown') (by omega), below_setBlk (own_below2 hB hrow hgrow) (Nat.le_refl _), (Blk.get _ hk1 (by simp [MA])).trans (mks_succ k (by omega)), by simp; have := hgrow.size; simp at this; omega⟩
    · obtain rfl : k = n := by omega
      clear h1 hkn
      go_wp2_with fail
      go_loopg [6, 9] L.length (fun q v i wx => ∃ (j : Nat) (d : List (List UInt8)) (ms : List Int), q + j = L.length ∧ i = .int .i64 j ∧ StayAt w k v d ms wx)
      case atStart => exact ⟨0, _, _, by omega, rfl, hrow, hB, hblk, hgs, by simp, by simp; omega, ltrs_line k, mks_place k hn26, mks_none k⟩
      case round =>
        obtain ⟨j, d, ms, hq2, rfl, hst⟩ := hrel
        obtain ⟨g2, rfl⟩ : ∃ g2 : Nat, g2 = gk := ⟨_, rfl⟩
        have HQ2 := Lib.hid hq2
        have hjl : j ≤ L.length := by omega
        clear hq2
        by_cases hj : j < L.length
        · obtain ⟨b, o, rfl, hb, hc⟩ := hL.2 (by omega)
          obtain ⟨hc0, hc1, hc2⟩ := cells_at L j hj
          have hc0 := (hst.below.cell (p := ⟨b, o + j * 3, none⟩) hb).trans (hc _ _ hc0)
          have hc1 := (hst.below.cell (p := ⟨b, o + (j * 3 + 1), none⟩) hb).trans (hc _ _ hc1)
          have hc2 := (hst.below.cell (p := ⟨b, o + (j * 3 + 2), none⟩) hb).trans (hc _ _ hc2)
          rw [← Nat.add_assoc] at hc1 hc2
          have hbw : InHeap b wr := Nat.lt_of_lt_of_le hb hst.below.size
          have hbw2 : b < wr.heap.size := hbw
          have hbne : b ≠ wr.heap.size := by omega
          obtain ⟨wo, rfl⟩ : ∃ wo : World, wo = wr := ⟨_, rfl⟩
          have HST := Lib.hid hst
          clear hst
          have hlen100 : L[j].len ≤ 100 := beyond_len hbey j hj
          go_upto_region 15 with fail
          go_region
          go_wp2_with fail
          go_loopg [11] L[j].len (fun q i wx => ∃ c : Nat, q + c = L[j].len ∧ i = .int .i64 c ∧ DashAt wo L[j] c wx)
          case atStart => exact ⟨0, by omega, rfl, _, World.ownsRow_nil _ _ _ _, ((Below.refl _ _).alloc (Nat.le_refl _) _).drew, by simp [go_sem], by simp⟩
          case round =>
            obtain ⟨c, hq3, rfl, v, hrow3, hB3, hblk3, hgs3⟩ := hrel
            have HQ3 := Lib.hid hq3
            have hcl : c ≤ L[j].len := by omega
            clear hq3
            have hc2x := (hB3.cell (p := ⟨b, o + j * 3 + 2, none⟩) hbw2).trans hc2
            have hbx : InHeap b wr := Nat.lt_of_lt_of_le hbw2 hB3.size
            have e0 := (Blk.cell hblk3 (by simp) 0)
            have e1 := (Blk.cell hblk3 (by simp) 1)
            have e2 := (Blk.cell hblk3 (by simp) 2)
            have hix := Blk.inHeap hblk3 (by simp)
            simp only [List.size_toArray, List.length_cons, List.length_nil, Nat.zero_add, Nat.reduceAdd, Nat.reduceLT, getElem?_pos, List.getElem_toArray, List.getElem_cons_succ, List.getElem_cons_zero] at e0 e1 e2
            have hld : (dashes c).length ≤ c := by simp [dashes]
            by_cases h3 : c < L[j].len
            · go_wp2_with (at_builtin; refine wpList_append_own _ rfl (.tmp 70) (.tmp 71) 25 rfl (wo.heap.size + 1) 9 i0 (.string ⟨#[]⟩) 1 16 Try.underlying25 hi hz0 hz1 hz2 rfl (by decide) _ _ _ rfl (hrow3.alloc _) ⟨wr.heap.size, 0, none⟩ 1 1 [.string (tx [45])] rfl rfl ?c2 (by simp [Value.oneCell']) (by unfold maxLen; omega) (by omega) (by simp; omega) ?_; rotate_left; intro v' w1 hown' hgrow _; obtain ⟨A', cap', rfl⟩ := own_form hown'; have hk1 := blk_grown1 hgrow hblk3 hgs3 (row_past hrow3 (by omega)); have hf1 := Blk.free hk1 (by simp) 2; have HS1 := Lib.hid (Blk.set hk1 (by simp) 2 (.slice A' ((dashes c).length + 1) cap')); have hi1 := Blk.inHeap hk1 (by simp); have hx1 := Blk.cell hk1 (by simp) 2; simp only [List.size_toArray, List.length_cons, List.length_nil, Nat.zero_add, Nat.reduceAdd, Nat.reduceLT, getElem?_pos, List.getElem_toArray, List.getElem_cons_succ, List.getElem_cons_zero] at hx1)
              case c2 =>
                intro j u hu
                match j, hu with
                | 0, hu => simp at hu; subst hu; simp [go_sem]; rfl
                | j + 1, hu => simp at hu
              go_roundg (gk - 1)
              case measure => have := HQ3.out; omega
              case rel => exact ⟨c + 1, by have := HQ3.out; omega, by go_num, by rw [HS1.out]; exact dash_step hrow3 hB3 hgs3 hk1 hown' hgrow⟩
            · obtain rfl : c = L[j].len := by omega
              clear h3 hcl HQ3
              obtain ⟨A3, cap3, rfl, hcap3, _, hA3, hn3, _⟩ := own_row hrow3
              obtain ⟨Ad, cd, rfl, hcapd, _, hAd, hnd, _⟩ := own_row HST.out.row
              have hg3 : Grows wo wr := Grows.of_below hB3
              have hok := HL.out _ (List.getElem_mem hj)
              go_wp2_with fail
              (with_reducible refine (apply_dash Ad cd d L[j] A3 cap3 _ (hAd.grows hg3) hnd (by have := HST.out.short; omega) (fun t ht => by rw [HST.out.line t ht]; omega) (dash_ok hok hA3 hn3 hlen100)).mono ?_)
              rintro e w' ⟨v', rfl, hown', m', rfl⟩
              obtain ⟨A', cap', rfl⟩ := own_form hown'
              have hiw : InHeap w.heap.size wr := Nat.lt_of_lt_of_le HST.out.size hB3.size
              have hb1 : blk wr w.heap.size = MA ms := (blk_below hB3 HST.out.size).trans HST.out.blk
              have HB1 := Lib.hid hb1
              have HMS := Lib.hid HST.out.len
              by_cases hz : (spAllV d [⟨L[j].at_, L[j].del, A3, cap3, dashes L[j].len⟩]).2 = 0
              · rw [hz]
                have hsl : (shiftV ms L[j].at_ L[j].del ↑(dashes L[j].len).length).length = 26 := by simp [shiftV, HMS.out]
                have hbs : ∀ c : Array Value, blk (setBlk wr w.heap.size c) w.heap.size = c := fun c => Blk.get c HB1.out (by simp [HMS.out])
                have HOK := Lib.hid hok
                obtain ⟨hoa, hod, _⟩ := hok
                have hms26 := HST.out.len
                go_wp2_with fail
                (with_reducible refine (shift_any ms L[j].at_ L[j].del A3 (dashes L[j].len).length cap3 _ HMS.out HST.out.i64 hoa hod (by simp [dashes]; omega)).mono ?_)
                rintro e w' ⟨rfl, m2, rfl⟩
                go_wp2_with fail
                have hstep := HST.out.step hn26 hz HOK.out hlen100 (own_le hown' (by have := HST.out.size; have := hB3.size; omega)) HB1.out hg3 m2
                (with_reducible refine (check_any (shiftV ms L[j].at_ L[j].del ↑(dashes L[j].len).length) _ _ hsl).mono ?_)
                rw [hstep.check]
                rintro e w' ⟨rfl, m3, rfl⟩
                have hstep := hstep.grows (Grows.of _ m3)
                have hsl2 : ((shiftV ms L[j].at_ L[j].del ↑(dashes L[j].len).length)).length ≤ 26 := by omega
                clear hbs hsl e0 e1 e2 hix hrow3 hB3 hblk3 hgs3 hA3 hn3 hAd hnd hg3 hown' hiw hb1 HB1 hz hc0 hc1 hc2 hc2x hbx hms26 hoa hod HOK
                generalize (spAllV d [⟨L[j].at_, L[j].del, A3, cap3, dashes L[j].len⟩]).1 = d' at hstep ⊢
                generalize shiftV ms L[j].at_ L[j].del ↑(dashes L[j].len).length = ms' at hstep hsl2 ⊢
                generalize more (more (more (setBlk wr w.heap.size (MA ms')) m') m2) m3 = W0 at hstep ⊢
                have hdl := hstep.short
                go_wp2_with fail
                go_loopg [14] k (fun q i wx => ∃ kk : Nat, q + kk = k ∧ i = .int .i64 kk ∧ StayAt w k (.slice A' d'.length cap') d' ms' wx)
                case atStart => exact ⟨0, by omega, rfl, hstep⟩
                case round =>
                  obtain ⟨kk, hq5, rfl, hs5⟩ := hrel
                  obtain ⟨g5, rfl⟩ : ∃ g5 : Nat, g5 = gk := ⟨_, rfl⟩
                  have HQ5 := Lib.hid hq5
                  have hkk : kk ≤ k := by omega
                  have HS5 := Lib.hid hs5
                  clear hq5 hs5
                  by_cases h5 : kk < k
                  · have hk26 : kk < ms'.length := by rw [HS5.out.len]; omega
                    have hpl := HS5.out.place kk hk26 h5
                    have HPL := Lib.hid hpl
                    have hple := hpl.le
                    clear hpl
                    generalize hpe : ms'[kk] = pk at hple HPL
                    have HPE := Lib.hid hpe
                    clear hpe
                    have hp0 : (if pk ≤ ((0 : Nat) : Int) then pk else 0) = 0 := by split <;> omega
                    have HP0 := Lib.hid hp0
                    clear hp0
                    go_wp2_with fail
                    go_loopg [15, 16] d'.length (fun q a i wx => ∃ jj : Nat, q + jj = d'.length ∧ i = .int .i64 jj ∧ a = .int .i64 (seenAt pk jj) ∧ StayAt w k (.slice A' d'.length cap') d' ms' wx)
                    case atStart => exact ⟨0, by omega, rfl, by rw [seenAt_zero hple.1], HS5.out⟩
                    case round =>
                      obtain ⟨jj, hq6, rfl, rfl, hs6⟩ := hrel
                      have HQ6 := Lib.hid hq6
                      have hjj : jj ≤ d'.length := by omega
                      have HS6 := Lib.hid hs6
                      clear hq6 hs6
                      by_cases h6 : jj < d'.length
                      · obtain ⟨Ax, cx, hx, _, _, hRx, _, _⟩ := own_row HS6.out.row
                        injection hx with hx1 hx2 hx3
                        subst hx1
                        obtain ⟨bx, ox, rfl, hbx, hcx⟩ := hRx.line jj h6
                        have hbx : InHeap bx wr := hbx
                        have hbxn : bx ≠ wr.heap.size := Nat.ne_of_lt hbx
                        have hi0 : (0 : Int) ≤ (jj : Int) := by omega
                        have hi1 : (jj : Int) < (d'.length : Int) := by omega
                        clear hRx hx2 hx3
                        by_cases heq : d'[jj] = ltr kk
                        · have hsn := Lib.hid (seenAt_yes HPL.out h6 heq)
                          have hstr : ((tx d'[jj]).toList == (tx (ltr kk)).toList) = true := by rw [heq]; simp
                          go_upto_region 32 with fail
                          go_region
                          go_wp2_with fail
                          go_roundg (gk - 1)
                          case measure => have := HQ6.out; omega
                          case rel => exact ⟨jj + 1, by have := HQ6.out; omega, by go_num, by rw [hsn.out], HS6.out.grows (((Grows.refl _).alloc _).drew)⟩
                        · have hsn := Lib.hid (seenAt_no HPL.out h6 heq)
                          have hstr : ((tx d'[jj]).toList == (tx (ltr kk)).toList) = false := str_ne fun e => heq (tx_inj e)
                          go_upto_region 32 with fail
                          go_region
                          go_wp2_with fail
                          go_roundg (gk - 1)
                          case measure => have := HQ6.out; omega
                          case rel => exact ⟨jj + 1, by have := HQ6.out; omega, by go_num, by rw [hsn.out], HS6.out.grows (((Grows.refl _).alloc _).drew)⟩
                      · obtain rfl : jj = d'.length := by omega
                        have hsn := Lib.hid (seenAt_all HPL.out)
                        rw [hsn.out]
                        have hcm : wr.cell? ⟨w.heap.size, kk, none⟩ = some (.int .i64 pk) := by
                          rw [Blk.cell HS6.out.blk (by simp; omega) kk, get_MA, List.getElem?_eq_getElem hk26, HPE.out]; rfl
                        go_wp2_with fail
                        go_roundg (g5 - 1)
                        case measure => have := HQ5.out; omega
                        case rel => exact ⟨kk + 1, by have := HQ5.out; omega, by go_num, HS6.out⟩
                  · go_wp2_with fail
                    go_roundg (g2 - 1)
                    case measure => have := HQ2.out; omega
                    case rel => exact ⟨j + 1, d', ms', by have := HQ2.out; omega, by go_num, HS5.out⟩
              · have hz' : ((spAllV d [⟨L[j].at_, L[j].del, A3, cap3, dashes L[j].len⟩]).2 != 0) = true := by simpa using hz
                go_wp2_with fail
                go_roundg (g2 - 1)
                case measure => have := HQ2.out; omega
                case rel => exact ⟨j + 1, d, ms, by have := HQ2.out; omega, by go_num, HST.out.grows (hg3.more _)⟩
        · go_wp2_with fail
          (with_reducible refine (lives_any _).mono ?_)
          rintro e w' ⟨rfl, m4, rfl⟩
          go_wp2_with fail
          go_ret
          exact ⟨rfl, (Grows.of_below hst.below).more _⟩

theorem marksStay_whole (many : UInt8) (L : List Spl) (A : Option Addr) (cap : Nat) (w : World) (hL : Rd w 3 A L.length (L.flatMap Spl.cells)) (hlen : L.length ≤ 9223372036854775807) (hl : ∀ s ∈ L, s.ok) :
    Calls Try.prog 5 #[.int .u8 (many.toNat : Int), .slice A L.length cap] w fun e w' => e = .returned (.bool true) ∧ Grows w w' := by
  by_cases hbey : beyondV L 20 = false
  · exact marksStay_any many L A cap w hL hlen hl hbey
  · have hbey : beyondV L 20 = true := by simpa using hbey
    go_enter Try.func5, Try.ntmps5
    go_wp2_with fail
    (with_reducible refine (beyond_any L A cap 20 _ hL hlen (fun s hs => (hl s hs).len_le)).mono ?_)
    rw [hbey]
    rintro e w' ⟨rfl, rfl⟩
    go_wp2_with fail
    (with_reducible refine (lives_any _).mono ?_); rintro e w' ⟨rfl, m', rfl⟩
    go_wp2_with fail
    go_ret
    exact ⟨rfl, (Grows.refl _).more _⟩

end Go.Proofs.Ythmfhcnminkhaaa
