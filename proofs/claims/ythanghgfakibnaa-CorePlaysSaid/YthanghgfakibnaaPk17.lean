/-
  Several texts of the proof: Concat, RegsJoin, RegsJoinD.
-/
import Derived.Test.YthanghgfakibnaaPk03
import Derived.Test.YthanghgfakibnaaPk15
/-
  slices.Grow of nil and slices.Concat, at lists of strings.
-/
namespace Go.Proofs.Ythanghgfakibnaa
open Go.RowKit

set_option maxRecDepth 3000 in
set_option maxHeartbeats 2000000 in
theorem grow_nil (n : Nat) (w : World) (hn : n ≤ 8000000000000) :
    Calls Try.prog 91 #[.slice none 0 0, .int .i64 n] w (NewLines [] w) := by
  obtain ⟨i0, hi, hz0, hz1, hz2⟩ := info_parts infoStr
  rcases Nat.eq_zero_or_pos n with h0 | h0
  · subst h0
    go_enter Try.func91, Try.ntmps91
    go_wp2
    go_ret
    exact ⟨_, rfl, World.ownsRow_nil _ _ _ _, Grows.refl _⟩
  · have hrz : ∀ ty, (Builtin.append_ #[22, 3] ty #[.slice none 0 0, .int .i64 n]).run Try.prog w =
        .ok (.slice (some ⟨w.heap.size, 0, none⟩) n (grownCap w n 0 9)) (w.drew.alloc (.cells (#[] ++ Builtin.zeroCells (Value.string ⟨#[]⟩).cells n ++ Builtin.zeroCells (Value.string ⟨#[]⟩).cells (grownCap w n 0 9 - n)) 9)) := fun ty => by
      have hold : (Builtin.firstCells i0.size 0 (.slice none 0 0)).run Try.prog w.drew = .ok (#[] : Array Value) w.drew := run_firstCells_none w.drew i0.size 0 0 0
      have h := Lib.run_append_grow_zeros w 22 3 ty 9 i0 (.string ⟨#[]⟩) .i64 .i64 Try.underlying22 Try.underlying3 hi hz0 none 0 0 [] hold n (by omega) (by omega) (by omega) (by omega) (by rw [hz2]; omega) (growslice_fits (by omega) (by rw [hz2]; omega))
      simpa using h
    have hGn : n ≤ grownCap w n 0 9 := grownCap_ge w _ _ _
    have hG63 : grownCap w n 0 9 ≤ 9223372036854775807 := by
      have := grownCap_le_maxLen w n 0 9 (by unfold maxLen; omega)
      unfold maxLen at this
      omega
    generalize grownCap w n 0 9 = G at hrz hGn hG63
    go_enter Try.func91, Try.ntmps91
    go_wp2_with (at_builtin; refine Lib.wpList_append_run _ rfl _ _ _ _ rfl _ _ rfl rfl _ _ (hrz _) ?_)
    go_ret
    have hsz : (Builtin.zeroCells #[Value.string ⟨#[]⟩] n ++ Builtin.zeroCells #[Value.string ⟨#[]⟩] (G - n)).size = G * 1 := by
      rw [Array.size_append, size_zeroCells, size_zeroCells]; simp; omega
    refine ⟨_, rfl, ?_, ((Grows.refl _).alloc _).drew⟩
    exact (World.ownsRow_made w _ G (Nat.le_refl _) hG63 hsz).drew

set_option maxRecDepth 3000 in
set_option maxHeartbeats 2000000 in
theorem concat_any (g : Nat) (ps : List Part) (m cap : Nat) (w : World) (hm : m = ps.length) (hg : Rd w 1 (some ⟨g, 0, none⟩) ps.length (ps.map Part.val)) (hps : ∀ p ∈ ps, p.ok w) (hl : (partsL ps).length ≤ 8000000000000) (hpl : ps.length ≤ 1000) :
    Calls Try.prog 75 #[.slice (some ⟨g, 0, none⟩) m cap] w (NewLines (partsL ps) w) := by
  obtain ⟨i0, hi, hz0, hz1, hz2⟩ := info_parts infoStr
  subst hm
  have HP := Lib.hid hps
  clear hps
  go_enter Try.func75, Try.ntmps75
  go_wp2_with fail
  go_loopg [3, 5, 11] ps.length (fun q v _ i wr => ∃ k : Nat, q + k = ps.length ∧ i = .int .i64 k ∧ v = .int .i64 ((partsL (ps.take k)).length : Nat) ∧ wr = w)
  case atStart => exact ⟨0, by omega, rfl, rfl, rfl⟩
  case round =>
    obtain ⟨k, hq, rfl, rfl, hw⟩ := hrel
    obtain rfl : w = wr := hw.symm
    have HQ := Lib.hid hq
    have hkl : k ≤ ps.length := by omega
    have hsum := partsL_le ps k
    clear hq
    by_cases h1 : k < ps.length
    · have hc : w.cell? ⟨g, k, none⟩ = some (.slice ps[k].A ps[k].d.length ps[k].cap) := by
        obtain ⟨b, o, e, _, hcc⟩ := hg.2 (by omega)
        injection e with e
        injection e with e1 e2
        subst e1 e2
        have := hcc k (ps[k].val) (by simp [h1])
        simpa [Part.val] using this
      have hst := partsL_take ps k h1
      have hs2 := partsL_le ps (k + 1)
      rw [hst, List.length_append] at hs2
      have HT := Lib.hid hst
      clear hst
      go_wp2_with fail
      go_roundg (gk - 1)
      case measure => have := HQ.out; omega
      case rel => exact ⟨k + 1, by have := HQ.out; omega, by go_num, by rw [HT.out, List.length_append]; go_num, rfl⟩
    · have hk : ps.take k = ps := List.take_of_length_le (by omega)
      rw [hk]
      clear hk
      go_wp2_with fail
      (with_reducible refine (grow_nil (partsL ps).length _ (by omega)).mono ?_)
      rintro e w1 ⟨v, rfl, hown, m1, rfl⟩
      go_wp2_with fail
      go_loopg [6, 8, 27] ps.length (fun q v _ i wx => ∃ k : Nat, q + k = ps.length ∧ i = .int .i64 k ∧ wx.ownsRow w.heap.size 9 1 v (partsL (ps.take k)).length (lv (partsL (ps.take k))) ∧ Below w.heap.size w wx)
      case atStart => exact ⟨0, by omega, rfl, hown, (Grows.of w m1).below⟩
      case round =>
        obtain ⟨k, hq, rfl, hrow, hB⟩ := hrel
        have HQ := Lib.hid hq
        have hkl : k ≤ ps.length := by omega
        have hbs := hB.size
        clear hq
        by_cases h2 : k < ps.length
        · have hc : w.cell? ⟨g, k, none⟩ = some (.slice ps[k].A ps[k].d.length ps[k].cap) ∧ g < w.heap.size := by
            obtain ⟨b, o, e, hlt, hcc⟩ := hg.2 (by omega)
            injection e with e
            injection e with e1 e2
            subst e1 e2
            have := hcc k (ps[k].val) (by simp [h2])
            exact ⟨by simpa [Part.val] using this, hlt⟩
          have hc2 := (hB.cell (p := ⟨g, k, none⟩) hc.2).trans hc.1
          obtain ⟨hp1, hp2⟩ := Part.grows (HP.out ps[k] (List.getElem_mem h2)) (Grows.of_below hB)
          have hst := partsL_take ps k h2
          have hs2 := partsL_le ps (k + 1)
          rw [hst, List.length_append] at hs2
          have HT := Lib.hid hst
          have HN := Lib.hid hp2
          clear hst hc hp2
          go_wp2_with (at_builtin; refine wpList_append_rd _ rfl (.tmp 31) (.tmp 32) 22 rfl w.heap.size 9 i0 (.string ⟨#[]⟩) 16 Try.underlying22 hi hz0 hz1 hz2 rfl _ _ _ rfl hrow ps[k].A _ ps[k].cap (lv ps[k].d) rfl HN.out hp1 (lv_one _) (by unfold maxLen; omega) (by omega) hbs ?_; intro v1 w1 hown1 hgrow1; have hb1 := own_next hB hrow hgrow1; clear hgrow1)
          go_roundg (gk - 1)
          case measure => have := HQ.out; omega
          case rel => exact ⟨k + 1, by have := HQ.out; omega, by go_num, by rw [HT.out, List.length_append, ← lv_append]; exact hown1, hb1⟩
        · have hk : ps.take k = ps := List.take_of_length_le (by omega)
          rw [hk] at hrow
          clear hk
          go_wp2_with fail
          go_ret
          exact ⟨_, rfl, hrow, Grows.of_below hB⟩
end Go.Proofs.Ythanghgfakibnaa

/-
  Registers: the walk of regs.Join.
-/
namespace Go.Proofs.Ythanghgfakibnaa
open Go.RowKit

set_option maxRecDepth 3000 in
theorem rd_take {w : World} {A : Option Addr} {d : List (List UInt8)} (h : Rd w 1 A d.length (lv d)) (k n : Nat) (hk : n = (d.take k).length) : Rd w 1 A n (lv (d.take k)) := by
  subst hk
  refine ⟨by simp [lv], fun hn => ?_⟩
  have hl : 0 < d.length := by simp at hn; omega
  obtain ⟨b, o, e, hb, hc⟩ := h.2 hl
  refine ⟨b, o, e, hb, fun j u hu => hc j u ?_⟩
  rw [lv, List.map_take, List.map_take, List.getElem?_take] at hu
  split at hu
  · exact hu
  · cases hu
set_option maxRecDepth 3000 in
theorem rd_drop {w : World} {a : Addr} {d : List (List UInt8)} (h : Rd w 1 (some a) d.length (lv d)) (k n : Nat) (hn : n = d.length - k) : Rd w 1 (some (a.add k)) n (lv (d.drop k)) := by
  subst hn
  refine ⟨by simp [lv], fun hn => ?_⟩
  obtain ⟨b, o, e, hb, hc⟩ := h.2 (by omega)
  injection e with e
  subst e
  refine ⟨b, o + k, by simp [Addr.add], hb, fun j u hu => ?_⟩
  have := hc (k + j) u (by rw [lv, List.map_drop, List.map_drop, List.getElem?_drop] at hu; exact hu)
  rw [← Nat.add_assoc] at this
  exact this
set_option maxRecDepth 3000 in
theorem rd_new_drew (w : World) (cs : Array Value) (t : TypeId) (n g : Nat) (hn : cs.size = n) (hg : g = w.heap.size) : Rd (w.alloc (.cells cs t)).drew 1 (some ⟨g, 0, none⟩) n cs.toList := (rd_new w cs t n g hn hg).grows ((Grows.refl _).drew)
set_option maxRecDepth 3000 in
/-- Concat of lists that were laid in a block of their own. -/
theorem concat2_at (A1 A2 : Option Addr) (c1 c2 : Nat) (d1 d2 : List (List UInt8)) (W : World) (g : Nat) (hl : d1.length + d2.length ≤ 5000000000000) (hg : Rd W 1 (some ⟨g, 0, none⟩) 2 [.slice A1 d1.length c1, .slice A2 d2.length c2])
    (r1 : (Part.mk A1 c1 d1).ok W) (r2 : (Part.mk A2 c2 d2).ok W) : Calls Try.prog 75 #[.slice (some ⟨g, 0, none⟩) 2 2] W (NewL (d1 ++ d2) W) := by
  refine Calls.mono ?_ fun e w' h => NewLines.newL h
  have := concat_any g [⟨A1, c1, d1⟩, ⟨A2, c2, d2⟩] 2 2 W rfl hg ?_ ?_ (by simp)
  · simpa [partsL] using this
  · intro p hp
    simp only [List.mem_cons, List.not_mem_nil, or_false] at hp
    rcases hp with rfl | rfl
    · exact r1
    · exact r2
  · simp [partsL]; omega
set_option maxRecDepth 3000 in
theorem concat3_at (A1 A2 A3 : Option Addr) (c1 c2 c3 n1 n2 n3 : Nat) (d1 d2 d3 : List (List UInt8)) (W : World) (g : Nat) (h1 : n1 = d1.length) (h2 : n2 = d2.length) (h3 : n3 = d3.length) (hl : d1.length + (d2.length + d3.length) ≤ 5000000000000) (hg : Rd W 1 (some ⟨g, 0, none⟩) 3 [.slice A1 n1 c1, .slice A2 n2 c2, .slice A3 n3 c3])
    (r1 : (Part.mk A1 c1 d1).ok W) (r2 : (Part.mk A2 c2 d2).ok W) (r3 : (Part.mk A3 c3 d3).ok W) : Calls Try.prog 75 #[.slice (some ⟨g, 0, none⟩) 3 3] W (NewL (d1 ++ (d2 ++ d3)) W) := by
  refine Calls.mono ?_ fun e w' h => NewLines.newL h
  subst h1 h2 h3
  have := concat_any g [⟨A1, c1, d1⟩, ⟨A2, c2, d2⟩, ⟨A3, c3, d3⟩] 3 3 W rfl hg ?_ ?_ (by simp)
  · simpa [partsL] using this
  · intro p hp
    simp only [List.mem_cons, List.not_mem_nil, or_false] at hp
    rcases hp with rfl | rfl | rfl
    · exact r1
    · exact r2
    · exact r3
  · simp [partsL]; omega

set_option maxRecDepth 3000 in
set_option maxHeartbeats 4000000 in
theorem joinA_f {ok ok' : Nat → Prop} (A B : Option Addr) (ca cb : Nat) (da db : List (List UInt8)) (wb : Bool) (w : World) (ha : LRd ok w A ca da) (hb : LRd ok' w B cb db) (hsum : da.length + db.length ≤ 5000000000000) (h1 : da.length = 0) :
    Calls Try.prog 54 #[.agg #[.slice A da.length ca, .bool false], .agg #[.slice B db.length cb, .bool wb]] w (NewReg ⟨da ++ db, wb⟩ w) := by
  have hra := ha.rd
  have hrb := hb.rd
  have hna := Lib.hid ha.nil
  have hnb := Lib.hid hb.nil
  clear ha hb
  have h1' : ((da.length : Int) == 0) = true := by simp [h1]
  have H1 := Lib.hid h1
  clear h1
  go_enter Try.func54, Try.ntmps54
  go_wp2_with fail
  go_region_held3 (fun w' => w'.cell? ⟨w.heap.size, 0, none⟩ = some (.slice A da.length ca) ∧ w'.cell? ⟨w.heap.size + 1, 0, none⟩ = some (.slice B db.length cb) ∧ w'.cell? ⟨w.heap.size, 1, none⟩ = some (.bool false) ∧ w'.cell? ⟨w.heap.size + 1, 1, none⟩ = some (.bool wb))
    (first | (simp [go_sem]; done))
    (first | (go_at_call 75; (refine Calls.mono (concat2_at A B ca cb da db _ _ hsum ?_ ?_ ?_) ?_); (exact rd_new_drew _ #[.slice A da.length ca, .slice B db.length cb] _ 2 _ rfl (by simp)); (exact ⟨hra.grows (by repeat' first | exact Grows.refl _ | refine Grows.more ?_ _ | refine Grows.alloc ?_ _ | refine Grows.drew ?_), hna.out⟩); (exact ⟨hrb.grows (by repeat' first | exact Grows.refl _ | refine Grows.more ?_ _ | refine Grows.alloc ?_ _ | refine Grows.drew ?_), hnb.out⟩); rintro e w1 ⟨A1, c1, rfl, hL, m1, rfl⟩))
  go_wp2_with fail
  exact bodyPost_ret (v := .agg #[.slice A1 (da ++ db).length c1, .bool wb]) (by simp [results, Try.results54, go_sem]) rfl ⟨A1, c1, rfl, ((hL.chg (chg_boxes _ _ _ _ _) (fun b _ hb hp => by simp at hb hp; omega)).mono (fun b _ hb => by simp at hb; omega)), by repeat' first | exact Grows.refl _ | refine Grows.more ?_ _ | refine Grows.alloc ?_ _⟩
set_option maxRecDepth 3000 in
set_option maxHeartbeats 4000000 in
theorem joinB_f {ok ok' : Nat → Prop} (A B : Option Addr) (ca cb : Nat) (da db : List (List UInt8)) (wb : Bool) (w : World) (ha : LRd ok w A ca da) (hb : LRd ok' w B cb db) (hsum : da.length + db.length ≤ 5000000000000) (h1 : ¬ da.length = 0) (h2 : db.length = 0) :
    Calls Try.prog 54 #[.agg #[.slice A da.length ca, .bool false], .agg #[.slice B db.length cb, .bool wb]] w (NewReg ⟨da ++ db, wb⟩ w) := by
  have hra := ha.rd
  have hrb := hb.rd
  have hna := Lib.hid ha.nil
  have hnb := Lib.hid hb.nil
  clear ha hb
  have h1' : ((da.length : Int) == 0) = false := by rw [beq_eq_false_iff_ne]; omega
  have H1 := Lib.hid h1
  clear h1
  have h2' : ((db.length : Int) == 0) = true := by simp [h2]
  have H2 := Lib.hid h2
  clear h2
  go_enter Try.func54, Try.ntmps54
  go_wp2_with fail
  go_region_held3 (fun w' => w'.cell? ⟨w.heap.size, 0, none⟩ = some (.slice A da.length ca) ∧ w'.cell? ⟨w.heap.size + 1, 0, none⟩ = some (.slice B db.length cb) ∧ w'.cell? ⟨w.heap.size, 1, none⟩ = some (.bool false) ∧ w'.cell? ⟨w.heap.size + 1, 1, none⟩ = some (.bool wb))
    (first | (simp [go_sem]; done))
    (first | (go_at_call 75; (refine Calls.mono (concat2_at A B ca cb da db _ _ hsum ?_ ?_ ?_) ?_); (exact rd_new_drew _ #[.slice A da.length ca, .slice B db.length cb] _ 2 _ rfl (by simp)); (exact ⟨hra.grows (by repeat' first | exact Grows.refl _ | refine Grows.more ?_ _ | refine Grows.alloc ?_ _ | refine Grows.drew ?_), hna.out⟩); (exact ⟨hrb.grows (by repeat' first | exact Grows.refl _ | refine Grows.more ?_ _ | refine Grows.alloc ?_ _ | refine Grows.drew ?_), hnb.out⟩); rintro e w1 ⟨A1, c1, rfl, hL, m1, rfl⟩))
  go_wp2_with fail
  exact bodyPost_ret (v := .agg #[.slice A1 (da ++ db).length c1, .bool wb]) (by simp [results, Try.results54, go_sem]) rfl ⟨A1, c1, rfl, ((hL.chg (chg_boxes _ _ _ _ _) (fun b _ hb hp => by simp at hb hp; omega)).mono (fun b _ hb => by simp at hb; omega)), by repeat' first | exact Grows.refl _ | refine Grows.more ?_ _ | refine Grows.alloc ?_ _⟩
set_option maxRecDepth 3000 in
set_option maxHeartbeats 4000000 in
theorem joinC_f {ok ok' : Nat → Prop} (A B : Option Addr) (ca cb : Nat) (da db : List (List UInt8)) (w : World) (ha : LRd ok w A ca da) (hb : LRd ok' w B cb db) (hsum : da.length + db.length ≤ 5000000000000) (h1 : ¬ da.length = 0) (h2 : ¬ db.length = 0) :
    Calls Try.prog 54 #[.agg #[.slice A da.length ca, .bool false], .agg #[.slice B db.length cb, .bool true]] w (NewReg ⟨da ++ db, true⟩ w) := by
  have hra := ha.rd
  have hrb := hb.rd
  have hna := Lib.hid ha.nil
  have hnb := Lib.hid hb.nil
  clear ha hb
  have h1' : ((da.length : Int) == 0) = false := by rw [beq_eq_false_iff_ne]; omega
  have H1 := Lib.hid h1
  clear h1
  have h2' : ((db.length : Int) == 0) = false := by rw [beq_eq_false_iff_ne]; omega
  have H2 := Lib.hid h2
  clear h2
  go_enter Try.func54, Try.ntmps54
  go_wp2_with fail
  go_region_held3 (fun w' => w'.cell? ⟨w.heap.size, 0, none⟩ = some (.slice A da.length ca) ∧ w'.cell? ⟨w.heap.size + 1, 0, none⟩ = some (.slice B db.length cb) ∧ w'.cell? ⟨w.heap.size, 1, none⟩ = some (.bool false) ∧ w'.cell? ⟨w.heap.size + 1, 1, none⟩ = some (.bool true))
    (first | (simp [go_sem]; done))
    (first | (go_at_call 75; (refine Calls.mono (concat2_at A B ca cb da db _ _ hsum ?_ ?_ ?_) ?_); (exact rd_new_drew _ #[.slice A da.length ca, .slice B db.length cb] _ 2 _ rfl (by simp)); (exact ⟨hra.grows (by repeat' first | exact Grows.refl _ | refine Grows.more ?_ _ | refine Grows.alloc ?_ _ | refine Grows.drew ?_), hna.out⟩); (exact ⟨hrb.grows (by repeat' first | exact Grows.refl _ | refine Grows.more ?_ _ | refine Grows.alloc ?_ _ | refine Grows.drew ?_), hnb.out⟩); rintro e w1 ⟨A1, c1, rfl, hL, m1, rfl⟩))
  go_wp2_with fail
  exact bodyPost_ret (v := .agg #[.slice A1 (da ++ db).length c1, .bool true]) (by simp [results, Try.results54, go_sem]) rfl ⟨A1, c1, rfl, ((hL.chg (chg_boxes _ _ _ _ _) (fun b _ hb hp => by simp at hb hp; omega)).mono (fun b _ hb => by simp at hb; omega)), by repeat' first | exact Grows.refl _ | refine Grows.more ?_ _ | refine Grows.alloc ?_ _⟩
end Go.Proofs.Ythanghgfakibnaa

/-
  Registers: the walk of regs.Join where neither text is whole.
-/
namespace Go.Proofs.Ythanghgfakibnaa
open Go.RowKit

set_option maxRecDepth 3000 in
theorem alloc_more (w : World) (o : Obj) (m : More) : more (w.alloc o) m = more w ⟨#[o] ++ m.1, m.2⟩ := by
  unfold more World.alloc
  congr 1
  show w.heap.push o ++ m.1 = w.heap ++ (#[o] ++ m.1)
  rw [Array.push_eq_append, Array.append_assoc]
set_option maxRecDepth 3000 in
theorem chg_boxes3 {w : World} (a b a2 b2 c : Obj) (m : More) : Chg (fun x => x = w.heap.size ∨ x = w.heap.size + 1) (more (((w.alloc a).alloc b).alloc c) m) (more (((w.alloc a2).alloc b2).alloc c) m) := by
  rw [alloc_more _ c, alloc_more _ c]
  exact chg_boxes a b a2 b2 _
set_option maxRecDepth 3000 in
theorem some_none {a : Addr} {p : Prop} : some a = none → p := fun h => by cases h
set_option maxRecDepth 3000 in
theorem rd_one_mid (w : World) (s : List UInt8) (t : TypeId) (o : Obj) (g : Nat) (hg : g = w.heap.size) : Rd ((w.alloc (.cells #[.string (tx s)] t)).alloc o).drew 1 (some ⟨g, 0, none⟩) [s].length (lv [s]) := (rd_new w #[.string (tx s)] t 1 g rfl hg).grows (((Grows.refl _).alloc _).drew)
set_option maxRecDepth 3000 in
set_option maxHeartbeats 4000000 in
/-- The last line of one with the first one of the other. -/
theorem joinD_any {ok ok' : Nat → Prop} (A B : Option Addr) (ca cb : Nat) (d0 d1 : List (List UInt8)) (x y : List UInt8) (w : World) (ha : LRd ok w A ca (d0 ++ [x])) (hb : LRd ok' w B cb (y :: d1)) (hsum : d0.length + (1 + d1.length) ≤ 5000000) (hxy : x.length + y.length ≤ 1000000) :
    Calls Try.prog 54 #[.agg #[.slice A (d0.length + 1) ca, .bool false], .agg #[.slice B (d1.length + 1) cb, .bool false]] w (NewReg ⟨d0 ++ ([x ++ y] ++ d1), false⟩ w) := by
  have hra := ha.rd
  have hrb := hb.rd
  have la := ha.le
  have lb := hb.le
  simp only [List.length_append, List.length_cons, List.length_nil, Nat.zero_add] at la lb
  obtain ⟨b1, o1, rfl, hb1, hx⟩ := hra.line d0.length (by simp)
  obtain ⟨b2, o2, rfl, hb2, hy⟩ := hrb.line 0 (by simp)
  have hx : w.cell? ⟨b1, o1 + d0.length, none⟩ = some (.string (tx x)) := by simpa using hx
  have hy : w.cell? ⟨b2, o2, none⟩ = some (.string (tx y)) := by simpa using hy
  have hb1 : InHeap b1 w := hb1
  have hb2 : InHeap b2 w := hb2
  have hT : Hid (Rd w 1 (some ⟨b1, o1, none⟩) d0.length (lv d0)) := Lib.hid (by have := rd_take hra d0.length d0.length (by simp); simpa using this)
  have hD : Hid (Rd w 1 (if cb = 1 then some ⟨b2, o2, none⟩ else some ⟨b2, o2 + 1, none⟩) d1.length (lv d1)) := Lib.hid (by
    split
    · obtain rfl : d1 = [] := List.eq_nil_of_length_eq_zero (by omega)
      exact Rd.nil_
    · have := rd_drop hrb 1 d1.length (by simp); simpa [Addr.add] using this)
  have hDn : Hid ((if cb = 1 then some (⟨b2, o2, none⟩ : Addr) else some ⟨b2, o2 + 1, none⟩) = none → d1.length = 0 ∧ cb - 1 = 0) := Lib.hid (by split <;> intro h <;> cases h)
  clear ha hb hra hrb
  obtain ⟨A3, hA3⟩ : ∃ A3 : Option Addr, (if cb = 1 then some ⟨b2, o2, none⟩ else some ⟨b2, o2 + 1, none⟩) = A3 := ⟨_, rfl⟩
  rw [hA3] at hD hDn
  have h1' : ((d0.length : Int) + 1 == 0) = false := by rw [beq_eq_false_iff_ne]; omega
  have h2' : ((d1.length : Int) + 1 == 0) = false := by rw [beq_eq_false_iff_ne]; omega
  have k0 : IntKind.i64.wrap ((d0.length : Int) + 1 - 1) = d0.length := by rw [IntWalk.i64_left]; unfold wrap64; omega
  have k1 : IntKind.i64.wrap (d0.length : Int) = d0.length := by rw [IntWalk.i64_left]; unfold wrap64; omega
  have k2 : (0 : Int) ≤ (d0.length : Int) := by omega
  have k3 : (d0.length : Int) < (d0.length : Int) + 1 := by omega
  have k4 : (d0.length : Int) ≤ (ca : Int) := by omega
  have k5 : (0 : Int) < (d1.length : Int) + 1 := by omega
  have hs3 : d0.length + ([x ++ y].length + d1.length) ≤ 5000000000000 := by simp; omega
  have HK := Lib.hid (fun W g A2 => concat3_at (some ⟨b1, o1, none⟩) A2 A3 ca 1 (cb - 1) d0.length 1 d1.length d0 [x ++ y] d1 W g rfl rfl rfl hs3)
  have k7 : ¬ 9223372036854775807 < x.length + y.length := by omega
  have k8 : tx x ++ tx y = tx (x ++ y) := tx_append x y
  clear hxy
  have k6 : (1 : Int) ≤ (d1.length : Int) + 1 := by omega
  go_enter Try.func54, Try.ntmps54
  go_wp2_with fail
  go_region_held3 (fun w' => w'.cell? ⟨w.heap.size, 0, none⟩ = some (.slice (some ⟨b1, o1, none⟩) (d0.length + 1) ca) ∧ w'.cell? ⟨w.heap.size + 1, 0, none⟩ = some (.slice (some ⟨b2, o2, none⟩) (d1.length + 1) cb) ∧ w'.cell? ⟨b1, o1 + d0.length, none⟩ = some (.string (tx x)) ∧ w'.cell? ⟨b2, o2, none⟩ = some (.string (tx y)))
    (first | (simp [go_sem, hb1, hb2, hx, hy]; done))
    (first | (go_at_call 75; (refine Calls.mono (HK.out _ _ (some ⟨w.heap.size + 1 + 1 + 1, 0, none⟩) ?_ ?_ ?_ ?_) ?_); (exact rd_new_drew _ #[.slice (some ⟨b1, o1, none⟩) d0.length ca, .slice (some ⟨w.heap.size + 1 + 1 + 1, 0, none⟩) 1 1, .slice A3 d1.length (cb - 1)] _ 3 _ rfl (by simp)); (exact ⟨hT.out.grows (by repeat' first | exact Grows.refl _ | refine Grows.more ?_ _ | refine Grows.alloc ?_ _ | refine Grows.drew ?_), some_none⟩); (exact ⟨rd_one_mid _ (x ++ y) _ _ _ (by simp), some_none⟩); (exact ⟨hD.out.grows (by repeat' first | exact Grows.refl _ | refine Grows.more ?_ _ | refine Grows.alloc ?_ _ | refine Grows.drew ?_), hDn.out⟩); rintro e w1 ⟨A1, c1, rfl, hL, m1, rfl⟩))
  go_wp2_with fail
  exact bodyPost_ret (v := .agg #[.slice A1 (d0 ++ ([x ++ y] ++ d1)).length c1, .bool false]) (by simp [results, Try.results54, go_sem]) rfl ⟨A1, c1, rfl, ((hL.chg (chg_boxes3 _ _ _ _ _ _) (fun b _ hb hp => by simp at hb hp; omega)).mono (fun b _ hb => by simp at hb; omega)), by repeat' first | exact Grows.refl _ | refine Grows.more ?_ _ | refine Grows.alloc ?_ _⟩
end Go.Proofs.Ythanghgfakibnaa
