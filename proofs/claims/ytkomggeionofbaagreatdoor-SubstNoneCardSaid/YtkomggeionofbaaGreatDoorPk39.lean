/-
  Matches: the match of a pattern without references, walked.
-/
import Derived.Test.YtkomggeionofbaaGreatDoorPk38
set_option linter.unusedSimpArgs false
set_option linter.unusedVariables false
namespace Go.Proofs.YtkomggeionofbaaGreatDoor
open Go.RowKit

/-- The greatest place below j. -/
def lastI (P : Pl) : Nat → Int
  | 0 => -1
  | j + 1 => if P j then j else lastI P j
set_option maxRecDepth 3000 in
theorem last_skip {P : Pl} {j : Nat} (h : P j = false) : lastI P (j + 1) = lastI P j := by
  show (if P j then (j : Int) else lastI P j) = lastI P j
  rw [h]; simp
set_option maxRecDepth 3000 in
theorem last_next {P : Pl} {j : Nat} (h : P j = true) : lastI P (j + 1) = j := by
  show (if P j then (j : Int) else lastI P j) = j
  rw [h]; simp
set_option maxRecDepth 3000 in
theorem last_max (P : Pl) : ∀ n, lastI P (n + 1) = match maxOf P n with | none => -1 | some e => (e : Int)
  | 0 => by unfold lastI maxOf lastI; cases P 0 <;> rfl
  | n + 1 => by
    have ih := last_max P n
    rw [lastI, maxOf]
    cases P (n + 1) with
    | true => rfl
    | false => simpa using ih
set_option maxRecDepth 3000 in
theorem last_far {P : Pl} {n : Nat} (h : ∀ i, P i = true → i ≤ n) : ∀ m, n + 1 ≤ m → lastI P m = lastI P (n + 1) := by
  intro m
  induction m with
  | zero => intro h; omega
  | succ m ih =>
    intro hm
    by_cases e : m = n
    · subst e; rfl
    · rw [last_skip, ih (by omega)]
      cases hp : P m with
      | false => rfl
      | true => have := h m hp; omega
set_option maxRecDepth 3000 in
theorem maxOf_some {P : Pl} : ∀ {n e : Nat}, maxOf P n = some e → P e = true ∧ e ≤ n ∧ ∀ i, i ≤ n → P i = true → i ≤ e
  | 0, e, h => by
    unfold maxOf at h
    split at h
    · rename_i hp
      injection h with h
      subst h
      exact ⟨hp, Nat.le_refl _, fun i hi _ => hi⟩
    · cases h
  | n + 1, e, h => by
    unfold maxOf at h
    split at h
    · rename_i hp
      injection h with h
      subst h
      exact ⟨hp, Nat.le_refl _, fun i hi _ => hi⟩
    · rename_i hp
      obtain ⟨h1, h2, h3⟩ := maxOf_some h
      exact ⟨h1, by omega, fun i hi hpi => by
        by_cases e : i = n + 1
        · subst e; exact absurd hpi hp
        · exact h3 i (by omega) hpi⟩
set_option maxRecDepth 3000 in
theorem enters_plain1 : Enters 60 := enters_of Tryz.func60 (by kernel_rfl) rfl
set_option maxRecDepth 3000 in
set_option maxHeartbeats 1000000 in
theorem plain1_any (w : World) (bE a : Nat) (v : Int) (h : blk w bE = #[.int .i64 v]) : Calls Tryz.prog 60 #[.int .i64 a, .pointer (some ⟨bE, 0, none⟩)] w fun e w' => e = .returned (.bool true) ∧ blk w' bE = #[.int .i64 a] ∧ Chg (fun b => b = bE) w w' := by
  have c0 : w.cell? ⟨bE, 0, none⟩ = some (.int .i64 v) := Blk.cell h (by simp) 0
  have hf : ∀ j, w.frozen? ⟨bE, j, none⟩ = false := fun j => Blk.free h (by simp) j
  have iE : InHeap bE w := Blk.inHeap h (by simp)
  have hb := pa_put h (by simp) 0 (.int .i64 (a : Int))
  have HB := Lib.hid hb
  clear h hb
  go_enter Tryz.func60, Tryz.ntmps60
  go_wp2_with fail
  go_ret
  exact ⟨rfl, by rw [HB.out]; simp, chg_cell _ _ _ _⟩
set_option maxRecDepth 3000 in
theorem plain_world {w w1 : World} {s : List UInt8} (h : w1 = ((w.alloc (Obj.cells (spC spZero) 60)).alloc (Obj.map #[] 0)).alloc (Obj.cells #[.string (tx s), .map (some (w.heap.size + 1))] 127)) :
    blk w1 w.heap.size = spC spZero ∧ w1.heap[w.heap.size + 1]? = some (.map #[] 0) ∧ blk w1 (w.heap.size + 1 + 1) = #[.string (tx s), .map (some (w.heap.size + 1))] ∧ Grows w w1 ∧ w1.heap.size = w.heap.size + 3 := by
  subst h
  refine ⟨?_, ?_, blk_alloc_at _ _ _ _ (by simp), (((Grows.refl w).alloc _).alloc _).alloc _, by simp⟩
  · have h1 : blk (w.alloc (.cells (spC spZero) 60)) w.heap.size = spC spZero := blk_alloc_at _ _ _ _ rfl
    obtain ⟨m, hm⟩ := ((Grows.refl (w.alloc (.cells (spC spZero) 60))).alloc (.map #[] 0)).alloc (.cells #[.string (tx s), .map (some (w.heap.size + 1))] 127)
    rw [hm, blk_more _ _ _ (by unfold InHeap; simp)]
    exact h1
  · have h2 : ((w.alloc (Obj.cells (spC spZero) 60)).alloc (Obj.map #[] 0)).heap[(w.alloc (Obj.cells (spC spZero) 60)).heap.size]? = some (.map #[] 0) := World.alloc_heap_new _ _
    have h3 : (w.alloc (Obj.cells (spC spZero) 60)).heap.size = w.heap.size + 1 := by simp
    rw [h3] at h2
    rw [Below.heap_alloc _ _ _ (by simp)]
    exact h2
set_option maxRecDepth 3000 in
theorem results_sp2 {fn : Func} {T : Array Value} {w : World} {b : Nat} {c : Array Value} {v : Value} (k j : Nat) (h : fn.results = #[.cell k 60, .tmp j]) (hT : T.getD k undef = .pointer (some ⟨b, 0, none⟩)) (hj : T.getD j undef = v) (hb : blk w b = c) (hc : c.size = 20) : (results fn T).run Tryz.prog w = .ok (.tuple #[.agg c, v]) w := by
  have := loadVarSp hb hc
  rw [Array.getD_eq_getD_getElem?] at hT hj
  simp [results, h, hT, hj, asAddr, this]
set_option maxRecDepth 3000 in
theorem chg_setBlkM {w : World} {g : Nat} {c : Array Value} {K : Nat → Prop} (hk : K g) : Chg K w (setBlk w g c) := by
  refine ⟨rfl, rfl, rfl, by simp, fun b _ hp => ?_⟩
  have hne : g ≠ b := fun e => hp (e ▸ hk)
  show (w.heap.modify g _)[b]? = w.heap[b]?
  rw [Array.getElem?_modify, if_neg hne]
set_option maxRecDepth 3000 in
theorem over_none : over (spC spZero) 0 (spC spNone) = spC spNone := over_all (by rw [spC_size, spC_size]; rfl)
attribute [local go_sem ↓] ldSp_eq stSp_eq zeroSp bldSp_eq
attribute [local go_sem] loadSp loadSp_if storeSp storeSp_if spC_one bldSp_run over_none
section
variable {s : List UInt8} {Nm : Nat → NdV → Fr → Prop}
/-- What plain hands back. -/
def PlainPost (R : Option Spn) (e : Ending) : Prop := match R with
  | none => e = .returned (.tuple #[spV spZero, .bool false])
  | some g => e = .returned (.tuple #[spV g, .bool true])
set_option maxRecDepth 100000 in
set_option maxHeartbeats 8000000 in
theorem plain_any (hs : s.length ≤ 60000) (hN : NumOk Nm) (f : Fr) (m : Nat) (ok : Nat → Prop) (A : Option Addr) (cap k0 : Nat) (w : World) (hall : AllNum Nm f m) (hnf : NfAt ok w A cap f m) (hz : TzAt w) (hk : k0 ≤ s.length) :
    Calls Tryz.prog 33 #[.slice A f.len cap, .string (tx s), .int .i64 k0] w fun e w' => PlainPost (plainV s f (s.length + 1 - k0) k0) e ∧ Grows w w' := by
  have hW := wds_le hs
  obtain ⟨lo, hlo⟩ : ∃ z, z = w.heap.size := ⟨_, rfl⟩
  have hnf2 : NfAt (fun b => b < lo) w A cap f m := hnf.mono fun b hb _ => by omega
  have hzl : 1 < lo := by have := hz.lt; omega
  have HNF := Lib.hid hnf2
  have HALL := Lib.hid hall
  have HN := Lib.hid hN
  have HZ := Lib.hid hz
  obtain ⟨R, hR⟩ : ∃ R, plainV s f (s.length + 1 - k0) k0 = R := ⟨_, rfl⟩
  rw [hR]
  have HR := Lib.hid hR
  have HLO := Lib.hid hlo
  clear hnf hnf2 hall hN hz hR hlo
  go_enter Tryz.func33, Tryz.ntmps33
  have hmm := @run_makeMap Tryz.prog
  go_wp2_with fail
  generalize hw1 : ((w.alloc (Obj.cells (spC spZero) 60)).alloc (Obj.map #[] 0)).alloc (Obj.cells #[.string (tx s), .map (some (w.heap.size + 1))] 127) = w1
  obtain ⟨hbR, hmap, hbl, hg1, hz1⟩ := plain_world hw1.symm
  clear hw1
  obtain ⟨tb, htb⟩ : ∃ z, z = w.heap.size + 1 + 1 := ⟨_, rfl⟩
  obtain ⟨r, hr⟩ : ∃ z, z = w.heap.size + 1 := ⟨_, rfl⟩
  obtain ⟨R0, hR0⟩ : ∃ z, z = w.heap.size := ⟨_, rfl⟩
  rw [← htb, ← hr] at hbl
  rw [← hr] at hmap
  rw [← hR0] at hbR
  rw [← htb, ← hr, ← hR0]
  have hT1 : TbAt s Nm tb r lo (fun b => lo + 3 ≤ b) w1 := by
    have hll := HLO.out
    exact ⟨hbl, ⟨_, _, hmap, fun e he => by simp at he⟩, HZ.out.grows hg1, by omega, by omega, by omega, hzl⟩
  have HB : Hid (tb = lo + 2 ∧ r = lo + 1 ∧ R0 = lo) := Lib.hid (by have hll := HLO.out; omega)
  have HT1 := Lib.hid hT1
  have HBR := Lib.hid hbR
  have HG1 := Lib.hid hg1
  clear hT1 hbR hmap hbl hg1 hz1 htb hr hR0 hmm
  go_loopg [9] (s.length + 1 - k0) (fun q0 v9 wr => ∃ k : Nat, v9 = .int .i64 k ∧ q0 + k = s.length + 1 ∧ TbAt s Nm tb r lo (fun b => lo + 3 ≤ b) wr ∧ blk wr R0 = spC spZero ∧ Grows w wr ∧ plainV s f q0 k = R)
  case atStart => exact ⟨k0, rfl, by omega, HT1.out, HBR.out, HG1.out, HR.out⟩
  case round =>
    obtain ⟨k, rfl, hq, hT, hbR, hG, hP⟩ := hrel
    clear HT1 HBR HG1
    obtain ⟨h1, h2, h3⟩ := HB.out
    by_cases hkn : k ≤ s.length
    · have hki : (k : Int) ≤ (s.length : Int) := by omega
      obtain ⟨q1, hq1⟩ : ∃ q1, gk = q1 + 1 := ⟨gk - 1, by omega⟩
      have hg2 : Grows wr (wr.alloc (.cells #[.int .i64 (-1)] 3)) := (Grows.refl _).alloc _
      obtain ⟨bE, hbE⟩ : ∃ z, z = wr.heap.size := ⟨_, rfl⟩
      have hb2 : blk (wr.alloc (.cells #[.int .i64 (-1)] 3)) bE = #[.int .i64 (-1)] := blk_alloc_at _ _ _ _ hbE
      have hz2 : (wr.alloc (.cells #[.int .i64 (-1)] 3)).heap.size = wr.heap.size + 1 := by simp
      have hR0l : R0 < wr.heap.size := Blk.inHeap hbR (by rw [spC_size]; decide)
      have hrl : r < wr.heap.size := hT.rlt
      have htl : tb < wr.heap.size := hT.inh
      have hll := hG.below.size
      have hlo := HLO.out
      have hT2 := (hT.away (c := bE) (by omega)).grows hg2
      have hR2 := (chg_blk (Chg.of_grows (p := fun _ => False) hg2) hR0l (fun h => h)).trans hbR
      have hNF2 : NfAt (fun b => b < lo) (wr.alloc (.cells #[.int .i64 (-1)] 3)) A cap f m := HNF.out.chg (Chg.of_grows (p := fun _ => False) (hG.trans hg2)) fun _ _ _ h => h
      have hcall := mrow_ok hs HN.out f m A cap k (fun b => lo + 3 ≤ b ∧ b ≠ bE) _ HALL.out hNF2 hT2 (fun b hb => by omega) hkn
      have HP := Lib.hid hP
      have HQ := Lib.hid (And.intro hq hq1)
      have HR2 := Lib.hid hR2
      have HB2 := Lib.hid hb2
      have HNF2 := Lib.hid hNF2
      have HG2 := Lib.hid (hG.trans hg2)
      have HNUM := Lib.hid (show bE = wr.heap.size ∧ R0 < bE ∧ r < bE ∧ tb < bE ∧ lo + 3 ≤ bE ∧ r ≠ R0 ∧ tb ≠ r ∧ R0 = lo ∧ r = lo + 1 ∧ tb = lo + 2 by omega)
      clear hT hbR hG hP hq hq1 hT2 hR2 hNF2 hb2 h1 h2 h3 hlo hll
      go_upto_region 6 with fail
      rw [← hbE]
      clear hbE hg2
      generalize wr.alloc (.cells #[.int .i64 (-1)] 3) = w2 at *
      go_wp2_with fail
      (with_reducible refine hcall.mono ?_)
      rintro e9 w3 ⟨bR, rfl, hP3, hlo3, hT3, hC3⟩
      obtain ⟨n1, n2, n3, n4, n5, n6, n7, n8, n9, n10⟩ := HNUM.out
      have hbE2 : bE < w2.heap.size := Blk.inHeap HB2.out (by simp)
      have hE3 := (chg_blk hC3 hbE2 (by omega)).trans HB2.out
      have hR3 := (chg_blk hC3 (by omega) (fun e => n6 e.symm)).trans HR2.out
      have hs23 := hC3.size
      have hin : ∀ i, endsF s f k i = true → i ≤ s.length := fun i h => (endsF_rises s f k i hkn h).2
      have hV : EachV (.func (.func 60) #[] #[.pointer (some ⟨bE, 0, none⟩)]) (wds s.length) (endsF s f k) 60 #[.pointer (some ⟨bE, 0, none⟩)]
          (fun j wj => blk wj bE = #[.int .i64 (lastI (endsF s f k) j)] ∧ Chg (fun y => y = bE) w3 wj) := by
        refine ⟨rfl, enters_plain1, fun j wj hj hPj ⟨g1, g2⟩ => ?_, fun j wj hPj ⟨g1, g2⟩ => ⟨by rw [last_skip hPj]; exact g1, g2⟩⟩
        refine (plain1_any wj bE j _ g1).mono ?_
        rintro e w' ⟨rfl, g3, g4⟩
        exact ⟨rfl, by rw [last_next hPj]; exact g3, g2.trans g4⟩
      have heach := each_any (w := w3) (b := bR) hV ⟨hE3, Chg.refl _ _⟩ (fun j wj ⟨g1, g2⟩ => hP3.chg g2 (by omega)) (fun j wj ⟨g1, g2⟩ => hT3.tz.chg g2 (by have := hT3.ltz; omega)) hW
      have hlast : lastI (endsF s f k) (64 * wds s.length) = match maxOf (endsF s f k) s.length with | none => -1 | some e => (e : Int) := by
        rw [last_far hin _ (wds_lt (Nat.le_refl s.length)), last_max]
      have HL := Lib.hid hlast
      have HT3 := Lib.hid hT3
      have HR3 := Lib.hid hR3
      have HC3 := Lib.hid hC3
      clear hcall hP3 hlo3 hT3 hC3 hE3 hR3 hin hV hlast n1 n2 n3 n4 n5 n6 n7 n8 n9 n10
      go_wp2_with fail
      (with_reducible refine heach.mono ?_)
      rintro e9 w4 ⟨rfl, hE4, hC4⟩
      rw [HL.out] at hE4
      obtain ⟨n1, n2, n3, n4, n5, n6, n7, n8, n9, n10⟩ := HNUM.out
      have hT4 := HT3.out.put hC4 (fun h => h.2 rfl) (by omega) (by omega) (by omega)
      have hs34 := hC4.size
      have hR4 := (chg_blk hC4 (by omega) (by omega)).trans HR3.out
      have hG4 : Grows w w4 := by
        have hlo := HLO.out
        exact Chg.grows (n := 0) HG2.out (chg_late (HC3.out.mono (q := fun y => y = r ∨ y = bE) fun _ _ h => .inl h) hC4 fun _ _ h => .inr h) fun b hb => by omega
      have HT4 := Lib.hid hT4
      have HR4 := Lib.hid hR4
      have HG4 := Lib.hid hG4
      clear heach hT4 hR4 hG4 hC4 HT3 HR3 HC3 HL n1 n2 n3 n4 n5 n6 n7 n8 n9 n10
      cases hmx : maxOf (endsF s f k) s.length with
      | none =>
        rw [hmx] at hE4
        have e4 : w4.cell? ⟨bE, 0, none⟩ = some (.int .i64 (-1)) := Blk.cell hE4 (by simp) 0
        have HP2 : Hid (plainV s f q1 (k + 1) = R) := Lib.hid (by
          have := HP.out
          rw [HQ.out.2] at this
          unfold plainV at this
          rw [hmx] at this
          exact this)
        clear hE4 hmx
        go_wp2_with fail
        go_roundg q1
        case measure => have := HQ.out; omega
        case rel => exact ⟨k + 1, by simp, by have := HQ.out; omega, HT4.out.mono fun b _ h => h.1, HR4.out, HG4.out, HP2.out⟩
      | some e =>
        rw [hmx] at hE4
        obtain ⟨x1, x2, x3⟩ := maxOf_some hmx
        have hke : k ≤ e := (endsF_rises s f k e hkn x1).1
        have e4 : w4.cell? ⟨bE, 0, none⟩ = some (.int .i64 e) := Blk.cell hE4 (by simp) 0
        have hRs : R = some (spSet (giveV s f k e spNone) 0 k e) := by
          have := HP.out
          rw [HQ.out.2] at this
          unfold plainV at this
          rw [hmx] at this
          exact this.symm
        subst hRs
        have HE4 := Lib.hid hE4
        have HX := Lib.hid x1
        have hnone := none_any w4
        clear hE4 hmx x3 x1 HP HR
        go_wp2_with fail
        (with_reducible refine hnone.mono ?_)
        rintro e9 w5 ⟨rfl, hg5⟩
        obtain ⟨n1, n2, n3, n4, n5, n6, n7, n8, n9, n10⟩ := HNUM.out
        have hs45 := hg5.below.size
        have hs24 : w2.heap.size ≤ w4.heap.size := by omega
        have hg6 : Grows w5 (w5.alloc (.cells (spC spNone) 60)) := (Grows.refl _).alloc _
        obtain ⟨G, hGe⟩ : ∃ z, z = w5.heap.size := ⟨_, rfl⟩
        have hz6 : (w5.alloc (.cells (spC spNone) 60)).heap.size = w5.heap.size + 1 := by simp
        have hS6 : SpAt (w5.alloc (.cells (spC spNone) 60)) G spNone := ⟨blk_alloc_at _ _ _ _ hGe, rfl⟩
        have hg46 := hg5.trans hg6
        have hT6 := (HT4.out.away (c := G) (by omega)).grows hg46
        have hE6 := (chg_blk (Chg.of_grows (p := fun _ => False) hg46) (Blk.inHeap HE4.out (by simp)) (fun h => h)).trans HE4.out
        have hR6 := (chg_blk (Chg.of_grows (p := fun _ => False) hg46) (Blk.inHeap HR4.out (by rw [spC_size]; decide)) (fun h => h)).trans HR4.out
        have hNF6 : NfAt (fun b => b < lo) (w5.alloc (.cells (spC spNone) 60)) A cap f m := HNF.out.chg (Chg.of_grows (p := fun _ => False) (HG4.out.trans hg46)) fun _ _ _ h => h
        have hgive := mgive_ok hs HN.out f m A cap k e G spNone (fun b => (lo + 3 ≤ b ∧ b ≠ bE) ∧ b ≠ G) _ HALL.out hNF6 hT6 (fun b hb => by omega) hke x2 HX.out hS6 (fun h => h.2 rfl) (by omega) (by omega) (by omega)
        have e6 : (w5.alloc (.cells (spC spNone) 60)).cell? ⟨bE, 0, none⟩ = some (.int .i64 e) := Blk.cell hE6 (by simp) 0
        have iE6 : InHeap bE (w5.alloc (.cells (spC spNone) 60)) := Blk.inHeap hE6 (by simp)
        have HE6 := Lib.hid hE6
        have HR6 := Lib.hid hR6
        have HG6 := Lib.hid (HG4.out.trans hg46)
        have HGN := Lib.hid (show G = w5.heap.size ∧ G ≠ bE ∧ G ≠ r ∧ G ≠ R0 ∧ bE ≠ r ∧ R0 ≠ r ∧ w.heap.size ≤ G ∧ w.heap.size ≤ r ∧ w.heap.size ≤ R0 by have hlo := HLO.out; omega)
        clear hnone hT6 hE6 hR6 hNF6 hS6 hg6 hg46 hg5 HT4 HR4 HG4 HE4 e4 n1 n2 n3 n4 n5 n6 n7 n8 n9 n10
        go_upto_region 9 with fail
        rw [← hGe]
        clear hGe hz6
        generalize w5.alloc (.cells (spC spNone) 60) = w6 at *
        go_wp2_with fail
        (with_reducible refine hgive.mono ?_)
        rintro e9 w7 ⟨rfl, hS7, hT7, hC7⟩
        obtain ⟨n1, n2, n3, n4, n5, n6, n7, n8, n9⟩ := HGN.out
        have hE7 := (chg_blk hC7 (Blk.inHeap HE6.out (by simp)) (by omega)).trans HE6.out
        have hR7 := (chg_blk hC7 (Blk.inHeap HR6.out (by rw [spC_size]; decide)) (by omega)).trans HR6.out
        have e7 : w7.cell? ⟨bE, 0, none⟩ = some (.int .i64 e) := Blk.cell hE7 (by simp) 0
        have g0 := hS7.cell (k := 0) (by omega)
        have g1 := hS7.cell (k := 1) (by omega)
        have gf := hS7.free
        have iG : InHeap G w7 := hS7.inh
        have hG7 : Grows w w7 := Chg.grows (n := 0) HG6.out hC7 fun b hb => by omega
        have hS8 := hS7.put 0 k e
        have hc8 := sp_chg w7 G 0 (.int .i64 k) (.int .i64 e)
        rw [Nat.zero_mul] at hS8 hc8
        have hR8 := (chg_blk hc8 (Blk.inHeap hR7 (by rw [spC_size]; decide)) (fun e => n4 e.symm)).trans hR7
        have hG8 := Chg.grows (n := 0) hG7 hc8 fun b hb => by omega
        have hl8 := loadSp_all _ G _ hS8.eq (by rw [spC_size]; exact hS8.len)
        have hst8 := storeSp_all _ R0 (spC (spSet (giveV s f k e spNone) 0 k e)) hR8 (by rw [spC_size]; rfl) (by rw [spC_size]; exact hS8.len) (spC_one _)
        have hz0 : 0 < (spC spZero).size := by rw [spC_size]; decide
        have hgl : (spSet (giveV s f k e spNone) 0 k e).length = 20 := hS8.len
        generalize (giveV s f k e spNone).getD 0 0 = z0 at g0
        generalize (giveV s f k e spNone).getD 1 0 = z1 at g1
        have HS8 := Lib.hid hS8
        have HR8 := Lib.hid hR8
        have HG8 := Lib.hid hG8
        have HGL := Lib.hid hgl
        clear hgive hS7 hT7 hC7 hE7 hR7 hG7 hS8 hc8 hR8 hG8 hz0 hgl n1 n2 n3 n4 n5 n6 n7 n8 n9
        go_wp2_with fail
        exact bodyPost_ret (results_sp2 6 7 rfl rfl rfl (Blk.get _ HR8.out (by rw [spC_size]; decide)) (by rw [spC_size]; exact HGL.out)) rfl ⟨rfl, Chg.grows (n := 0) HG8.out (chg_setBlkM (K := fun b => b = R0) rfl) fun b hb => by have := HGN.out; omega⟩
    · have hki : ¬ (k : Int) ≤ (s.length : Int) := by omega
      have hkb : decide (k ≤ s.length) = false := decide_eq_false hkn
      have hq0 : gk = 0 := by omega
      have hRn : R = none := by rw [← hP, hq0]; rfl
      subst hRn
      have hst := storeSp_all wr R0 (spC spZero) hbR (by rw [spC_size]; rfl) (by rw [spC_size]; rfl) (spC_one _)
      rw [Blk.same hbR (by rw [spC_size]; decide)] at hst
      have HR9 := Lib.hid hbR
      have HG9 := Lib.hid hG
      clear hP HR hbR hG hT hq0 hq h1 h2 h3
      go_wp2_with fail
      exact bodyPost_ret (results_sp2 6 7 rfl rfl rfl HR9.out (by rw [spC_size]; rfl)) rfl ⟨rfl, HG9.out⟩
end
end Go.Proofs.YtkomggeionofbaaGreatDoor
