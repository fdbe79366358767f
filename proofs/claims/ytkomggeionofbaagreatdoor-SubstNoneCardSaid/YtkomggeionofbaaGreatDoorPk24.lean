/-
  Several texts of the proof: MatM, MatE, MatO.
-/
import Derived.Test.YtkomggeionofbaaGreatDoorPk23
import Derived.Test.YtkomggeionofbaaGreatDoorPk15
import Derived.Test.YtkomggeionofbaaGreatDoorPk01
set_option linter.unusedSimpArgs false
set_option linter.unusedVariables false
/-
  Matches: nodes get numbers.
-/
namespace Go.Proofs.YtkomggeionofbaaGreatDoor
open Go.RowKit

set_option maxRecDepth 3000 in
/-- A node's cells, read in one piece. -/
theorem nd_load {w : World} {b o : Nat} {c : Array Value} (hc : c.size = 262) (h : ∀ j u, c[j]? = some u → w.cell? ⟨b, o + j, none⟩ = some u) : loadPart Tryz.prog w 80 b o 262 = .ok (.agg c) w := by
  obtain ⟨d, hu, hd, hi⟩ := rowNode
  unfold loadPart
  simp only [Instr.loadAt, Instr.sureAddr, Sem.run_bind, Sem.run_pure, Result.andThen_ok]
  exact run_loadVar_cells w b o 80 c.toList d (fun j v hv => h j v (by rw [← Array.getElem?_toList]; exact hv)) hu hd (by rw [hi]; simp [hc])
def bldSlNm (x : Array (Nat × Value)) : Sem Value := Instr.buildSlice 89 1 x
set_option maxRecDepth 3000 in
theorem bldSlNm_eq (x : Array (Nat × Value)) : Instr.buildSlice 89 1 x = bldSlNm x := rfl
set_option maxRecDepth 3000 in
theorem bldSlNm_run (w : World) (k b : Int) (p : Nat → Bool) (n mn mx : Int) (a : Option Addr) (l d : Nat) (id : Int) (a2 : Option Addr) (l2 d2 : Nat) : (bldSlNm #[(0, .agg (nmA (ndA k b p n mn mx (.slice a l d)) id (.slice a2 l2 d2)))]).run Tryz.prog w = .ok (.slice (some ⟨w.heap.size, 0, none⟩) 1 1) (w.alloc (.cells (nmA (ndA k b p n mn mx (.slice a l d)) id (.slice a2 l2 d2)) 114)) := by kernel_rfl
set_option maxRecDepth 3000 in
theorem nm_one_slice (x : NdV) (a : Option Addr) (l d : Nat) (id : Int) (a2 : Option Addr) (l2 d2 : Nat) : OneCells (nmC x (.slice a l d) id (.slice a2 l2 d2)) := nmA_one (ndA_one_slice _ _ _ _ _ _ _ _ _) rfl
set_option maxRecDepth 3000 in
theorem over_nm (a b : Int) (p : Nat → Bool) (c d e : Int) (k : Value) (id : Int) (v : Value) (a' b' : Int) (p' : Nat → Bool) (c' d' e' : Int) (k' : Value) (id' : Int) (v' : Value) : over (nmA (ndA a b p c d e k) id v) 0 (nmA (ndA a' b' p' c' d' e' k') id' v') = nmA (ndA a' b' p' c' d' e' k') id' v' := over_all (by rw [nmA_size (ndA_size _ _ _ _ _ _ _), nmA_size (ndA_size _ _ _ _ _ _ _)])
set_option maxRecDepth 3000 in
theorem nm_size_nd (a b : Int) (p : Nat → Bool) (c d e : Int) (k : Value) (id : Int) (v : Value) : (nmA (ndA a b p c d e k) id v).size = 264 := nmA_size (ndA_size _ _ _ _ _ _ _)
set_option maxRecDepth 3000 in
theorem nm_one_nd (a b : Int) (p : Nat → Bool) (c d e : Int) (k : Option Addr) (l q : Nat) (id : Int) (a2 : Option Addr) (l2 d2 : Nat) : OneCells (nmA (ndA a b p c d e (.slice k l q)) id (.slice a2 l2 d2)) := nmA_one (ndA_one_slice _ _ _ _ _ _ _ _ _) rfl
set_option maxRecDepth 3000 in
theorem span_nm (a b : Int) (p : Nat → Bool) (c d e : Int) (k : Value) (id : Int) (v : Value) : span (nmA (ndA a b p c d e k) id v) 0 264 = nmA (ndA a b p c d e k) id v := span_all (nmA_size (ndA_size _ _ _ _ _ _ _))
/-- How things stand while nodes get numbers. -/
structure NbAt (W : World) (np : Nat) (k0 : Nat) (a : Fr) (v : Value) (xs : List Value) (w : World) : Prop where
  own : w.ownsRow W.heap.size 114 264 v a.len xs
  row : NfRow (fun b => W.heap.size ≤ b ∧ ¬ v.ownBlock = some b) w a k0 xs
  cnt : blk w np = #[.int .i64 (k0 + a.size : Nat)]
  chg : Chg (fun b => b = np) W w
set_option maxRecDepth 3000 in
theorem NbAt.start {W : World} {np k0 : Nat} (h : blk W np = #[.int .i64 k0]) : NbAt W np k0 .nil (.slice none 0 0) [] W :=
  ⟨World.ownsRow_nil _ _ _ _, rfl, by simpa [Fr.size] using h, Chg.refl _ _⟩
set_option maxRecDepth 3000 in
theorem NbAt.ret {W w : World} {np k0 : Nat} {a : Fr} {v : Value} {xs : List Value} (h : NbAt W np k0 a v xs w) : ∃ A cap, v = .slice A a.len cap ∧ NfAt (fun b => W.heap.size ≤ b) w A cap a k0 := by
  obtain ⟨A, cap, rfl, h1, h2, h3, h4, h5⟩ := own_rdX h.own
  refine ⟨A, cap, rfl, xs, ⟨h3, h4, h1, h2, fun hn a e => ?_⟩, h.row.mono fun b _ h => h.1⟩
  obtain ⟨b, o, e2, _, _⟩ := h3.2 hn
  subst e2
  cases e
  exact (h5 b o none rfl).2.2.1
set_option maxRecDepth 3000 in
theorem NbAt.push {W w w3 w9 : World} {np k0 e9 cap9 cK capk : Nat} {a kids : Fr} {x : NdV} {v : Value} {xs : List Value} {K A : Option Addr} (h : NbAt W np k0 a v xs w) (hnp : np < W.heap.size)
    (hC : Chg (fun b => b = np) w w3) (hcnt : blk w3 np = #[.int .i64 (k0 + a.size + 1 + kids.size : Nat)]) (hk : NfAt (fun b => w.heap.size ≤ b) w3 A cK kids (k0 + a.size + 1))
    (hown : w9.ownsRow W.heap.size 114 264 (.slice (some ⟨e9, 0, none⟩) (a.len + 1) cap9) (a.len + 1) (xs ++ (nmC x (.slice K kids.len capk) ((k0 : Int) + a.size) (.slice A kids.len cK)).toList))
    (hC9 : Chg (fun b => v.ownBlock = some b) w3 w9) (hl : v.ownBlock = some e9 ∨ w3.heap.size ≤ e9) :
    NbAt W np k0 (a.app (Fr.one x kids)) (.slice (some ⟨e9, 0, none⟩) (a.len + 1) cap9) (xs ++ (nmC x (.slice K kids.len capk) ((k0 : Int) + a.size) (.slice A kids.len cK)).toList) w9 := by
  have hid : ((k0 : Int) + (a.size : Int)) = ((k0 + a.size : Nat) : Int) := by omega
  rw [hid] at hown ⊢
  have hvl : ∀ b, v.ownBlock = some b → b < w.heap.size ∧ W.heap.size ≤ b := fun b hb => own_ltX h.own hb
  have hWw := h.chg.size
  have hw3 := hC.size
  have hne : ∀ b, b < w3.heap.size → ¬ v.ownBlock = some b → ¬ (Value.slice (some ⟨e9, 0, none⟩) (a.len + 1) cap9).ownBlock = some b := fun b hb h1 h2 => by
    obtain rfl : e9 = b := Option.some.inj h2
    rcases hl with h3 | h3
    · exact h1 h3
    · omega
  have hlen : (a.app (Fr.one x kids)).len = a.len + 1 := by rw [Fr.len_app]; rfl
  have hsz : (a.app (Fr.one x kids)).size = a.size + 1 + kids.size := by rw [Fr.size_app]; simp [Fr.one, Fr.size]; omega
  have inp : InHeap np w3 := Blk.inHeap hcnt (by simp)
  refine ⟨by rw [hlen]; exact hown, ?_, ?_, chg_late (h.chg.trans hC) hC9 fun b hb e => by have := hvl b e; omega⟩
  · refine NfRow.app ?_ ⟨K, kids.len, capk, A, cK, hk.choose, [], by simp, ?_, ?_, rfl⟩
    · exact (((h.row.mono (ok2 := fun b => (W.heap.size ≤ b ∧ ¬ (Value.slice (some ⟨e9, 0, none⟩) (a.len + 1) cap9).ownBlock = some b) ∧ ¬ v.ownBlock = some b) fun b hb k => ⟨⟨k.1, hne b (by omega) k.2⟩, k.2⟩).chg hC fun b _ k e => by have := k.1.1; omega).chg hC9 fun b _ k => k.2).mono fun b _ k => k.1
    · exact ((hk.choose_spec.1.mono (ok2 := fun b => (W.heap.size ≤ b ∧ ¬ (Value.slice (some ⟨e9, 0, none⟩) (a.len + 1) cap9).ownBlock = some b) ∧ ¬ v.ownBlock = some b) fun b hb k => by
        have : ¬ v.ownBlock = some b := fun e => by have := hvl b e; omega
        exact ⟨⟨by omega, hne b hb this⟩, this⟩).chg hC9 fun b _ k => k.2).mono fun b _ k => k.1
    · exact ((hk.choose_spec.2.mono (ok2 := fun b => (W.heap.size ≤ b ∧ ¬ (Value.slice (some ⟨e9, 0, none⟩) (a.len + 1) cap9).ownBlock = some b) ∧ ¬ v.ownBlock = some b) fun b hb k => by
        have : ¬ v.ownBlock = some b := fun e => by have := hvl b e; omega
        exact ⟨⟨by omega, hne b hb this⟩, this⟩).chg hC9 fun b _ k => k.2).mono fun b _ k => k.1
  · rw [chg_blk hC9 inp fun e => by have := hvl np e; omega, hcnt, hsz]
    congr 3
    omega
end Go.Proofs.YtkomggeionofbaaGreatDoor

/-
  Matches: the places one by one, walked.
-/
namespace Go.Proofs.YtkomggeionofbaaGreatDoor
open Go.RowKit

set_option maxRecDepth 3000 in
theorem tz_any (x : Nat) (hx0 : x ≠ 0) (hx : x < 18446744073709551616) (w : World) (hT : TzAt w) : Calls Tryz.prog 85 #[.int .u64 x] w fun e w' => e = .returned (.int .i64 (Lib.ctz 64 x)) ∧ w' = w := by
  obtain ⟨hlow, hk⟩ := Lib.lowest_bit 64 x hx0 hx
  obtain ⟨hi, htab⟩ := Lib.deBruijn64_at _ hk
  have hcell := hT _ hi
  rw [htab] at hcell
  exact tz_core x _ _ w (by simp; omega) (tz64_key x _ hx hx0 hlow) hi hk hcell
/-- A function value that is told each place of P, and keeps I. -/
structure EachV (v : Value) (W : Nat) (P : Pl) (f : FuncId) (caps : Array Value) (I : Nat → World → Prop) : Prop where
  val : v = .func (.func f) #[] caps
  enters : Enters f
  call : ∀ a w, a < 64 * W → P a = true → I a w → Calls Tryz.prog f (#[.int .i64 a] ++ caps) w fun e w' => e = .returned (.bool true) ∧ I (a + 1) w'
  skip : ∀ a w, P a = false → I a w → I (a + 1) w
set_option maxRecDepth 3000 in
theorem EachV.to {v : Value} {W : Nat} {P : Pl} {f : FuncId} {caps : Array Value} {I : Nat → World → Prop} (h : EachV v W P f caps I) {w : World} : ∀ (k a : Nat), (∀ i, a ≤ i → i < a + k → P i = false) → I a w → I (a + k) w
  | 0, _, _, hI => hI
  | k + 1, a, hP, hI => by
    have := EachV.to h k (a + 1) (fun i h1 h2 => hP i (by omega) (by omega)) (h.skip a w (hP a (Nat.le_refl _) (by omega)) hI)
    rwa [show a + 1 + k = a + (k + 1) by omega] at this
set_option maxRecDepth 3000 in
set_option maxHeartbeats 2000000 in
theorem each_any {w : World} {b W : Nat} {P : Pl} {v : Value} {f : FuncId} {caps : Array Value} {I : Nat → World → Prop} (hV : EachV v W P f caps I) (h0 : I 0 w) (hP : ∀ a w, I a w → PlAt w b W P) (hT : ∀ a w, I a w → TzAt w) (hW : W ≤ 1000) :
    Calls Tryz.prog 59 #[plV b W, v] w fun e w' => e = .returned (.tuple #[]) ∧ I (64 * W) w' := by
  have hv := hV.val
  subst hv
  have HV := Lib.hid hV
  have HI0 := Lib.hid h0
  have HP := Lib.hid hP
  have HT := Lib.hid hT
  clear hV h0 hP hT
  go_enter Tryz.func59, Tryz.ntmps59
  go_wp2_with fail
  go_loopg [4, 5, 8] W (fun q _ _ v8 wr => ∃ i : Nat, q + i = W ∧ v8 = .int .i64 i ∧ I (64 * i) wr)
  case atStart => exact ⟨0, by omega, rfl, HI0.out⟩
  case round =>
    obtain ⟨i, hq, rfl, hI⟩ := hrel
    obtain ⟨wx, hwx⟩ : ∃ z, z = wr := ⟨_, rfl⟩
    subst hwx
    obtain ⟨go, hgo⟩ : ∃ z, z = gk := ⟨_, rfl⟩
    subst hgo
    have HQ := Lib.hid hq
    have hiW : i ≤ W := by omega
    have HI := Lib.hid hI
    clear hq hI
    by_cases hi : i < W
    · have hix : (i : Int) < (W : Int) := by omega
      have c0 := (HP.out _ _ HI.out).cell hi
      go_wp2_with fail
      go_loopg [5] 64 (fun q v5 wr => ∃ n : Nat, q + n = 64 * i + 64 ∧ 64 * i ≤ n ∧ v5 = .int .u64 (wordN (fromP P n) i : Nat) ∧ I n wr)
      case atStart => exact ⟨64 * i, by omega, Nat.le_refl _, by rw [fromP_zero], HI.out⟩
      case round =>
        obtain ⟨n, hq2, hn, rfl, hI2⟩ := hrel
        obtain ⟨wy, hwy⟩ : ∃ z, z = wr := ⟨_, rfl⟩
        subst hwy
        have HQ2 := Lib.hid hq2
        have HI2 := Lib.hid hI2
        have hxlt := wordN_lt (fromP P n) i
        clear hq2 hI2 c0
        by_cases hx : wordN (fromP P n) i = 0
        · have hfin : I (64 * (i + 1)) wy := by
            have := HV.out.to (64 * i + 64 - n) n (fun j h1 h2 => word_zero hx j h1 (by omega) (by omega)) HI2.out
            rwa [show n + (64 * i + 64 - n) = 64 * (i + 1) by have := HQ2.out; omega] at this
          have HF := Lib.hid hfin
          have hgt : ¬ (0 : Int) < ((wordN (fromP P n) i : Nat) : Int) := by omega
          have hgtn : decide (0 < wordN (fromP P n) i) = false := decide_eq_false (by omega)
          clear hfin hx hxlt
          go_wp2_with fail
          go_roundg (go - 1)
          case measure => have := HQ.out; omega
          case rel => exact ⟨i + 1, by have := HQ.out; omega, by simp, HF.out⟩
        · obtain ⟨a, ha, hPa, hna, ha64, hno, hand⟩ := word_next hx hn
          have hIa : I a wy := by
            have := HV.out.to (a - n) n (fun j h1 h2 => hno j h1 (by omega)) HI2.out
            rwa [show n + (a - n) = a by omega] at this
          have hcall := HV.out.call a wy (by omega) hPa hIa
          have htz := tz_any (wordN (fromP P n) i) hx hxlt wy (HT.out _ _ HI2.out)
          obtain ⟨x, hxx⟩ : ∃ x, wordN (fromP P n) i = x := ⟨_, rfl⟩
          rw [hxx] at ha hx hxlt hand htz
          rw [hxx]
          obtain ⟨t, ht⟩ : ∃ t, Lib.ctz 64 x = t := ⟨_, rfl⟩
          rw [ht] at ha htz
          have hat : 64 * (i : Int) + (t : Int) = (a : Int) := by omega
          have hgt : (0 : Int) < (x : Int) := by omega
          have hgtn : 0 < x := by omega
          have hx1 : (x : Int) - 1 = ((x - 1 : Nat) : Int) := by omega
          have hx1w : IntKind.u64.wrap ((x - 1 : Nat) : Int) = ((x - 1 : Nat) : Int) := by rw [IntKind.wrap_u64]; omega
          have hbit : bits .and .u64 (x : Int) ((x - 1 : Nat) : Int) = ((wordN (fromP P (a + 1)) i : Nat) : Int) := by rw [bits_and_u64_nat _ _ hxlt (by omega), hand]
          have hent := HV.out.enters (#[.int .i64 a] ++ caps) wy
          have HC := Lib.hid hcall
          have HTZ := Lib.hid htz
          have HAA := Lib.hid (show a < 64 * i + 64 ∧ n ≤ a from ⟨ha64, hna⟩)
          have hal : a ≤ 64064 := by omega
          clear hcall htz ht hxx hno hand hPa hIa ha hna ha64 hx hgt
          generalize x - 1 = X1 at hx1 hx1w hbit
          obtain ⟨X2, hX2⟩ : ∃ X, wordN (fromP P (a + 1)) i = X := ⟨_, rfl⟩
          rw [hX2] at hbit
          have HX2 := Lib.hid hX2
          clear hX2
          go_wp2_with fail
          (with_reducible refine HTZ.out.mono ?_)
          rintro e w1 ⟨rfl, hw⟩
          have hw := hw.symm
          subst hw
          go_wp2_with fail
          (with_reducible refine HC.out.mono ?_)
          rintro e w2 ⟨rfl, hI3⟩
          have HI3 := Lib.hid hI3
          clear hI3
          go_wp2_with fail
          go_roundg (64 * i + 64 - (a + 1))
          case measure => have := HQ2.out; have := HAA.out; omega
          case rel => exact ⟨a + 1, by have := HAA.out; omega, by have := HAA.out; omega, by rw [HX2.out], HI3.out⟩
    · have hix : ¬ (i : Int) < (W : Int) := by omega
      have hin : decide (i < W) = false := decide_eq_false hi
      obtain rfl : i = W := by omega
      go_wp2_with fail
      exact ⟨rfl, .tuple #[], results_none rfl _ _ _, rfl, HI.out⟩
end Go.Proofs.YtkomggeionofbaaGreatDoor

/-
  Matches: stretches of groups in memory; a node without kids at a place.
-/
namespace Go.Proofs.YtkomggeionofbaaGreatDoor
open Go.RowKit

/-- Stretches as cells. -/
def spC (g : Spn) : Array Value := (g.map fun v => Value.int .i64 v).toArray
abbrev spV (g : Spn) : Value := .agg (spC g)
set_option maxRecDepth 3000 in
theorem spC_size (g : Spn) : (spC g).size = g.length := by simp [spC]
set_option maxRecDepth 3000 in
theorem spC_get {g : Spn} {k : Nat} (h : k < g.length) : (spC g)[k]? = some (.int .i64 (g.getD k 0)) := by simp [spC, h]
set_option maxRecDepth 3000 in
theorem spC_set (g : Spn) (k : Nat) (v : Int) : (spC g).setIfInBounds k (.int .i64 v) = spC (g.set k v) := by
  apply Array.toList_inj.1
  rw [Array.toList_setIfInBounds]
  simp [spC, List.map_set]
set_option maxRecDepth 3000 in
theorem spC_one (g : Spn) : OneCells (spC g) := by
  unfold OneCells
  rw [Array.all_eq_true_iff_forall_mem]
  intro v hv
  simp only [spC, List.mem_toArray, List.mem_map] at hv
  obtain ⟨x, _, rfl⟩ := hv
  rfl
set_option maxRecDepth 3000 in
theorem rowSp : RowOf Tryz.prog 60 20 := ⟨_, Tryz.underlying60, rfl, by kernel_rfl⟩
set_option maxRecDepth 3000 in
theorem zeroSp (w : World) : (zeroValue 60).run Tryz.prog w = .ok (spV spZero) w := by kernel_rfl
def bldSp (x : Array (Nat × Value)) : Sem Value := Instr.build 60 x
set_option maxRecDepth 3000 in
theorem bldSp_eq (x : Array (Nat × Value)) : Instr.build 60 x = bldSp x := rfl
set_option maxRecDepth 3000 in
theorem bldSp_run (w : World) : (bldSp #[]).run Tryz.prog w = .ok (spV spZero) w := by kernel_rfl
section
variable (w : World) (g o : Nat) (c : Array Value)
def ldSp (x : Value) : Sem Value := Instr.loadAt 60 x
set_option maxRecDepth 3000 in
theorem ldSp_eq (x : Value) : Instr.loadAt 60 x = ldSp x := rfl
set_option maxRecDepth 3000 in
theorem loadSp : (ldSp (.pointer (some ⟨g, o, none⟩))).run Tryz.prog w = loadPart Tryz.prog w 60 g o 20 := rfl
set_option maxRecDepth 3000 in
theorem loadSp_if : loadPart Tryz.prog w 60 g o 20 = if 0 < 20 ∧ o + 20 ≤ (blk w g).size then .ok (.agg (span (blk w g) o 20)) w else loadPartOdd Tryz.prog w 60 g o 20 := loadPart_if w _ g o 20 rowSp
def stSp (x v : Value) : Sem Unit := Instr.storeAt 60 x v
set_option maxRecDepth 3000 in
theorem stSp_eq (x v : Value) : Instr.storeAt 60 x v = stSp x v := rfl
set_option maxRecDepth 3000 in
theorem storeSp : (stSp (.pointer (some ⟨g, o, none⟩)) (.agg c)).run Tryz.prog w = storePart Tryz.prog w 60 g o c := rfl
set_option maxRecDepth 3000 in
theorem storeSp_if (h : OneCells c) : storePart Tryz.prog w 60 g o c = if 0 < 20 ∧ o + 20 ≤ (blk w g).size ∧ c.size = 20 then .ok () (setBlk w g (over (blk w g) o c)) else storePartOdd Tryz.prog w 60 g o c := storePart_if w _ g o 20 c rowSp h
set_option maxRecDepth 3000 in
theorem loadSp_all (h : blk w g = c) (hs : c.size = 20) : loadPart Tryz.prog w 60 g 0 20 = .ok (.agg c) w := by
  rw [loadSp_if, if_pos (by rw [h]; omega), span_all (by rw [h]; exact hs), h]
set_option maxRecDepth 3000 in
theorem storeSp_all {d : Array Value} (h : blk w g = d) (hd : d.size = 20) (hs : c.size = 20) (h1 : OneCells c) : storePart Tryz.prog w 60 g 0 c = .ok () (setBlk w g c) := by
  rw [storeSp_if _ _ _ _ h1, if_pos (by rw [h]; omega), h, over_all (by omega)]
end
/-- Two variables were laid. -/
structure TwoAt (w : World) (c1 c2 : Array Value) (w' : World) : Prop where
  grows : Grows w w'
  size : w'.heap.size = w.heap.size + 2
  fst : blk w' w.heap.size = c1
  snd : blk w' (w.heap.size + 1) = c2
set_option maxRecDepth 3000 in
theorem TwoAt.start (w : World) (c1 c2 : Array Value) (t1 t2 : TypeId) : TwoAt w c1 c2 ((w.alloc (.cells c1 t1)).alloc (.cells c2 t2)) :=
  ⟨((Grows.refl w).alloc _).alloc _, by simp, by
    have hb := blk_alloc_at w c1 t1 _ rfl
    obtain ⟨m, hm⟩ := (Grows.refl (w.alloc (.cells c1 t1))).alloc (.cells c2 t2)
    rw [hm, blk_more _ _ _ (by unfold InHeap; simp)]
    exact hb, blk_alloc_at _ c2 t2 _ (by simp)⟩
set_option maxRecDepth 3000 in
theorem TwoAt.drew {w w' : World} {c1 c2 : Array Value} (h : TwoAt w c1 c2 w') : TwoAt w c1 c2 w'.drew := ⟨h.grows.drew, h.size, h.fst, h.snd⟩
set_option maxRecDepth 3000 in
theorem TwoAt.drewN {w w' : World} {c1 c2 : Array Value} (h : TwoAt w c1 c2 w') (n : Nat) : TwoAt w c1 c2 (w'.drewN n) := ⟨h.grows.drewN n, h.size, h.fst, h.snd⟩
/-- Stretches lie within a text of n bytes. -/
structure SpIn (n : Nat) (g : Spn) : Prop where
  len : g.length = 20
  lo : ∀ k, k < 10 → -1 ≤ spA g k ∧ spA g k ≤ spB g k ∧ spB g k ≤ n
set_option maxRecDepth 3000 in
theorem spIn_zero (n : Nat) : SpIn n spZero := ⟨rfl, fun k hk => by
  have : ∀ j, spZero.getD j 0 = 0 := fun j => by
    unfold spZero
    rw [List.getD_eq_getElem?_getD, List.getElem?_replicate]
    split <;> rfl
  unfold spA spB
  rw [this, this]
  omega⟩
set_option maxRecDepth 3000 in
theorem spIn_none (n : Nat) : SpIn n spNone := ⟨rfl, fun k hk => by
  have : ∀ j, j < 20 → spNone.getD j 0 = -1 := fun j hj => by
    unfold spNone
    rw [List.getD_eq_getElem?_getD, List.getElem?_replicate, if_pos hj]
    rfl
  unfold spA spB
  rw [this _ (by omega), this _ (by omega)]
  omega⟩
set_option maxRecDepth 3000 in
theorem sp_get_ne {g : Spn} {i j : Nat} {v : Int} (h : i ≠ j) : (g.set i v).getD j 0 = g.getD j 0 := by
  simp only [List.getD_eq_getElem?_getD, List.getElem?_set, if_neg h]
set_option maxRecDepth 3000 in
theorem sp_get_eq {g : Spn} {i : Nat} {v : Int} (h : i < g.length) : (g.set i v).getD i 0 = v := by
  simp [List.getD_eq_getElem?_getD, List.getElem?_set, h]
set_option maxRecDepth 3000 in
theorem spSet_A {g : Spn} {k j : Nat} {a b : Int} (hg : g.length = 20) (hk : k < 10) : spA (spSet g k a b) j = if j = k then a else spA g j := by
  unfold spA spSet
  by_cases e : j = k
  · subst e
    rw [if_pos rfl, sp_get_ne (by omega), sp_get_eq (by omega)]
  · rw [if_neg e, sp_get_ne (by omega), sp_get_ne (by omega)]
set_option maxRecDepth 3000 in
theorem spSet_B {g : Spn} {k j : Nat} {a b : Int} (hg : g.length = 20) (hk : k < 10) : spB (spSet g k a b) j = if j = k then b else spB g j := by
  unfold spB spSet
  by_cases e : j = k
  · subst e
    rw [if_pos rfl, sp_get_eq (by simp; omega)]
  · rw [if_neg e, sp_get_ne (by omega), sp_get_ne (by omega)]
set_option maxRecDepth 3000 in
theorem SpIn.set {n : Nat} {g : Spn} (h : SpIn n g) {k : Nat} (hk : k < 10) {a b : Int} (h1 : -1 ≤ a) (h2 : a ≤ b) (h3 : b ≤ n) : SpIn n (spSet g k a b) :=
  ⟨by rw [spSet_len]; exact h.len, fun j hj => by
    rw [spSet_A h.len hk, spSet_B h.len hk]
    split
    · exact ⟨h1, h2, h3⟩
    · exact h.lo j hj⟩
set_option maxRecDepth 3000 in
theorem spC_set2 (g : Spn) (k : Nat) (a b : Int) : ((spC g).setIfInBounds (2 * k) (.int .i64 a)).setIfInBounds (2 * k + 1) (.int .i64 b) = spC (spSet g k a b) := by
  rw [spC_set, spC_set]
  rfl
def oneI (x : NdV) (s : List UInt8) (a : Nat) (g : Spn) : Int := match oneV x s a g with | none => -1 | some k => k
end Go.Proofs.YtkomggeionofbaaGreatDoor
