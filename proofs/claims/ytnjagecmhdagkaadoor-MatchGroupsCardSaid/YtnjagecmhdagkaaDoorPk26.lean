/-
  Several texts of the proof: MatE, MatO, MatSp.
-/
import Derived.Test.YtnjagecmhdagkaaDoorPk23
import Derived.Test.YtnjagecmhdagkaaDoorPk02
import Derived.Test.YtnjagecmhdagkaaDoorPk25
set_option linter.unusedSimpArgs false
set_option linter.unusedVariables false
/-
  Matches: the places one by one, walked.
-/
namespace Go.Proofs.YtnjagecmhdagkaaDoor
open Go.RowKit

set_option maxRecDepth 3000 in
theorem tz_any (x : Nat) (hx0 : x ≠ 0) (hx : x < 18446744073709551616) (w : World) (hT : TzAt w) : Calls Tryd.prog 50 #[.int .u64 x] w fun e w' => e = .returned (.int .i64 (Lib.ctz 64 x)) ∧ w' = w := by
  obtain ⟨hlow, hk⟩ := Lib.lowest_bit 64 x hx0 hx
  obtain ⟨hi, htab⟩ := Lib.deBruijn64_at _ hk
  have hcell := hT _ hi
  rw [htab] at hcell
  exact tz_core x _ _ w (by simp; omega) (tz64_key x _ hx hx0 hlow) hi hk hcell
/-- A function value that is told each place of P, and keeps I. -/
structure EachV (v : Value) (W : Nat) (P : Pl) (f : FuncId) (caps : Array Value) (I : Nat → World → Prop) : Prop where
  val : v = .func (.func f) #[] caps
  enters : Enters f
  call : ∀ a w, a < 64 * W → P a = true → I a w → Calls Tryd.prog f (#[.int .i64 a] ++ caps) w fun e w' => e = .returned (.bool true) ∧ I (a + 1) w'
  skip : ∀ a w, P a = false → I a w → I (a + 1) w
set_option maxRecDepth 3000 in
theorem EachV.to {v : Value} {W : Nat} {P : Pl} {f : FuncId} {caps : Array Value} {I : Nat → World → Prop} (h : EachV v W P f caps I) {w : World} : ∀ (k a : Nat), (∀ i, a ≤ i → i < a + k → P i = false) → I a w → I (a + k) w
  | 0, _, _, hI => hI
  | k + 1, a, hP, hI => by
    have := EachV.to h k (a + 1) (fun i h1 h2 => hP i (by omega) (by omega)) (h.skip a w (hP a (Nat.le_refl _) (by omega)) hI)
    rwa [show a + 1 + k = a + (k + 1) by omega] at this
set_option maxRecDepth 3000 in
set_option maxHeartbeats 2000000 in
theorem each_any {w : World} {b W : Nat} {P : Pl} {v : Value} {f : FuncId} {caps : Array Value} {I : Nat → World → Prop} (hV : EachV v W P f caps I) (h0 : I 0 w) (hP : ∀ a w, I a w → PlAt w b W P) (hT : ∀ a w, I a w → TzAt w) (hW : W ≤ 1000) :
    Calls Tryd.prog 34 #[plV b W, v] w fun e w' => e = .returned (.tuple #[]) ∧ I (64 * W) w' := by
  have hv := hV.val
  subst hv
  have HV := Lib.hid hV
  have HI0 := Lib.hid h0
  have HP := Lib.hid hP
  have HT := Lib.hid hT
  clear hV h0 hP hT
  go_enter Tryd.func34, Tryd.ntmps34
  go_wp2_with fail
  go_loopg [4, 5, 8] W (fun q _ _ v8 wr => ∃ i : Nat, q + i = W ∧ v8 = .int .i64 i ∧ I (64 * i) wr)
  case atStart => exact ⟨0, by omega, rfl, HI0.out⟩
  case round =>
    obtain ⟨i, hq, rfl, hI⟩ := hrel
    obtain ⟨wx, hwx⟩ : ∃ z, z = wr := ⟨_, rfl⟩
    subst hwx
    obtain ⟨go, hgo⟩ : ∃ z, z = gk := ⟨_, rfl⟩
    subst hgo
    have HQ := Lib.hid hq
    have hiW : i ≤ W := by omega
    have HI := Lib.hid hI
    clear hq hI
    by_cases hi : i < W
    · have hix : (i : Int) < (W : Int) := by omega
      have c0 := (HP.out _ _ HI.out).cell hi
      go_wp2_with fail
      go_loopg [5] 64 (fun q v5 wr => ∃ n : Nat, q + n = 64 * i + 64 ∧ 64 * i ≤ n ∧ v5 = .int .u64 (wordN (fromP P n) i : Nat) ∧ I n wr)
      case atStart => exact ⟨64 * i, by omega, Nat.le_refl _, by rw [fromP_zero], HI.out⟩
      case round =>
        obtain ⟨n, hq2, hn, rfl, hI2⟩ := hrel
        obtain ⟨wy, hwy⟩ : ∃ z, z = wr := ⟨_, rfl⟩
        subst hwy
        have HQ2 := Lib.hid hq2
        have HI2 := Lib.hid hI2
        have hxlt := wordN_lt (fromP P n) i
        clear hq2 hI2 c0
        by_cases hx : wordN (fromP P n) i = 0
        · have hfin : I (64 * (i + 1)) wy := by
            have := HV.out.to (64 * i + 64 - n) n (fun j h1 h2 => word_zero hx j h1 (by omega) (by omega)) HI2.out
            rwa [show n + (64 * i + 64 - n) = 64 * (i + 1) by have := HQ2.out; omega] at this
          have HF := Lib.hid hfin
          have hgt : ¬ (0 : Int) < ((wordN (fromP P n) i : Nat) : Int) := by omega
          have hgtn : decide (0 < wordN (fromP P n) i) = false := decide_eq_false (by omega)
          clear hfin hx hxlt
          go_wp2_with fail
          go_roundg (go - 1)
          case measure => have := HQ.out; omega
          case rel => exact ⟨i + 1, by have := HQ.out; omega, by simp, HF.out⟩
        · obtain ⟨a, ha, hPa, hna, ha64, hno, hand⟩ := word_next hx hn
          have hIa : I a wy := by
            have := HV.out.to (a - n) n (fun j h1 h2 => hno j h1 (by omega)) HI2.out
            rwa [show n + (a - n) = a by omega] at this
          have hcall := HV.out.call a wy (by omega) hPa hIa
          have htz := tz_any (wordN (fromP P n) i) hx hxlt wy (HT.out _ _ HI2.out)
          obtain ⟨x, hxx⟩ : ∃ x, wordN (fromP P n) i = x := ⟨_, rfl⟩
          rw [hxx] at ha hx hxlt hand htz
          rw [hxx]
          obtain ⟨t, ht⟩ : ∃ t, Lib.ctz 64 x = t := ⟨_, rfl⟩
          rw [ht] at ha htz
          have hat : 64 * (i : Int) + (t : Int) = (a : Int) := by omega
          have hgt : (0 : Int) < (x : Int) := by omega
          have hgtn : 0 < x := by omega
          have hx1 : (x : Int) - 1 = ((x - 1 : Nat) : Int) := by omega
          have hx1w : IntKind.u64.wrap ((x - 1 : Nat) : Int) = ((x - 1 : Nat) : Int) := by rw [IntKind.wrap_u64]; omega
          have hbit : bits .and .u64 (x : Int) ((x - 1 : Nat) : Int) = ((wordN (fromP P (a + 1)) i : Nat) : Int) := by rw [bits_and_u64_nat _ _ hxlt (by omega), hand]
          have hent := HV.out.enters (#[.int .i64 a] ++ caps) wy
          have HC := Lib.hid hcall
          have HTZ := Lib.hid htz
          have HAA := Lib.hid (show a < 64 * i + 64 ∧ n ≤ a from ⟨ha64, hna⟩)
          have hal : a ≤ 64064 := by omega
          clear hcall htz ht hxx hno hand hPa hIa ha hna ha64 hx hgt
          generalize x - 1 = X1 at hx1 hx1w hbit
          obtain ⟨X2, hX2⟩ : ∃ X, wordN (fromP P (a + 1)) i = X := ⟨_, rfl⟩
          rw [hX2] at hbit
          have HX2 := Lib.hid hX2
          clear hX2
          go_wp2_with fail
          (with_reducible refine HTZ.out.mono ?_)
          rintro e w1 ⟨rfl, hw⟩
          have hw := hw.symm
          subst hw
          go_wp2_with fail
          (with_reducible refine HC.out.mono ?_)
          rintro e w2 ⟨rfl, hI3⟩
          have HI3 := Lib.hid hI3
          clear hI3
          go_wp2_with fail
          go_roundg (64 * i + 64 - (a + 1))
          case measure => have := HQ2.out; have := HAA.out; omega
          case rel => exact ⟨a + 1, by have := HAA.out; omega, by have := HAA.out; omega, by rw [HX2.out], HI3.out⟩
    · have hix : ¬ (i : Int) < (W : Int) := by omega
      have hin : decide (i < W) = false := decide_eq_false hi
      obtain rfl : i = W := by omega
      go_wp2_with fail
      exact ⟨rfl, .tuple #[], results_none rfl _ _ _, rfl, HI.out⟩
end Go.Proofs.YtnjagecmhdagkaaDoor

/-
  Matches: stretches of groups in memory; a node without kids at a place.
-/
namespace Go.Proofs.YtnjagecmhdagkaaDoor
open Go.RowKit

/-- Stretches as cells. -/
def spC (g : Spn) : Array Value := (g.map fun v => Value.int .i64 v).toArray
abbrev spV (g : Spn) : Value := .agg (spC g)
set_option maxRecDepth 3000 in
theorem spC_size (g : Spn) : (spC g).size = g.length := by simp [spC]
set_option maxRecDepth 3000 in
theorem spC_get {g : Spn} {k : Nat} (h : k < g.length) : (spC g)[k]? = some (.int .i64 (g.getD k 0)) := by simp [spC, h]
set_option maxRecDepth 3000 in
theorem spC_set (g : Spn) (k : Nat) (v : Int) : (spC g).setIfInBounds k (.int .i64 v) = spC (g.set k v) := by
  apply Array.toList_inj.1
  rw [Array.toList_setIfInBounds]
  simp [spC, List.map_set]
set_option maxRecDepth 3000 in
theorem spC_one (g : Spn) : OneCells (spC g) := by
  unfold OneCells
  rw [Array.all_eq_true_iff_forall_mem]
  intro v hv
  simp only [spC, List.mem_toArray, List.mem_map] at hv
  obtain ⟨x, _, rfl⟩ := hv
  rfl
set_option maxRecDepth 3000 in
theorem spC_inj {g h : Spn} (e : spC g = spC h) : g = h := by
  have e2 := congrArg Array.toList e
  simp only [spC, List.map_inj_left] at e2
  exact (List.map_inj_right (f := fun v => Value.int .i64 v) fun a b h => by injection h).1 e2
set_option maxRecDepth 3000 in
theorem rowSp : RowOf Tryd.prog 23 20 := ⟨_, Tryd.underlying23, rfl, by kernel_rfl⟩
set_option maxRecDepth 3000 in
theorem zeroSp (w : World) : (zeroValue 23).run Tryd.prog w = .ok (spV spZero) w := by kernel_rfl
def bldSp (x : Array (Nat × Value)) : Sem Value := Instr.build 23 x
set_option maxRecDepth 3000 in
theorem bldSp_eq (x : Array (Nat × Value)) : Instr.build 23 x = bldSp x := rfl
set_option maxRecDepth 3000 in
theorem bldSp_run (w : World) : (bldSp #[]).run Tryd.prog w = .ok (spV spZero) w := by kernel_rfl
section
variable (w : World) (g o : Nat) (c : Array Value)
def ldSp (x : Value) : Sem Value := Instr.loadAt 23 x
set_option maxRecDepth 3000 in
theorem ldSp_eq (x : Value) : Instr.loadAt 23 x = ldSp x := rfl
set_option maxRecDepth 3000 in
theorem loadSp : (ldSp (.pointer (some ⟨g, o, none⟩))).run Tryd.prog w = loadPart Tryd.prog w 23 g o 20 := rfl
set_option maxRecDepth 3000 in
theorem loadSp_if : loadPart Tryd.prog w 23 g o 20 = if 0 < 20 ∧ o + 20 ≤ (blk w g).size then .ok (.agg (span (blk w g) o 20)) w else loadPartOdd Tryd.prog w 23 g o 20 := loadPart_if w _ g o 20 rowSp
def stSp (x v : Value) : Sem Unit := Instr.storeAt 23 x v
set_option maxRecDepth 3000 in
theorem stSp_eq (x v : Value) : Instr.storeAt 23 x v = stSp x v := rfl
set_option maxRecDepth 3000 in
theorem storeSp : (stSp (.pointer (some ⟨g, o, none⟩)) (.agg c)).run Tryd.prog w = storePart Tryd.prog w 23 g o c := rfl
set_option maxRecDepth 3000 in
theorem storeSp_if (h : OneCells c) : storePart Tryd.prog w 23 g o c = if 0 < 20 ∧ o + 20 ≤ (blk w g).size ∧ c.size = 20 then .ok () (setBlk w g (over (blk w g) o c)) else storePartOdd Tryd.prog w 23 g o c := storePart_if w _ g o 20 c rowSp h
set_option maxRecDepth 3000 in
theorem loadSp_all (h : blk w g = c) (hs : c.size = 20) : loadPart Tryd.prog w 23 g 0 20 = .ok (.agg c) w := by
  rw [loadSp_if, if_pos (by rw [h]; omega), span_all (by rw [h]; exact hs), h]
set_option maxRecDepth 3000 in
theorem storeSp_all {d : Array Value} (h : blk w g = d) (hd : d.size = 20) (hs : c.size = 20) (h1 : OneCells c) : storePart Tryd.prog w 23 g 0 c = .ok () (setBlk w g c) := by
  rw [storeSp_if _ _ _ _ h1, if_pos (by rw [h]; omega), h, over_all (by omega)]
end
/-- Two variables were laid. -/
structure TwoAt (w : World) (c1 c2 : Array Value) (w' : World) : Prop where
  grows : Grows w w'
  size : w'.heap.size = w.heap.size + 2
  fst : blk w' w.heap.size = c1
  snd : blk w' (w.heap.size + 1) = c2
set_option maxRecDepth 3000 in
theorem TwoAt.start (w : World) (c1 c2 : Array Value) (t1 t2 : TypeId) : TwoAt w c1 c2 ((w.alloc (.cells c1 t1)).alloc (.cells c2 t2)) :=
  ⟨((Grows.refl w).alloc _).alloc _, by simp, by
    have hb := blk_alloc_at w c1 t1 _ rfl
    obtain ⟨m, hm⟩ := (Grows.refl (w.alloc (.cells c1 t1))).alloc (.cells c2 t2)
    rw [hm, blk_more _ _ _ (by unfold InHeap; simp)]
    exact hb, blk_alloc_at _ c2 t2 _ (by simp)⟩
set_option maxRecDepth 3000 in
theorem TwoAt.drew {w w' : World} {c1 c2 : Array Value} (h : TwoAt w c1 c2 w') : TwoAt w c1 c2 w'.drew := ⟨h.grows.drew, h.size, h.fst, h.snd⟩
set_option maxRecDepth 3000 in
theorem TwoAt.drewN {w w' : World} {c1 c2 : Array Value} (h : TwoAt w c1 c2 w') (n : Nat) : TwoAt w c1 c2 (w'.drewN n) := ⟨h.grows.drewN n, h.size, h.fst, h.snd⟩
/-- Stretches lie within a text of n bytes. -/
structure SpIn (n : Nat) (g : Spn) : Prop where
  len : g.length = 20
  lo : ∀ k, k < 10 → -1 ≤ spA g k ∧ spA g k ≤ spB g k ∧ spB g k ≤ n
set_option maxRecDepth 3000 in
theorem spIn_zero (n : Nat) : SpIn n spZero := ⟨rfl, fun k hk => by
  have : ∀ j, spZero.getD j 0 = 0 := fun j => by
    unfold spZero
    rw [List.getD_eq_getElem?_getD, List.getElem?_replicate]
    split <;> rfl
  unfold spA spB
  rw [this, this]
  omega⟩
set_option maxRecDepth 3000 in
theorem spIn_none (n : Nat) : SpIn n spNone := ⟨rfl, fun k hk => by
  have : ∀ j, j < 20 → spNone.getD j 0 = -1 := fun j hj => by
    unfold spNone
    rw [List.getD_eq_getElem?_getD, List.getElem?_replicate, if_pos hj]
    rfl
  unfold spA spB
  rw [this _ (by omega), this _ (by omega)]
  omega⟩
set_option maxRecDepth 3000 in
theorem sp_get_ne {g : Spn} {i j : Nat} {v : Int} (h : i ≠ j) : (g.set i v).getD j 0 = g.getD j 0 := by
  simp only [List.getD_eq_getElem?_getD, List.getElem?_set, if_neg h]
set_option maxRecDepth 3000 in
theorem sp_get_eq {g : Spn} {i : Nat} {v : Int} (h : i < g.length) : (g.set i v).getD i 0 = v := by
  simp [List.getD_eq_getElem?_getD, List.getElem?_set, h]
set_option maxRecDepth 3000 in
theorem spSet_A {g : Spn} {k j : Nat} {a b : Int} (hg : g.length = 20) (hk : k < 10) : spA (spSet g k a b) j = if j = k then a else spA g j := by
  unfold spA spSet
  by_cases e : j = k
  · subst e
    rw [if_pos rfl, sp_get_ne (by omega), sp_get_eq (by omega)]
  · rw [if_neg e, sp_get_ne (by omega), sp_get_ne (by omega)]
set_option maxRecDepth 3000 in
theorem spSet_B {g : Spn} {k j : Nat} {a b : Int} (hg : g.length = 20) (hk : k < 10) : spB (spSet g k a b) j = if j = k then b else spB g j := by
  unfold spB spSet
  by_cases e : j = k
  · subst e
    rw [if_pos rfl, sp_get_eq (by simp; omega)]
  · rw [if_neg e, sp_get_ne (by omega), sp_get_ne (by omega)]
set_option maxRecDepth 3000 in
theorem SpIn.set {n : Nat} {g : Spn} (h : SpIn n g) {k : Nat} (hk : k < 10) {a b : Int} (h1 : -1 ≤ a) (h2 : a ≤ b) (h3 : b ≤ n) : SpIn n (spSet g k a b) :=
  ⟨by rw [spSet_len]; exact h.len, fun j hj => by
    rw [spSet_A h.len hk, spSet_B h.len hk]
    split
    · exact ⟨h1, h2, h3⟩
    · exact h.lo j hj⟩
set_option maxRecDepth 3000 in
theorem spC_set2 (g : Spn) (k : Nat) (a b : Int) : ((spC g).setIfInBounds (2 * k) (.int .i64 a)).setIfInBounds (2 * k + 1) (.int .i64 b) = spC (spSet g k a b) := by
  rw [spC_set, spC_set]
  rfl
def oneI (x : NdV) (s : List UInt8) (a : Nat) (g : Spn) : Int := match oneV x s a g with | none => -1 | some k => k
end Go.Proofs.YtnjagecmhdagkaaDoor

/-
  Matches by all ways, in plain words: what is gone through, event by event.
-/
namespace Go.Proofs.YtnjagecmhdagkaaDoor
open Go.RowKit

/-- Ways: a row of how long, and within. -/
inductive Wy where
  | nil
  | cons (long : Nat) (kids rest : Wy)
def Wy.snoc : Wy → Nat → Wy → Wy
  | .nil, l, k => .cons l k .nil
  | .cons a b r, l, k => .cons a b (r.snoc l k)
def Wy.len : Wy → Nat
  | .nil => 0
  | .cons _ _ r => r.len + 1
/-- A try, or a way through. -/
inductive Ev where
  | tick
  | out (at_ : Nat) (g : Spn) (ws : Wy)
def bindE (h : Nat → Spn → Wy → List Ev) : Ev → List Ev
  | .tick => [.tick]
  | .out a g ws => h a g ws
/-- A repetition is gone through, of which some turns are done. -/
def evT (x : NdV) (R : Nat → Spn → List Ev) (U : Spn → Spn) : Nat → Nat → Nat → Spn → Wy → List Ev
  | 0, _, _, _, _ => []
  | F + 1, d, a, g, ws => (if x.mn ≤ d then [.out a g ws] else []) ++ (if 0 ≤ x.mx ∧ x.mx ≤ d then [] else (R a (U g)).flatMap (bindE fun e g2 tw => if a < e ∨ d < x.mn then evT x R U F (d + 1) e g2 (ws.snoc (e - a) tw) else []))
def fuelK (n : Nat) (x : NdV) (a d : Nat) : Nat := (n - a) + (if x.mx < 0 then x.mn - d else x.mx.toNat - d) + 1
/-- A row is gone through. -/
def evR (s : List UInt8) : Fr → Nat → Spn → Wy → List Ev
  | .nil, a, g, ws => [.out a g ws]
  | .cons x k r, a, g, ws =>
    if x.kind = 7 then (evR s k a g .nil).flatMap (bindE fun e g2 i => evR s r e (spSet g2 x.n a e) (ws.snoc (e - a) i))
    else if x.kind = 8 then (evT x (fun a g => evR s k a g .nil) (unsetV k) (fuelK s.length x a 0) 0 a g .nil).flatMap (bindE fun e g2 i => evR s r e g2 (ws.snoc (e - a) i))
    else .tick :: (match oneV x s a g with
      | none => []
      | some n => evR s r (a + n) g (ws.snoc n .nil))
/-- What is spent, and the best way so far. -/
structure Sg where
  spent : Nat
  best : Option (Spn × Wy)
def overB (fuel : Int) (σ : Sg) : Bool := decide (fuel < σ.spent)
def stepE (K : Nat → Spn → Wy → Sg → Sg) (fuel : Int) (σ : Sg) (ev : Ev) : Sg :=
  if overB fuel σ then σ else match ev with
    | .tick => { σ with spent := σ.spent + 1 }
    | .out a g ws => K a g ws σ
def runE (K : Nat → Spn → Wy → Sg → Sg) (fuel : Int) (l : List Ev) (σ : Sg) : Sg := l.foldl (stepE K fuel) σ
section
variable {K : Nat → Spn → Wy → Sg → Sg} {fuel : Int} {σ : Sg}
set_option maxRecDepth 3000 in
theorem run_over (l : List Ev) (h : overB fuel σ = true) : runE K fuel l σ = σ := by
  unfold runE
  induction l with
  | nil => rfl
  | cons e l ih => rw [List.foldl_cons, show stepE K fuel σ e = σ by unfold stepE; rw [if_pos h], ih]
set_option maxRecDepth 3000 in
theorem run_append (l m : List Ev) : runE K fuel (l ++ m) σ = runE K fuel m (runE K fuel l σ) := List.foldl_append
set_option maxRecDepth 3000 in
theorem run_cons (e : Ev) (l : List Ev) : runE K fuel (e :: l) σ = runE K fuel l (stepE K fuel σ e) := rfl
set_option maxRecDepth 3000 in
theorem run_bind (h : Nat → Spn → Wy → List Ev) (l : List Ev) : ∀ σ, runE K fuel (l.flatMap (bindE h)) σ = runE (fun a g ws σ => runE K fuel (h a g ws) σ) fuel l σ := by
  induction l with
  | nil => intro σ; rfl
  | cons e l ih =>
    intro σ
    rw [List.flatMap_cons, run_append, run_cons, ih]
    congr 1
    unfold stepE
    cases e with
    | tick => rfl
    | out a g ws =>
      unfold bindE
      by_cases ho : overB fuel σ = true
      · rw [if_pos ho, run_over _ ho]
      · rw [if_neg ho]
set_option maxRecDepth 3000 in
theorem run_congr {K2 : Nat → Spn → Wy → Sg → Sg} {P : Nat → Spn → Wy → Prop} (h : ∀ a g ws σ, P a g ws → K a g ws σ = K2 a g ws σ) : ∀ (l : List Ev), (∀ a g ws, Ev.out a g ws ∈ l → P a g ws) → ∀ σ, runE K fuel l σ = runE K2 fuel l σ := by
  intro l
  induction l with
  | nil => intro _ σ; rfl
  | cons e l ih =>
    intro hl σ
    rw [run_cons, run_cons, ih fun a g ws hm => hl a g ws (List.mem_cons_of_mem _ hm)]
    congr 1
    unfold stepE
    split
    · rfl
    · cases e with
      | tick => rfl
      | out a g ws => exact h a g ws σ (hl a g ws (List.mem_cons_self ..))
set_option maxRecDepth 3000 in
theorem run_one (a : Nat) (g : Spn) (ws : Wy) (h : overB fuel σ = false) : runE K fuel [.out a g ws] σ = K a g ws σ := by
  simp [runE, stepE, h]
end
set_option maxRecDepth 3000 in
theorem mem_bind {h : Nat → Spn → Wy → List Ev} {l : List Ev} {a : Nat} {g : Spn} {ws : Wy} (hm : Ev.out a g ws ∈ l.flatMap (bindE h)) : ∃ e g2 i, Ev.out e g2 i ∈ l ∧ Ev.out a g ws ∈ h e g2 i := by
  rw [List.mem_flatMap] at hm
  obtain ⟨ev, h1, h2⟩ := hm
  cases ev with
  | tick => simp [bindE] at h2
  | out e g2 i => exact ⟨e, g2, i, h1, h2⟩
/-- What comes out stays within the text. -/
def OutsIn (n a : Nat) (l : List Ev) : Prop := ∀ e g ws, Ev.out e g ws ∈ l → a ≤ e ∧ e ≤ n ∧ SpIn n g
set_option maxRecDepth 3000 in
theorem evT_in {n : Nat} {x : NdV} {R : Nat → Spn → List Ev} {U : Spn → Spn} (hR : ∀ a g, a ≤ n → SpIn n g → OutsIn n a (R a g)) (hU : ∀ g, SpIn n g → SpIn n (U g)) : ∀ (F d a : Nat) (g : Spn) (ws : Wy), a ≤ n → SpIn n g → OutsIn n a (evT x R U F d a g ws) := by
  intro F
  induction F with
  | zero => intro d a g ws _ _ e g2 ws2 h; cases h
  | succ F ih =>
    intro d a g ws ha hg e g2 ws2 h
    unfold evT at h
    rw [List.mem_append] at h
    rcases h with h | h
    · split at h
      · simp only [List.mem_singleton, Ev.out.injEq] at h
        obtain ⟨rfl, rfl, rfl⟩ := h
        exact ⟨Nat.le_refl _, ha, hg⟩
      · cases h
    · split at h
      · cases h
      · obtain ⟨e1, g1, i1, h1, h2⟩ := mem_bind h
        obtain ⟨k1, k2, k3⟩ := hR a (U g) ha (hU g hg) e1 g1 i1 h1
        split at h2
        · obtain ⟨m1, m2, m3⟩ := ih (d + 1) e1 g1 _ k2 k3 e g2 ws2 h2
          exact ⟨by omega, m2, m3⟩
        · cases h2
end Go.Proofs.YtnjagecmhdagkaaDoor
