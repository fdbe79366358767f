/-
  Several texts of the proof: MatSp, MatSq, MatSa, MatSb.
-/
import Derived.Test.YtkomggeionofbaaGreatDoorPk24
import Derived.Test.YtkomggeionofbaaGreatDoorPk29
import Derived.Test.YtkomggeionofbaaGreatDoorPk26
import Derived.Deep.RegionLaw
import Derived.ArgAppend
set_option linter.unusedSimpArgs false
set_option linter.unusedVariables false
/-
  Matches by all ways, in plain words: what is gone through, event by event.
-/
namespace Go.Proofs.YtkomggeionofbaaGreatDoor
open Go.RowKit

/-- Ways: a row of how long, and within. -/
inductive Wy where
  | nil
  | cons (long : Nat) (kids rest : Wy)
def Wy.snoc : Wy → Nat → Wy → Wy
  | .nil, l, k => .cons l k .nil
  | .cons a b r, l, k => .cons a b (r.snoc l k)
def Wy.len : Wy → Nat
  | .nil => 0
  | .cons _ _ r => r.len + 1
/-- A try, or a way through. -/
inductive Ev where
  | tick
  | out (at_ : Nat) (g : Spn) (ws : Wy)
def bindE (h : Nat → Spn → Wy → List Ev) : Ev → List Ev
  | .tick => [.tick]
  | .out a g ws => h a g ws
/-- A repetition is gone through, of which some turns are done. -/
def evT (x : NdV) (R : Nat → Spn → List Ev) (U : Spn → Spn) : Nat → Nat → Nat → Spn → Wy → List Ev
  | 0, _, _, _, _ => []
  | F + 1, d, a, g, ws => (if x.mn ≤ d then [.out a g ws] else []) ++ (if 0 ≤ x.mx ∧ x.mx ≤ d then [] else (R a (U g)).flatMap (bindE fun e g2 tw => if a < e ∨ d < x.mn then evT x R U F (d + 1) e g2 (ws.snoc (e - a) tw) else []))
def fuelK (n : Nat) (x : NdV) (a d : Nat) : Nat := (n - a) + (if x.mx < 0 then x.mn - d else x.mx.toNat - d) + 1
/-- A row is gone through. -/
def evR (s : List UInt8) : Fr → Nat → Spn → Wy → List Ev
  | .nil, a, g, ws => [.out a g ws]
  | .cons x k r, a, g, ws =>
    if x.kind = 7 then (evR s k a g .nil).flatMap (bindE fun e g2 i => evR s r e (spSet g2 x.n a e) (ws.snoc (e - a) i))
    else if x.kind = 8 then (evT x (fun a g => evR s k a g .nil) (unsetV k) (fuelK s.length x a 0) 0 a g .nil).flatMap (bindE fun e g2 i => evR s r e g2 (ws.snoc (e - a) i))
    else .tick :: (match oneV x s a g with
      | none => []
      | some n => evR s r (a + n) g (ws.snoc n .nil))
/-- What is spent, and the best way so far. -/
structure Sg where
  spent : Nat
  best : Option (Spn × Wy)
def overB (fuel : Int) (σ : Sg) : Bool := decide (fuel < σ.spent)
def stepE (K : Nat → Spn → Wy → Sg → Sg) (fuel : Int) (σ : Sg) (ev : Ev) : Sg :=
  if overB fuel σ then σ else match ev with
    | .tick => { σ with spent := σ.spent + 1 }
    | .out a g ws => K a g ws σ
def runE (K : Nat → Spn → Wy → Sg → Sg) (fuel : Int) (l : List Ev) (σ : Sg) : Sg := l.foldl (stepE K fuel) σ
section
variable {K : Nat → Spn → Wy → Sg → Sg} {fuel : Int} {σ : Sg}
set_option maxRecDepth 3000 in
theorem run_over (l : List Ev) (h : overB fuel σ = true) : runE K fuel l σ = σ := by
  unfold runE
  induction l with
  | nil => rfl
  | cons e l ih => rw [List.foldl_cons, show stepE K fuel σ e = σ by unfold stepE; rw [if_pos h], ih]
set_option maxRecDepth 3000 in
theorem run_append (l m : List Ev) : runE K fuel (l ++ m) σ = runE K fuel m (runE K fuel l σ) := List.foldl_append
set_option maxRecDepth 3000 in
theorem run_cons (e : Ev) (l : List Ev) : runE K fuel (e :: l) σ = runE K fuel l (stepE K fuel σ e) := rfl
set_option maxRecDepth 3000 in
theorem run_bind (h : Nat → Spn → Wy → List Ev) (l : List Ev) : ∀ σ, runE K fuel (l.flatMap (bindE h)) σ = runE (fun a g ws σ => runE K fuel (h a g ws) σ) fuel l σ := by
  induction l with
  | nil => intro σ; rfl
  | cons e l ih =>
    intro σ
    rw [List.flatMap_cons, run_append, run_cons, ih]
    congr 1
    unfold stepE
    cases e with
    | tick => rfl
    | out a g ws =>
      unfold bindE
      by_cases ho : overB fuel σ = true
      · rw [if_pos ho, run_over _ ho]
      · rw [if_neg ho]
set_option maxRecDepth 3000 in
theorem run_one (a : Nat) (g : Spn) (ws : Wy) (h : overB fuel σ = false) : runE K fuel [.out a g ws] σ = K a g ws σ := by
  simp [runE, stepE, h]
end
end Go.Proofs.YtkomggeionofbaaGreatDoor

/-
  Matches by all ways, in plain words: what comes out stays within the text.
-/
namespace Go.Proofs.YtkomggeionofbaaGreatDoor
open Go.RowKit

set_option maxRecDepth 3000 in
theorem SpIn.unset {n : Nat} : ∀ {f : Fr} {g : Spn}, AllNd f → SpIn n g → SpIn n (unsetV f g) := by
  intro f
  induction f with
  | nil => intro g _ h; exact h
  | cons x k r ihk ihr =>
    rintro g ⟨h1, h2, h3⟩ h
    unfold unsetV
    refine ihr h3 (ihk h2 ?_)
    split
    · exact h.set h1.n (by omega) (by omega) (by omega)
    · exact h
end Go.Proofs.YtkomggeionofbaaGreatDoor

/-
  Matches by all ways: ways in memory; a row with one more.
-/
namespace Go.Proofs.YtkomggeionofbaaGreatDoor
open Go.RowKit

/-- The cells of a row of ways. -/
def WyRow (ok : Nat → Prop) (w : World) : Wy → List Value → Prop
  | .nil, xs => xs = []
  | .cons l k r, xs => ∃ (A : Option Addr) (cap : Nat) (ys zs : List Value), xs = .int .i64 l :: .slice A k.len cap :: zs ∧ SlZ 2 ok w A cap k.len ys ∧ WyRow ok w k ys ∧ WyRow ok w r zs ∧ l ≤ 100000
section
variable {ok ok2 q : Nat → Prop} {w w' : World} {A : Option Addr} {cap : Nat}
set_option maxRecDepth 3000 in
theorem WyRow.chg (hc : Chg q w w') (hp : ∀ b, b < w.heap.size → ok b → ¬ q b) : ∀ {f : Wy} {xs : List Value}, WyRow ok w f xs → WyRow ok w' f xs := by
  intro f
  induction f with
  | nil => exact fun h => h
  | cons l k r ihk ihr =>
    rintro xs ⟨A, cap, ys, zs, e, h1, h2, h3, h4⟩
    exact ⟨A, cap, ys, zs, e, h1.chg hc hp, ihk h2, ihr h3, h4⟩
set_option maxRecDepth 3000 in
theorem WyRow.mono (ho : ∀ b, b < w.heap.size → ok b → ok2 b) : ∀ {f : Wy} {xs : List Value}, WyRow ok w f xs → WyRow ok2 w f xs := by
  intro f
  induction f with
  | nil => exact fun h => h
  | cons l k r ihk ihr =>
    rintro xs ⟨A, cap, ys, zs, e, h1, h2, h3, h4⟩
    exact ⟨A, cap, ys, zs, e, h1.mono ho, ihk h2, ihr h3, h4⟩
set_option maxRecDepth 3000 in
theorem WyRow.snoc {l : Nat} {k : Wy} {A : Option Addr} {cap : Nat} {ys : List Value} (h1 : SlZ 2 ok w A cap k.len ys) (h2 : WyRow ok w k ys) (hl : l ≤ 100000) : ∀ {f : Wy} {xs : List Value}, WyRow ok w f xs → WyRow ok w (f.snoc l k) (xs ++ [.int .i64 l, .slice A k.len cap]) := by
  intro f
  induction f with
  | nil => intro xs h; cases h; exact ⟨A, cap, ys, [], rfl, h1, h2, rfl, hl⟩
  | cons l2 k2 r _ ihr =>
    rintro xs ⟨A2, cap2, ys2, zs, e, g1, g2, g3, g4⟩
    exact ⟨A2, cap2, ys2, zs ++ [.int .i64 l, .slice A k.len cap], by rw [e]; rfl, g1, g2, ihr g3, g4⟩
set_option maxRecDepth 3000 in
theorem WyRow.one : ∀ {f : Wy} {xs : List Value}, WyRow ok w f xs → ∀ v ∈ xs, v.oneCell' = true := by
  intro f
  induction f with
  | nil => intro xs h; cases h; simp
  | cons l k r _ ihr =>
    rintro xs ⟨A, cap, ys, zs, e, h1, h2, h3, h4⟩ v hv
    rw [e] at hv
    rcases List.mem_cons.1 hv with rfl | hv
    · rfl
    · rcases List.mem_cons.1 hv with rfl | hv
      · rfl
      · exact ihr h3 v hv
set_option maxRecDepth 3000 in
theorem Wy.len_snoc : ∀ {f : Wy} {l : Nat} {k : Wy}, (f.snoc l k).len = f.len + 1
  | .nil, _, _ => rfl
  | .cons _ _ r, l, k => by simp only [Wy.snoc, Wy.len, r.len_snoc]
/-- A slice of ways. -/
def WyAt (ok : Nat → Prop) (w : World) (A : Option Addr) (cap : Nat) (f : Wy) : Prop := ∃ xs, SlZ 2 ok w A cap f.len xs ∧ WyRow ok w f xs
set_option maxRecDepth 3000 in
theorem WyAt.chg {f : Wy} (h : WyAt ok w A cap f) (hc : Chg q w w') (hp : ∀ b, b < w.heap.size → ok b → ¬ q b) : WyAt ok w' A cap f := by
  obtain ⟨xs, h1, h2⟩ := h
  exact ⟨xs, h1.chg hc hp, h2.chg hc hp⟩
set_option maxRecDepth 3000 in
theorem WyAt.grows {f : Wy} (h : WyAt ok w A cap f) (hg : Grows w w') : WyAt ok w' A cap f := h.chg (Chg.of_grows (p := fun _ => False) hg) fun _ _ _ h => h
set_option maxRecDepth 3000 in
theorem WyAt.mono {f : Wy} (h : WyAt ok w A cap f) (ho : ∀ b, b < w.heap.size → ok b → ok2 b) : WyAt ok2 w A cap f := by
  obtain ⟨xs, h1, h2⟩ := h
  exact ⟨xs, h1.mono ho, h2.mono ho⟩
set_option maxRecDepth 3000 in
theorem WyAt.zero (ok : Nat → Prop) (w : World) : WyAt ok w none 0 .nil := ⟨[], SlZ.zero 2 ok w, rfl⟩
end
set_option maxRecDepth 3000 in
theorem elemWy : ElemOf Tryz.prog 117 150 2 32 := elemOf_of Tryz.underlying117 (by kernel_rfl) (by kernel_rfl) (z := .agg #[.int .i64 0, .slice none 0 0]) (by kernel_rfl) rfl (by decide) (by decide)
set_option maxRecDepth 3000 in
/-- append that makes a new row, as a step of a region that draws its order. -/
theorem step_append_grows {P : Program} {ops : Array Oper} {o : Oper} {a : Act} {K : Act → World → Prop} {Q : Exit → Act → World → Prop} {E : Prop} {w : World} {t e : TypeId} {size bytes : Nat} (hE : ElemOf P t e size bytes) (s x : Operand)
    (hgd : o.guard = none) (ho : o.op = .call { callee := .builtin .append, args := #[s, x], argTypes := #[t, t] })
    (ao : Option Addr) (n cap : Nat) (olds : List Value) (hs : a.eval s = .slice ao n cap) (hnone : ao = none → n = 0 ∧ cap = 0) (hR : Rd w size ao n olds)
    (kb : Nat) (c : Array Value) (hx : a.eval x = .slice (some ⟨kb, 0, none⟩) 1 1) (hb : blk w kb = c) (hc : c.size = size) (h1 : OneCells c) (hfull : cap < n + 1) (hn : n ≤ 1000000)
    (h : ∀ v' w', w'.ownsRow w.heap.size e size v' (n + 1) (olds ++ c.toList) → Chg (fun _ => False) w w' → K (a.put o.dst v') w') :
    if Region.wanted o (yielded ops a.tmps) = true then Oper.wp P o a w K Q else E := by
  obtain ⟨hu, ⟨i, z, hi, hz0, hz1, hz2, hz3⟩, hp, hlow⟩ := hE
  have hw : Region.wanted o (yielded ops a.tmps) = true := by simp [Region.wanted, hgd]
  rw [if_pos hw]
  have hby : (n + 1) * bytes ≤ 140737488355328 := by
    have h2 : (n + 1) * bytes ≤ (n + 1) * 100000 := Nat.mul_le_mul_left _ hlow
    omega
  have hnews := news_blk hb (by omega)
  have hl : c.toList.length = 1 * size := by simp [hc]
  have hchg : ∀ {w' : World}, w.grownBy w' none → Chg (fun _ => False) w w' := fun hg => ⟨hg.os, hg.tape, hg.output, hg.size, fun b hb _ => hg.block b hb (by simp)⟩
  cases ao with
  | some b =>
    have holds : ∀ j u, olds[j]? = some u → w.cell? (b.add j) = some u := fun j u hj => by
      have hn0 : 0 < n := by
        have := hR.1
        rcases Nat.eq_zero_or_pos n with e0 | e0
        · subst e0
          rw [List.eq_nil_of_length_eq_zero (l := olds) (by simpa using this)] at hj
          cases hj
        · exact e0
      obtain ⟨b', f, eq, _, hcell⟩ := hR.2 hn0
      injection eq with eq
      subst eq
      have hadd : (⟨b', f, none⟩ : Addr).add j = ⟨b', f + j, none⟩ := by unfold Addr.add; split <;> simp_all
      rw [hadd]
      exact hcell j u hj
    obtain ⟨v', w', hrun, r1, r2⟩ := run_append_arg_grows (P := P) w t o.type e i z size bytes hu hi hz0 hz1 hz2 hz3 hp b n cap olds hR.1 holds ⟨kb, 0, none⟩ 1 1 c.toList hl hnews hfull (by unfold maxLen; omega) hby
    unfold Oper.wp
    simp [execOp, ho, resolve, invoke, builtin, hs, hx, hrun, Result.andThen]
    exact h v' w' r1 (hchg r2)
  | none =>
    obtain ⟨rfl, rfl⟩ := hnone rfl
    obtain rfl : olds = [] := List.eq_nil_of_length_eq_zero (by simpa using hR.1)
    obtain ⟨v', w', hrun, r1, r2, _⟩ := run_append_own (P := P) w w.heap.size t o.type e i z size bytes hu hi hz0 hz1 hz2 hz3 hp (.slice none 0 0) 0 [] (World.ownsRow_nil w _ e size) ⟨kb, 0, none⟩ 1 1 c.toList hl hnews (one_blk h1) (by unfold maxLen; omega) hby (Nat.le_refl _)
    unfold Oper.wp
    simp [execOp, ho, resolve, invoke, builtin, hs, hx, hrun, Result.andThen]
    exact h v' w' r1 (hchg r2)
set_option maxRecDepth 3000 in
set_option maxHeartbeats 1000000 in
theorem clip_any (A : Option Addr) (n cap : Nat) (w : World) (hnil : A = none → n = 0 ∧ cap = 0) (hle : n ≤ cap) (h63 : cap ≤ 9223372036854775807) :
    Calls Tryz.prog 105 #[.slice A n cap] w fun e w' => e = .returned (.slice A n n) ∧ w' = w := by
  cases A with
  | none =>
    obtain ⟨rfl, rfl⟩ := hnil rfl
    go_enter Tryz.func105, Tryz.ntmps105
    go_wp2_with fail
    go_ret
    exact ⟨rfl, rfl⟩
  | some a =>
    obtain ⟨b, o, t⟩ := a
    go_enter Tryz.func105, Tryz.ntmps105
    go_wp2_with fail
    go_ret
    exact ⟨rfl, rfl⟩
end Go.Proofs.YtkomggeionofbaaGreatDoor

/-
  Matches by all ways: a row with one more, walked; is no fuel left.
-/
namespace Go.Proofs.YtkomggeionofbaaGreatDoor
open Go.RowKit

def bldSlWy (x : Array (Nat × Value)) : Sem Value := Instr.buildSlice 117 1 x
set_option maxRecDepth 3000 in
theorem bldSlWy_eq (x : Array (Nat × Value)) : Instr.buildSlice 117 1 x = bldSlWy x := rfl
set_option maxRecDepth 3000 in
theorem bldSlWy_run (w : World) (l : Int) (a : Option Addr) (n c : Nat) : (bldSlWy #[(0, .agg #[.int .i64 l, .slice a n c])]).run Tryz.prog w = .ok (.slice (some ⟨w.heap.size, 0, none⟩) 1 1) (w.alloc (.cells #[.int .i64 l, .slice a n c] 150)) := by kernel_rfl
set_option maxRecDepth 3000 in
theorem wy_one (l : Int) (a : Option Addr) (n c : Nat) : OneCells #[.int .i64 l, .slice a n c] := by
  unfold OneCells
  simp [Value.oneCell']
attribute [local go_sem ↓] bldSlWy_eq
attribute [local go_sem] bldSlWy_run
set_option maxRecDepth 3000 in
theorem clip_drew (A : Option Addr) (n cap : Nat) {w w0 : World} (hnil : A = none → n = 0 ∧ cap = 0) (hle : n ≤ cap) (h63 : cap ≤ 9223372036854775807) (_ : Grows w w0) :
    Calls Tryz.prog 105 #[.slice A n cap] w0 fun e w' => e = .returned (.slice A n n) ∧ w' = w0 := clip_any A n cap w0 hnil hle h63
set_option maxRecDepth 100000 in
set_option maxHeartbeats 4000000 in
theorem and_any {ok : Nat → Prop} (A : Option Addr) (cap : Nat) (ws : Wy) (l : Nat) (kA : Option Addr) (kc : Nat) (kids : Wy) (w : World) (h : WyAt ok w A cap ws) (hk : WyAt ok w kA kc kids) (hf : ∀ b, w.heap.size ≤ b → ok b) (hlen : ws.len ≤ 100000) (hl : l ≤ 100000) :
    Calls Tryz.prog 77 #[.slice A ws.len cap, .agg #[.int .i64 l, .slice kA kids.len kc]] w fun e w' => ∃ A' cap', e = .returned (.slice A' (ws.snoc l kids).len cap') ∧ WyAt ok w' A' cap' (ws.snoc l kids) ∧ Grows w w' := by
  obtain ⟨xs, hs, hr⟩ := h
  have hle := hs.le
  have h63 := hs.cap63
  have hnil := hs.nil
  have HS := Lib.hid hs
  have HR := Lib.hid hr
  have HK := Lib.hid hk
  have HF := Lib.hid hf
  have HNIL := Lib.hid hnil
  clear hs hr hk hf hnil
  go_enter Tryz.func77, Tryz.ntmps77
  go_upto_region 1 with fail
  have hL := (LaidAt.start w).alloc #[.int .i64 l, .slice kA kids.len kc] 150
  generalize w.alloc (Obj.cells #[.int .i64 l, .slice kA kids.len kc] 150) = w1 at *
  have hb1 : blk w1 w.heap.size = #[.int .i64 l, .slice kA kids.len kc] := hL.blk 0 _ rfl
  have hg1 := hL.grows
  have c0 : w1.cell? ⟨w.heap.size, 0, none⟩ = some (.int .i64 l) := Blk.cell hb1 (by simp) 0
  have c1 : w1.cell? ⟨w.heap.size, 1, none⟩ = some (.slice kA kids.len kc) := Blk.cell hb1 (by simp) 1
  have i0 : InHeap w.heap.size w1 := Blk.inHeap hb1 (by simp)
  have HG1 := Lib.hid hg1
  have HRD : Hid (∀ w', Grows w w' → Rd w' 2 A ws.len xs) := Lib.hid fun w' hg => HS.out.rd.chg (Chg.of_grows (p := fun _ => False) hg) fun _ _ _ h => h
  have hn6 : ws.len ≤ 1000000 := by omega
  have HFIN : Hid (∀ (w2 w3 w4 : World) (v' : Value), Grows w w2 → w3.ownsRow w2.heap.size 150 2 v' (ws.len + 1) (xs ++ (#[Value.int .i64 l, Value.slice kA kids.len kc] : Array Value).toList) → Chg (fun _ => False) w2 w3 → Grows w3 w4 → ∃ A' cap', v' = .slice A' (ws.snoc l kids).len cap' ∧ WyAt ok w4 A' cap' (ws.snoc l kids) ∧ Grows w w4) := Lib.hid (by
    intro w2 w3 w4 v' h1 h2 h3 h4
    obtain ⟨A9, cap9, rfl, g1, g2, g3, g4, g5⟩ := own_rdX h2
    have hg3 : Grows w w3 := Chg.grows (n := 0) h1 h3 fun b h => h.elim
    obtain ⟨ks, k1, k2⟩ := HK.out
    refine ⟨A9, cap9, by rw [Wy.len_snoc], WyAt.grows ⟨xs ++ [.int .i64 l, .slice kA kids.len kc], ⟨by rw [Wy.len_snoc]; exact g3, by rw [Wy.len_snoc]; exact g4, by rw [Wy.len_snoc]; exact g1, g2, fun _ a e => ?_⟩, ?_⟩ h4, hg3.trans h4⟩
    · obtain ⟨b, o, e2, _, _⟩ := g3.2 (by omega)
      subst e2
      cases e
      exact HF.out _ (Nat.le_trans h1.below.size (g5 b o none rfl).2.2.1)
    · have hc3 : Chg (fun _ => False) w w3 := Chg.of_grows hg3
      exact WyRow.snoc (k1.chg hc3 fun _ _ _ h => h) (k2.chg hc3 fun _ _ _ h => h) hl (HR.out.chg hc3 fun _ _ _ h => h))
  clear hL hb1 hg1
  go_region_law (first
    | (go_simp; (with_reducible refine Calls.mono (clip_drew A ws.len cap HNIL.out hle h63 (Grows.refl _)) ?_); rintro e w2 ⟨rfl, hw2⟩; subst hw2; dsimp only)
    | (refine step_append_grows elemWy (.tmp 6) (.tmp 8) (by rfl) (by rfl) A ws.len ws.len xs (by simp [Act.eval, Act.put]) (fun e => ⟨(HNIL.out e).1, (HNIL.out e).1⟩) (HRD.out _ (by repeat' first | exact HG1.out | refine Grows.alloc ?_ _ | refine Grows.drewN ?_ _ | refine Grows.drew ?_)) w1.heap.size #[.int .i64 l, .slice kA kids.len kc] (by simp [Act.eval, Act.put]) (by simp [go_sem]) rfl (wy_one _ _ _ _) (Nat.lt_succ_self _) hn6 ?_; intro v9 w9 hown9 hC9))
  all_goals
    obtain ⟨A9, cap9, rfl, hW9, hG9⟩ := HFIN.out _ w9 w9 v9 (by repeat' first | exact HG1.out | refine Grows.alloc ?_ _ | refine Grows.drewN ?_ _ | refine Grows.drew ?_) hown9 hC9 (Grows.refl _)
    have HW9 := Lib.hid hW9
    clear hown9 hC9 hW9
    go_wp2_with fail
    go_ret
    exact ⟨A9, cap9, rfl, HW9.out, hG9⟩
/-- A search in memory. -/
def srC (s : List UInt8) (fuel spent : Int) (b h : Value) : Array Value := #[.string (tx s), .int .i64 fuel, .int .i64 spent, b, h]
set_option maxRecDepth 3000 in
set_option maxHeartbeats 1000000 in
theorem over_any (w : World) (sb : Nat) (s : List UInt8) (fuel : Int) (spent : Nat) (b h : Value) (hb : blk w sb = srC s fuel spent b h) :
    Calls Tryz.prog 57 #[.pointer (some ⟨sb, 0, none⟩)] w fun e w' => e = .returned (.bool (decide (fuel < spent))) ∧ Grows w w' := by
  have c1 : w.cell? ⟨sb, 1, none⟩ = some (.int .i64 fuel) := Blk.cell hb (by simp [srC]) 1
  have c2 : w.cell? ⟨sb, 2, none⟩ = some (.int .i64 spent) := Blk.cell hb (by simp [srC]) 2
  have ig : InHeap sb w := Blk.inHeap hb (by simp [srC])
  clear hb
  go_enter Tryz.func57, Tryz.ntmps57
  go_upto_region 1 with fail
  go_quiet (fail)
  go_wp2_with fail
  go_ret
  exact ⟨rfl, by repeat' first | exact Grows.refl _ | refine Grows.drewN ?_ _ | refine Grows.drew ?_⟩
end Go.Proofs.YtkomggeionofbaaGreatDoor
