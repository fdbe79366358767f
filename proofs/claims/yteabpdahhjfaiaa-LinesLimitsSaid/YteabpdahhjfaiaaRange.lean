/-
  A range over a function whose iterator keeps a variable of its own in memory, and whose body always goes on: the statement's law.
  What is known between two rounds (I) must abide what the iterator does to its own variable; that is asked in the iterator's contract (hseq), not here.
-/
import Derived.Test.YteabpdahhjfaiaaKit
import Derived.RangeFuncNested
import Derived.RangeFuncBound
import Derived.RangeFuncCalls
import Derived.RangeFuncLeaves
import Derived.Shelf.Abstract
import Derived.OwnWalkIn
import Derived.TacticsInMore
import Derived.LoopNIn
import Derived.LoopIn
namespace Go.Proofs.Yteabpdahhjfaiaa
open Go.RowKit Go.Shelf

/-- What every way through a round's body must come to: it goes on, and the loop's two blocks lie as they lay. -/
def onPost (I : World → Prop) (B : Nat) (W : World) : Exit → Act → World → Prop
  | .normal, _, W' => I W' ∧ W'.heap[B]? = W.heap[B]? ∧ W'.heap[B + 1]? = W.heap[B + 1]?
  | _, _, _ => False

theorem range_all {P : Program} {n : Nat} {α : Type} {g : Operand} {ps : Array Tmp} {assign body : Code} {Q : Exit → Act → World → Prop} {a : Act} {w : World} {B : Nat} (hB : w.heap.size = B) {gf : Nat} {lb : Array Value}
    (hg : a.eval g = .func (.func gf) #[] lb) (eg : ∀ args w, (callFunc gf args).run P w = .ok (.enter gf args) w) (encs : α → Array Value) (hps : ∀ x, (encs x).size = ps.size) (xs : List α) (I : Nat → World → Prop)
    (hI : ∀ k W l o o', B ≤ l → W.heap[l]? = some o → o.isCells = false → I k W → I k (W.putObj l o'))
    (h0 : ∀ d r, I 0 ((w.alloc d).alloc r))
    (hseq : ∀ (l : Nat) (W : World) (J : Nat → World → Prop), l = B + 1 → (∀ k W, J k W → I k W) → (∀ k W W', J k W → I k W' → W'.heap[B]? = W.heap[B]? → W'.heap[B + 1]? = W.heap[B + 1]? → J k W') →
      (∃ d r, W = (w.alloc d).alloc r) →
      (∀ k x W1, xs[k]? = some x → J k W1 → YieldAt Fence.wide (n - 1 - 1) P l (encs x) W1 fun e W' => e = .returned (.bool true) ∧ J (k + 1) W') → J 0 W →
      CallsIn Fence.wide (n - 1) P gf (#[.func (.yield l) #[] #[]] ++ lb) W fun e W' => (∃ v, e = .returned v) ∧ J xs.length W')
    (a₁ : α → Act)
    (hassign : ∀ (l : Nat) (x : α) (W : World) (K : Act → World → Prop), K (a₁ x) W →
      assign.wpIn (Fence.wide.inRound l) (n - 1 - 1) P (Exit.then K (fun _ _ _ => False)) { tmps := (ps.zip (encs x)).foldl (fun t (p, v) => t.setIfInBounds p v) a.tmps, defers := [] } W)
    (hbody : ∀ (l k : Nat) (x : α) (W : World), xs[k]? = some x → I k W → B + 1 < W.heap.size → (∃ d, W.heap[B]? = some (.deferred d)) → (∃ r, W.heap[B + 1]? = some (.loop r)) →
      body.wpIn (Fence.wide.inRound l) (n - 1 - 1) P (onPost (I (k + 1)) B W) (a₁ x) W)
    (hdone : ∀ (W : World), I xs.length W → W.heap[B]? = some (.deferred (some [])) → Q .normal { a with defers := { target := .collected B, args := #[] } :: a.defers } W) :
    (Code.rangeFunc g ps assign body).wpIn Fence.wide n P Q a w := by
  subst hB
  refine wpIn_rangeFunc fun fn hfn => ?_
  obtain ⟨mk, hmk⟩ : ∃ mk : LoopState → Loop, mk = fun st => { state := st, pending := none, fn, tmps := a.tmps, params := ps, assign, body, defers := w.heap.size } := ⟨_, rfl⟩
  let W1 : World := (w.alloc (.deferred (some []))).alloc (.loop (mk .ready))
  have hL1 : W1.heap[w.heap.size + 1]? = some (.loop (mk .ready)) := by
    have := World.alloc_heap_new (w.alloc (.deferred (some []))) (.loop (mk .ready)); rwa [World.size_alloc] at this
  have hD1 : W1.heap[w.heap.size]? = some (.deferred (some [])) := (Below.heap_alloc _ _ _ (by simp)).trans (World.alloc_heap_new w _)
  refine ⟨w.heap.size + 1, [{ target := .collected w.heap.size, args := #[] }], W1, { target := .fn (.func gf) lb, args := #[.func (.yield (w.heap.size + 1)) #[] #[]] }, W1, gf,
    #[.func (.yield (w.heap.size + 1)) #[] #[]] ++ lb, W1, ?_, ?_, ?_, ?_, ?_, ?_⟩
  · show (Instr.enterLoop fn a.tmps ps assign body none).run P w = _
    rw [run_enterLoop_outer]
    show _ = Result.ok _ ((w.alloc (.deferred (some []))).alloc (.loop (mk .ready)))
    rw [hmk]
  · simp only [resolve, hg]
    simp [go_sem]
  · intro _ _; trivial
  · simp [invoke, go_sem, eg]
  · intro h; cases h
  · refine (hseq (w.heap.size + 1) W1 (fun k W => I k W ∧ W.heap[w.heap.size + 1]? = some (.loop (mk .ready)) ∧ W.heap[w.heap.size]? = some (.deferred (some []))) rfl (fun k W h => h.1)
      (fun k W W' h hi e1 e2 => ⟨hi, e2.trans h.2.1, e1.trans h.2.2⟩) ⟨_, _, rfl⟩ ?_ ⟨h0 _ _, hL1, hD1⟩).mono ?_
    · rintro k x W hx ⟨hi, hl, hd⟩
      have hlt : w.heap.size + 1 < W.heap.size := (Array.getElem?_eq_some_iff.1 hl).1
      have hy := run_yield (P := P) (args := encs x) hl (by rw [hmk]; exact hps x)
      rw [hmk] at hy
      refine ⟨fn, _, assign, body, hy, roundIn_of_wpIn hfn (hassign _ x W _ ?_)⟩
      clear hy
      refine ⟨_, run_beginRound hl (by rw [hmk]), ?_⟩
      have hl2 : (W.putObj (w.heap.size + 1) (.loop { mk .ready with state := .busy })).heap[w.heap.size + 1]? = some (.loop { mk .ready with state := .busy }) := World.putObj_heap_same hlt
      have hd2 : (W.putObj (w.heap.size + 1) (.loop { mk .ready with state := .busy })).heap[w.heap.size]? = some (.deferred (some [])) := (World.putObj_heap_other (by omega)).trans hd
      refine wpIn_mono (hbody _ k x _ hx (hI _ _ _ _ _ (by omega) hl rfl hi) (Array.getElem?_eq_some_iff.1 hl2).1 ⟨_, hd2⟩ ⟨_, hl2⟩) ?_
      intro e a3 W3 hp
      cases e with
      | normal =>
        obtain ⟨hi3, e1, e2⟩ := hp
        have hl3 := e2.trans hl2
        have hd3 := e1.trans hd2
        refine ⟨_, _, run_endRound (P := P) none hl3, rfl, hI _ _ _ _ _ (by omega) hl3 rfl hi3, ?_, (World.putObj_heap_other (by omega)).trans hd3⟩
        rw [World.putObj_heap_same (Array.getElem?_eq_some_iff.1 hl3).1, hmk]
        rfl
      | ret => exact hp.elim
      | exit _ => exact hp.elim
      | goto _ => exact hp.elim
      | panic _ => exact hp.elim
      | outgrown => exact hp.elim
    · rintro e W2 ⟨⟨v, rfl⟩, hi, hl, hd⟩
      have := run_endLoop (P := P) hl (by rw [hmk]; simp)
      rw [hmk] at this
      exact ⟨none, _, this, hdone _ (hI _ _ _ _ _ (by omega) hl rfl hi) ((World.putObj_heap_other (by omega)).trans hd)⟩
end Go.Proofs.Yteabpdahhjfaiaa
