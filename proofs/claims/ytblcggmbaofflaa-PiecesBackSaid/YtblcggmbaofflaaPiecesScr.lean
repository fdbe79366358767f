/-
  Pieces: a world in which one block was written over.
-/
import Derived.Test.YtblcggmbaofflaaPiecesPtr
namespace Go.Proofs.Ytblcggmbaofflaa
open Go.RowKit

/-- w' is w, but for what lies in block g. -/
def Scr (g : Nat) (w w' : World) : Prop := w' = w ∨ ∃ c : Array Value, 0 < c.size ∧ c.size = (blk w g).size ∧ w' = setBlk w g c
theorem Scr.block {g : Nat} {w w' : World} (h : Scr g w w') (b : Nat) (hb : b ≠ g) : w'.heap[b]? = w.heap[b]? := by
  rcases h with rfl | ⟨c, _, _, rfl⟩
  · rfl
  · unfold setBlk; rw [setRow_other w g b c hb]
theorem Scr.size {g : Nat} {w w' : World} (h : Scr g w w') : w'.heap.size = w.heap.size := by
  rcases h with rfl | ⟨c, _, _, rfl⟩
  · rfl
  · simp
theorem Scr.tbl {g : Nat} {w w' : World} {T : Tbl} (h : Scr g w w') (hT : T.ok w) (hu : ¬ T.uses g) : T.ok w' := hT.same fun b hb => h.block b (fun e => hu (e ▸ hb))
theorem Scr.rd {g size n : Nat} {A : Option Addr} {xs : List Value} {w w' : World} (h : Scr g w w') (hR : Rd w size A n xs) (hu : ∀ a, A = some a → 0 < n → a.block ≠ g) : Rd w' size A n xs := hR.same fun a ha hn => h.block _ (hu a ha hn)
theorem Scr.grows {g : Nat} {w0 w w' : World} (h : Scr g w w') (hg : Grows w0 w) (hb : w0.heap.size ≤ g) : Grows w0 w' := by
  rcases h with rfl | ⟨c, _, _, rfl⟩
  · exact hg
  · exact Grows.of_below (below_setBlk hg.below hb)
/-- One store into the block. -/
theorem Scr.store {g i : Nat} {w w' : World} {v : Value} (h : Scr g w w') (hn : 0 < (blk w g).size) : Scr g w (w'.setCell ⟨g, i, none⟩ v) := by
  right
  rcases h with rfl | ⟨c, h1, h2, rfl⟩
  · exact ⟨(blk w' g).setIfInBounds i v, by simpa using hn, by simp, Blk.set rfl hn i v⟩
  · refine ⟨c.setIfInBounds i v, by simpa using h1, by simpa using h2, ?_⟩
    rw [Blk.set (c := c) (Blk.get c rfl hn) h1, Blk.set_set]
/-- What a store asks. -/
theorem Scr.cell {g i : Nat} {w w' : World} (h : Scr g w w') (hn : i < (blk w g).size) : (∃ u, w'.cell? ⟨g, i, none⟩ = some u) ∧ w'.frozen? ⟨g, i, none⟩ = false ∧ InHeap g w' := by
  have hb : ∃ c : Array Value, 0 < c.size ∧ i < c.size ∧ blk w' g = c := by
    rcases h with rfl | ⟨c, h1, h2, rfl⟩
    · exact ⟨_, by omega, hn, rfl⟩
    · exact ⟨c, h1, by omega, Blk.get c rfl (by omega)⟩
  obtain ⟨c, h1, h2, h3⟩ := hb
  exact ⟨⟨c[i], by rw [Blk.cell h3 h1]; simp [h2]⟩, Blk.free h3 h1 i, Blk.inHeap h3 h1⟩
/-- The block of a row that a call has laid. -/
theorem own_blk {w : World} {base g n cap : Nat} {xs : List Value} (h : w.ownsRow base 9 1 (.slice (some ⟨g, 0, none⟩) n cap) n xs) : n ≤ (blk w g).size ∧ base ≤ g ∧ g < w.heap.size := by
  rcases h.2 with ⟨e, _⟩ | ⟨g', c', cur, e, hb, hh, h1, h2, h3, _⟩
  · cases e
  · injection e with e1 e2 e3
    injection e1 with e1
    injection e1 with e1
    subst e1 e3
    refine ⟨?_, hb, (Array.getElem?_eq_some_iff.1 hh).1⟩
    unfold blk
    rw [hh]
    simp only []
    omega
theorem own_scr {w : World} {base n cap : Nat} {A : Option Addr} {xs : List Value} (h : w.ownsRow base 9 1 (.slice A n cap) n xs) : ∃ g, base ≤ g ∧ (0 < n → A = some ⟨g, 0, none⟩ ∧ n ≤ (blk w g).size) := by
  rcases h.2 with ⟨e, h0⟩ | ⟨g, c', cur, e, hb, hh, h1, h2, h3, _⟩
  · exact ⟨base, Nat.le_refl _, fun h => by omega⟩
  · injection e with e1 e2 e3
    subst e1 e3
    exact ⟨g, hb, fun _ => ⟨rfl, (own_blk (base := base) h).1⟩⟩
end Go.Proofs.Ytblcggmbaofflaa
