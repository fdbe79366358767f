/-
  Chapter 19: what an undo brings back, and what an abort leaves: in plain words.
-/
import Derived.Test.YthanghgfakibnaaPk37
namespace Go.Proofs.Ythanghgfakibnaa
open Go.RowKit

/-- Lines that may be. -/
structure LOk (c : CoV) : Prop where
  s : lcheckV c.s.L = 0
  undo : ∀ s, c.undo = some s → lcheckV s.L = 0
  was : ∀ y, c.was = some y → lcheckV y.1.L = 0
section
variable {c : CoV}
set_option maxRecDepth 3000 in
theorem LOk.new {l : List (List UInt8)} (h : lcheckV l = 0) : LOk (coNew l) := ⟨h, (fun s h => by cases h), (fun y h => by cases h)⟩
set_option maxRecDepth 3000 in
theorem LOk.begin_ (h : LOk c) : LOk (coBegin c).1 := by
  unfold coBegin
  split
  · exact h
  · exact ⟨h.s, h.undo, (fun y e => by cases e; exact h.s)⟩
set_option maxRecDepth 3000 in
theorem LOk.splice (h : LOk c) (x : SpV) : LOk (coSplice c x).1 := by
  unfold coSplice
  split
  · exact h
  · split
    · exact h
    · rename_i h1 h2
      have h2 : (spliceV c.s.L x.at_ x.del x.ins).2 = 0 := by simpa using h2
      exact ⟨(spliceV_good h.s h2).2.2.2.2.2, h.undo, h.was⟩
set_option maxRecDepth 3000 in
theorem LOk.end_ (h : LOk c) : LOk (coEnd c).1 := by
  unfold coEnd
  split
  · exact h
  · rename_i y hy
    split
    · exact ⟨h.s, h.undo, (fun y h => by cases h)⟩
    · exact ⟨h.s, (fun s e => by cases e; exact h.was _ hy), (fun y h => by cases h)⟩
set_option maxRecDepth 3000 in
theorem LOk.abort (h : LOk c) : LOk (coAbort c) := by
  unfold coAbort
  split
  · exact h
  · rename_i y hy
    exact ⟨h.was _ hy, h.undo, (fun y h => by cases h)⟩
set_option maxRecDepth 3000 in
theorem LOk.undo_ (h : LOk c) : LOk (coUndo c).1 := by
  unfold coUndo
  split
  · exact h
  · split
    · exact h
    · rename_i s hs
      exact ⟨h.undo _ hs, (fun s e => by cases e; exact h.s), h.was⟩
set_option maxRecDepth 3000 in
theorem LOk.go (h : LOk c) (n : Int) : LOk (coGo c n).1 := by
  unfold coGo
  split
  · exact h
  · exact ⟨h.s, h.undo, h.was⟩
set_option maxRecDepth 3000 in
theorem LOk.mark (h : LOk c) (l n : Int) : LOk (coMark c l n).1 := by
  unfold coMark
  split
  · exact ⟨h.s, h.undo, h.was⟩
  · exact h
set_option maxRecDepth 3000 in
theorem LOk.act (h : LOk c) (s : AcC) : LOk (actV c s) := by
  unfold actV
  split
  · exact h.begin_
  · split
    · exact h.splice _
    · split
      · exact h.end_
      · split
        · exact h.abort
        · split
          · exact h.undo_
          · split
            · exact h.go _
            · split
              · exact h.mark _ _
              · exact h
set_option maxRecDepth 3000 in
theorem LOk.acts (h : LOk c) (L : List AcC) : LOk (actsV c L) := by
  unfold actsV
  induction L generalizing c with
  | nil => exact h
  | cons s L ih => exact ih (h.act s)
end
set_option maxRecDepth 3000 in
theorem madeV_ok {l : List (List UInt8)} (h : lcheckV l = 0) (L : List AcC) : LOk (madeV l L) := ((LOk.new h).acts L).end_
set_option maxRecDepth 3000 in
theorem coEnd_was (c : CoV) : (coEnd c).1.was = none := by
  unfold coEnd
  split
  · assumption
  · split <;> rfl
set_option maxRecDepth 3000 in
theorem madeV_was (l : List (List UInt8)) (L : List AcC) : (madeV l L).was = none := coEnd_was _

/-! ### a change -/
/-- Splices one behind the other, in plain words. -/
def foldS (d : List (List UInt8)) : List SpV → List (List UInt8) × Int
  | [] => (d, 0)
  | s :: L => if (doneV d s.at_ s.del s.ins).2 ≠ 0 then ([], (doneV d s.at_ s.del s.ins).2) else foldS (doneV d s.at_ s.del s.ins).1 L
set_option maxRecDepth 3000 in
theorem foldV_map (d : List (List UInt8)) (D : List Spx) : foldV d D = foldS d (D.map Spx.v) := by
  induction D generalizing d with
  | nil => rfl
  | cons s D ih =>
    simp only [foldV, List.map_cons, foldS, ih]
    rfl
set_option maxRecDepth 3000 in
theorem foldS_append {d d' : List (List UInt8)} {L : List SpV} (h : foldS d L = (d', 0)) (x : SpV) : foldS d (L ++ [x]) = foldS d' [x] := by
  induction L generalizing d with
  | nil => cases h; rfl
  | cons s L ih =>
    simp only [foldS, List.cons_append] at h ⊢
    split at h
    · rename_i h1
      exact absurd (congrArg Prod.snd h) h1
    · rename_i h1
      rw [if_neg h1]
      exact ih h
set_option maxRecDepth 3000 in
/-- A splice that is taken is one that All takes. -/
theorem doneV_splice {d ins : List (List UInt8)} {a e : Int} (h : (spliceV d a e ins).2 = 0) : doneV d a e ins = ((spliceV d a e ins).1, 0) := by
  obtain ⟨a1, a2, a3, a4, a5, a6, a7, a8⟩ := spliceV_ok h
  have h1 : spCheckV a e ins = 0 := by
    unfold spCheckV
    rw [if_neg (by omega), a5]
  have h2 : ¬ ((d.length : Int) < a ∨ (d.length : Int) - a < e) := by omega
  have h3 : ¬ 2000 < (d.length : Int) - e + ins.length := by omega
  unfold doneV
  rw [if_neg (by simp [h1]), if_neg h2, if_neg h3, a8]
  rw [show (a + e).toNat = a.toNat + e.toNat by omega]
/-- All that stands between a change's begin and its end. -/
structure InCh (b c : CoV) : Prop where
  was : c.was = some (b.s, b.regs)
  undo : c.undo = b.undo
  dirty : c.dirty = b.dirty
  last : c.last = b.last
  fold : foldS b.s.L c.did = (c.s.L, 0)
  nothing : c.did = [] → c.s = b.s
set_option maxRecDepth 3000 in
theorem InCh.start (b : CoV) : InCh b { b with was := some (b.s, b.regs), did := [] } := ⟨rfl, rfl, rfl, rfl, rfl, fun _ => rfl⟩
set_option maxRecDepth 3000 in
theorem InCh.splice {b c : CoV} (h : InCh b c) (x : SpV) : InCh b (coSplice c x).1 := by
  unfold coSplice
  split
  · exact h
  · split
    · exact h
    · rename_i h1 h2
      have h2 : (spliceV c.s.L x.at_ x.del x.ins).2 = 0 := by simpa using h2
      refine ⟨h.was, h.undo, h.dirty, h.last, ?_, fun e => by simp [coSpliced] at e⟩
      show foldS b.s.L (c.did ++ [x]) = _
      rw [foldS_append h.fold]
      simp [foldS, doneV_splice h2, coSpliced]
def spsV (c : CoV) (S : List SpV) : CoV := S.foldl (fun c x => (coSplice c x).1) c
set_option maxRecDepth 3000 in
theorem InCh.splices {b c : CoV} (h : InCh b c) (S : List SpV) : InCh b (spsV c S) := by
  unfold spsV
  induction S generalizing c with
  | nil => exact h
  | cons s S ih => exact ih (h.splice s)
set_option maxRecDepth 3000 in
theorem LOk.splices {c : CoV} (h : LOk c) (S : List SpV) : LOk (spsV c S) := by
  unfold spsV
  induction S generalizing c with
  | nil => exact h
  | cons s S ih => exact ih (h.splice s)
set_option maxRecDepth 3000 in
theorem spsV_take (c : CoV) (S : List SpV) (k : Nat) (h : k < S.length) : spsV c (S.take (k + 1)) = (coSplice (spsV c (S.take k)) S[k]).1 := by
  unfold spsV
  rw [List.take_add_one, List.getElem?_eq_getElem h, List.foldl_append]
  rfl
set_option maxRecDepth 3000 in
theorem spsV_did (c : CoV) (S : List SpV) : (spsV c S).did.length ≤ c.did.length + S.length := by
  unfold spsV
  induction S generalizing c with
  | nil => simp
  | cons s L ih =>
    have := ih (coSplice c s).1
    have := coSplice_did c s
    simp only [List.foldl_cons, List.length_cons]
    omega
set_option maxRecDepth 3000 in
theorem coBegin_none {b : CoV} (h : b.was = none) : coBegin b = ({ b with was := some (b.s, b.regs), did := [] }, 0) := by simp [coBegin, h]
set_option maxRecDepth 3000 in
/-- What the end of a change without splices leaves. -/
theorem InCh.end_nil {b c : CoV} (h : InCh b c) (hd : c.did = []) : (coEnd c).2 = [] ∧ (coEnd c).1.s = b.s := by
  unfold coEnd
  rw [h.was]
  simp [hd, h.nothing hd]
set_option maxRecDepth 3000 in
theorem InCh.end_some {b c : CoV} (h : InCh b c) (hd : c.did ≠ []) : coEnd c = ({ c with undo := some b.s, dirty := true, was := none, did := [] }, c.did) := by
  unfold coEnd
  rw [h.was]
  simp [hd]
set_option maxRecDepth 3000 in
theorem InCh.end_did {b c : CoV} (h : InCh b c) : (coEnd c).2 = c.did := by
  by_cases hd : c.did = []
  · rw [(h.end_nil hd).1, hd]
  · rw [h.end_some hd]
set_option maxRecDepth 3000 in
theorem InCh.end_s {b c : CoV} (h : InCh b c) : (coEnd c).1.s = c.s := by
  by_cases hd : c.did = []
  · rw [(h.end_nil hd).2, h.nothing hd]
  · rw [h.end_some hd]
set_option maxRecDepth 3000 in
/-- The two undos behind a change that has splices. -/
theorem InCh.back {b c : CoV} (h : InCh b c) (hd : c.did ≠ []) : coUndo (coEnd c).1 = ({ (coEnd c).1 with s := b.s, undo := some c.s, dirty := true }, 0) ∧ undoL (coEnd c).1 = [⟨0, c.s.L.length, b.s.L⟩] := by
  have h1 : coUndo (coEnd c).1 = ({ (coEnd c).1 with s := b.s, undo := some c.s, dirty := true }, 0) := by
    rw [h.end_some hd]
    simp [coUndo]
  refine ⟨h1, ?_⟩
  unfold undoL
  rw [if_pos (by rw [h1]), h1, h.end_s]
set_option maxRecDepth 3000 in
theorem InCh.again {b c : CoV} (h : InCh b c) (hd : c.did ≠ []) (c7 : CoV) (h7 : c7 = { (coEnd c).1 with s := b.s, undo := some c.s, dirty := true }) : coUndo c7 = ({ c7 with s := c.s, undo := some b.s, dirty := true }, 0) ∧ undoL c7 = [⟨0, b.s.L.length, c.s.L⟩] := by
  have h1 : coUndo c7 = ({ c7 with s := c.s, undo := some b.s, dirty := true }, 0) := by
    subst h7
    have := coEnd_was c
    simp [coUndo, this]
  refine ⟨h1, ?_⟩
  unfold undoL
  rw [if_pos (by rw [h1]), h1]
  subst h7
  rfl
set_option maxRecDepth 3000 in
/-- What an undo tells leads there. -/
theorem whole_back (d e : List (List UInt8)) (hd : lcheckV d = 0) (he : lcheckV e = 0) : foldS d [⟨0, d.length, e⟩] = (e, 0) := by
  have h1 := (lcheckV_good.1 hd).1
  have h2 := (lcheckV_good.1 he).1
  have h3 : doneV d 0 (d.length : Int) e = (e, 0) := by
    unfold doneV
    have h4 : spCheckV 0 (d.length : Int) e = 0 := by
      unfold spCheckV
      rw [if_neg (by omega), he]
    rw [if_neg (by simp [h4]), if_neg (by omega), if_neg (by omega)]
    simp
  simp [foldS, h3]
set_option maxRecDepth 3000 in
theorem spAllV_map {d : List (List UInt8)} (h : lcheckV d = 0) (D : List Spx) : spAllV d D = foldS d (D.map Spx.v) := by
  unfold spAllV
  rw [if_neg (by simp [h]), foldV_map]
end Go.Proofs.Ythanghgfakibnaa
