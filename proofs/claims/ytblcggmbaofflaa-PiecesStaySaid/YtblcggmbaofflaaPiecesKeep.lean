/-
  Pieces: the tables that were made, and the lists that they had, kept in two rows of the call's own.
-/
import Derived.Test.YtblcggmbaofflaaPiecesPtr
import Derived.Maps.AppendAt
namespace Go.Proofs.Ytblcggmbaofflaa
open Go.RowKit

/-- Two rows of the call's own: tables, and lists. -/
structure Kept (base : Nat) (w : World) (gm cm gh ch : Nat) (Ts : List Tbl) (ps : List Part) : Prop where
  made : w.ownsRow base 27 1 (.slice (some ⟨gm, 0, none⟩) Ts.length cm) Ts.length (Ts.map Tbl.val)
  had : w.ownsRow base 22 1 (.slice (some ⟨gh, 0, none⟩) ps.length ch) ps.length (pv ps)
  apart : gm ≠ gh
  tabs : ∀ T ∈ Ts, T.ok w ∧ ¬T.uses gm ∧ ¬T.uses gh
  parts : ∀ p ∈ ps, p.good w ∧ ∀ a, p.A = some a → 0 < p.d.length → a.block ≠ gm ∧ a.block ≠ gh
section
variable {base gm cm gh ch : Nat} {w w' : World} {Ts : List Tbl} {ps : List Part}
theorem own_block {e : TypeId} {n g c : Nat} {xs : List Value} (h : w.ownsRow base e 1 (.slice (some ⟨g, 0, none⟩) n c) n xs) : base ≤ g ∧ g < w.heap.size := by
  rcases h.2 with ⟨h1, _⟩ | ⟨g', cap, cur, hv, hb, hh, _⟩
  · cases h1
  · injection hv with h1 _ _
    injection h1 with h1
    injection h1 with h1
    subst h1
    exact ⟨hb, (Array.getElem?_eq_some_iff.1 hh).1⟩
theorem Kept.grows (h : Kept base w gm cm gh ch Ts ps) (hg : Grows w w') : Kept base w' gm cm gh ch Ts ps :=
  ⟨own_grows1 h.1 hg, own_grows1 h.2 hg, h.3, fun T hT => ⟨(h.4 T hT).1.grows hg, (h.4 T hT).2⟩, fun p hp => ⟨(h.5 p hp).1.grows hg, (h.5 p hp).2⟩⟩
theorem Part.good.same {p : Part} (h : p.good w) (hk : ∀ a, p.A = some a → 0 < p.d.length → w'.heap[a.block]? = w.heap[a.block]?) : p.good w' :=
  ⟨⟨h.1.1.same fun a ha hn => hk a ha hn, h.1.2⟩, h.2⟩
/-- An append to a row of the call's own: every other block stays. -/
theorem grown_other {o : Obj} {g b : Nat} {w1 : World} (h : (w.alloc o).grownBy w1 (some g)) (hb : b < w.heap.size) (hne : b ≠ g) : w1.heap[b]? = w.heap[b]? := by
  rw [h.block b (by simp; omega) (by simpa using hne)]
  exact heap_alloc_old _ _ hb
theorem own_other {e : TypeId} {o : Obj} {g n c b : Nat} {xs : List Value} {w1 : World} (h : (w.alloc o).grownBy w1 (some g)) (hne : b ≠ g) (hr : w.ownsRow base e 1 (.slice (some ⟨b, 0, none⟩) n c) n xs) : w1.ownsRow base e 1 (.slice (some ⟨b, 0, none⟩) n c) n xs := by
  have hb := (own_block hr).2
  refine ⟨hr.1, hr.2.elim Or.inl ?_⟩
  rintro ⟨g', cap, cur, hv, hb', hh, r⟩
  injection hv with h1 h2 h3
  injection h1 with h1
  injection h1 with h1
  subst h1 h3
  exact Or.inr ⟨b, _, cur, rfl, hb', by rw [grown_other h hb hne]; exact hh, r⟩
theorem own_new {e : TypeId} {o : Obj} {g n : Nat} {v : Value} {xs : List Value} {w1 : World} (hr : w1.ownsRow base e 1 v (n + 1) xs) (hat : v.ownBlock = some g ∨ v.ownBlock = some (w.alloc o).heap.size) :
    ∃ g' c', v = .slice (some ⟨g', 0, none⟩) (n + 1) c' ∧ (g' = g ∨ w.heap.size ≤ g') := by
  rcases hr.2 with ⟨rfl, h1⟩ | ⟨g', cap, cur, rfl, hb, hh, _⟩
  · omega
  · refine ⟨g', cap, rfl, ?_⟩
    simp [Value.ownBlock] at hat
    rcases hat with h | h
    · exact .inl h
    · exact .inr (by omega)
theorem Kept.push_made {o : Obj} {v : Value} {w1 : World} {U : Tbl} (h : Kept base w gm cm gh ch Ts ps) (hU : U.ok w) (hm : ¬U.uses gm) (hh : ¬U.uses gh)
    (hr : w1.ownsRow base 27 1 v (Ts.length + 1) (Ts.map Tbl.val ++ [U.val])) (hg : (w.alloc o).grownBy w1 (some gm)) (hat : v.ownBlock = some gm ∨ v.ownBlock = some (w.alloc o).heap.size) :
    ∃ gm' cm', v = .slice (some ⟨gm', 0, none⟩) (Ts.length + 1) cm' ∧ Kept base w1 gm' cm' gh ch (Ts ++ [U]) ps := by
  obtain ⟨g', c', rfl, hgo⟩ := own_new hr hat
  have hall : ∀ T ∈ Ts ++ [U], T.ok w ∧ ¬T.uses gm ∧ ¬T.uses gh := by
    intro T hT
    rcases List.mem_append.1 hT with hT | hT
    · exact h.tabs T hT
    · obtain rfl : T = U := by simpa using hT
      exact ⟨hU, hm, hh⟩
  have hgh := (own_block h.had).2
  refine ⟨g', c', rfl, ⟨by simpa using hr, own_other hg (fun e => h.apart e.symm) h.had, ?_, ?_, ?_⟩⟩
  · rcases hgo with rfl | h1
    · exact h.apart
    · omega
  · intro T hT
    obtain ⟨h1, h2, h3⟩ := hall T hT
    refine ⟨h1.same fun b hb => grown_other hg (h1.lt b hb) (fun e => h2 (e ▸ hb)), fun hu => ?_, h3⟩
    rcases hgo with rfl | h4
    · exact h2 hu
    · have := h1.lt _ hu; omega
  · intro p hp
    obtain ⟨h1, h2⟩ := h.parts p hp
    refine ⟨h1.same fun a ha hn => grown_other hg (h1.1.1.lt hn a ha) (h2 a ha hn).1, fun a ha hn => ⟨?_, (h2 a ha hn).2⟩⟩
    rcases hgo with rfl | h4
    · exact (h2 a ha hn).1
    · have := h1.1.1.lt hn a ha; omega
theorem Kept.push_had {o : Obj} {v : Value} {w1 : World} {q : Part} (h : Kept base w gm cm gh ch Ts ps) (hq : q.good w) (hf : ∀ a, q.A = some a → 0 < q.d.length → a.block ≠ gm ∧ a.block ≠ gh)
    (hr : w1.ownsRow base 22 1 v (ps.length + 1) (pv ps ++ [q.val])) (hg : (w.alloc o).grownBy w1 (some gh)) (hat : v.ownBlock = some gh ∨ v.ownBlock = some (w.alloc o).heap.size) :
    ∃ gh' ch', v = .slice (some ⟨gh', 0, none⟩) (ps.length + 1) ch' ∧ Kept base w1 gm cm gh' ch' Ts (ps ++ [q]) := by
  obtain ⟨g', c', rfl, hgo⟩ := own_new hr hat
  have hall : ∀ p ∈ ps ++ [q], p.good w ∧ ∀ a, p.A = some a → 0 < p.d.length → a.block ≠ gm ∧ a.block ≠ gh := by
    intro p hp
    rcases List.mem_append.1 hp with hp | hp
    · exact h.parts p hp
    · obtain rfl : p = q := by simpa using hp
      exact ⟨hq, hf⟩
  have hgm := (own_block h.made).2
  refine ⟨g', c', rfl, ⟨own_other hg h.apart h.made, by simpa [pv] using hr, ?_, ?_, ?_⟩⟩
  · rcases hgo with rfl | h1
    · exact h.apart
    · omega
  · intro T hT
    obtain ⟨h1, h2, h3⟩ := h.tabs T hT
    refine ⟨h1.same fun b hb => grown_other hg (h1.lt b hb) (fun e => h3 (e ▸ hb)), h2, fun hu => ?_⟩
    rcases hgo with rfl | h4
    · exact h3 hu
    · have := h1.lt _ hu; omega
  · intro p hp
    obtain ⟨h1, h2⟩ := hall p hp
    refine ⟨h1.same fun a ha hn => grown_other hg (h1.1.1.lt hn a ha) (h2 a ha hn).2, fun a ha hn => ⟨(h2 a ha hn).1, ?_⟩⟩
    rcases hgo with rfl | h4
    · exact (h2 a ha hn).2
    · have := h1.1.1.lt hn a ha; omega
end
end Go.Proofs.Ytblcggmbaofflaa
