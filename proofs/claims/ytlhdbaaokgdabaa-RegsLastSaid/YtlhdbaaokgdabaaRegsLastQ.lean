/-
  Registers: what the law RegsLast keeps in memory beside them: the texts that were pushed, named, and came last.
-/
import Derived.Test.YtlhdbaaokgdabaaRegsPlay
import Derived.Test.YtlhdbaaokgdabaaRegsGetO
import Derived.Test.YtlhdbaaokgdabaaRegsLastP
import Derived.Test.YtlhdbaaokgdabaaRegsLastM
import Derived.Deep.AppendLies
namespace Go.Proofs.Ytlhdbaaokgdabaa
open Go.RowKit

/-- append(x, y), of elements of two cells, and where the row lies. -/
theorem wpList_append2L {P : Program} (w : World) {ops : Array Oper} {rest : List Oper} {o : Oper} {a : Act} {Q : Exit → Act → World → Prop} (hgd : o.guard = none) (s x : Operand) (t : TypeId)
    (ho : o.op = .call { callee := .builtin .append, args := #[s, x], argTypes := #[t, t] })
    (base : Nat) (e : TypeId) (i : TypeInfo) (z : Value) (bytes : Nat) (ht : P.underlying t = some (.slice e)) (hi : P.info? e = some i) (hz : i.zero = some z)
    (hsize : i.size = 2) (hby : i.bytes = bytes) (hzs : z.cells.size = 2) (v : Value) (n : Nat) (xs : List Value) (hs : a.eval s = v) (hown : w.ownsRow base e 2 v n xs)
    (b f : Nat) (u0 u1 : Value) (hx : a.eval x = .slice (some ⟨b, f, none⟩) 1 1) (h0 : w.cell? ⟨b, f, none⟩ = some u0) (h1c : w.cell? ⟨b, f + 1, none⟩ = some u1) (h1 : u0.oneCell' = true ∧ u1.oneCell' = true)
    (h63 : n + 1 ≤ maxLen) (hbytes : (n + 1) * bytes ≤ 140737488355328) (hbase : base ≤ w.heap.size)
    (h : ∀ g cap w', w'.ownsRow base e 2 (.slice (some ⟨g, 0, none⟩) (n + 1) cap) (n + 1) (xs ++ [u0, u1]) → w.grownBy w' v.ownBlock → (v.ownBlock = some g ∨ w.heap.size ≤ g) → wpList P ops Q rest (a.put o.dst (.slice (some ⟨g, 0, none⟩) (n + 1) cap)) w') : wpList P ops Q (o :: rest) a w := by
  refine wpList_append_lies w hgd s x t ho base e i z 2 bytes ht hi hz hsize hby hzs (by decide) v n xs hs hown ⟨b, f, none⟩ 1 1 [u0, u1] hx rfl (fun j u hu => ?_) (fun u hu => ?_) (by decide) h63 hbytes hbase _ rfl (fun g cap w' a1 a2 a3 _ => h g cap w' a1 a2 (a3.imp id (fun e => by omega)))
  · have hadd : (⟨b, f, none⟩ : Addr).add j = ⟨b, f + j, none⟩ := by unfold Addr.add; split <;> simp_all
    rw [hadd]
    match j, hu with
    | 0, hu => simp at hu; subst hu; exact h0
    | 1, hu => simp at hu; subst hu; exact h1c
    | j + 2, hu => simp at hu
  · simp at hu
    rcases hu with rfl | rfl
    · exact h1.1
    · exact h1.2
/-- A text as two cells. -/
structure RC where
  A : Option Addr
  cap : Nat
  x : Rg
def RC.cells (s : RC) : List Value := [.slice s.A s.x.d.length s.cap, .bool s.x.whole]
def RC.ok (w : World) (s : RC) : Prop := LRd (fun b => b < w.heap.size) w s.A s.cap s.x.d
def rc0 : RC := ⟨none, 0, rg0⟩
theorem rc0_ok (w : World) : rc0.ok w := ⟨Rd.nil_, by simp [rc0, rg0], by simp [rc0, rg0], by simp [rc0], by simp [rc0, rg0]⟩
theorem rc_cells (L : List RC) : ∀ (k : Nat) (h : k < L.length), (L.flatMap RC.cells)[k * 2]? = some (.slice L[k].A L[k].x.d.length L[k].cap) ∧ (L.flatMap RC.cells)[k * 2 + 1]? = some (.bool L[k].x.whole) := by
  induction L with
  | nil => intro k h; simp at h
  | cons s L ih =>
    intro k h
    match k with
    | 0 => simp [RC.cells]
    | k + 1 =>
      have := ih k (by simpa using h)
      have e : (k + 1) * 2 = k * 2 + 2 := by omega
      simpa [RC.cells, e] using this
theorem rc_len (L : List RC) : (L.flatMap RC.cells).length = L.length * 2 := by
  induction L with
  | nil => rfl
  | cons s L ih => simp [RC.cells, ih]; omega
theorem own_chgG {w w' : World} {p : Nat → Prop} {base n size : Nat} {e : TypeId} {v : Value} {xs : List Value} (h : w.ownsRow base e size v n xs) (hc : Chg p w w') (hp : ∀ g, v.ownBlock = some g → ¬ p g) : w'.ownsRow base e size v n xs := by
  obtain ⟨h1, h2⟩ := h
  refine ⟨h1, h2.elim Or.inl ?_⟩
  rintro ⟨g, cap, cur, hv, hb, hh, r⟩
  exact Or.inr ⟨g, cap, cur, hv, hb, by rw [hc.block g (Array.getElem?_eq_some_iff.1 hh).1 (hp g (by rw [hv]; rfl))]; exact hh, r⟩
theorem Chg.of_grown {w w' : World} {row : Option Nat} (h : w.grownBy w' row) : Chg (fun b => row = some b) w w' :=
  ⟨h.os, h.tape, h.output, h.size, fun b hb hp => h.block b hb fun e => hp e.symm⟩
/-- The blocks in which the registers' texts may lie. -/
def okL (r l n : Nat) (v : Value) (b : Nat) : Prop := ¬ b = r ∧ ¬ b = l ∧ ¬ b = n ∧ ¬ v.ownBlock = some b
/-- What lies in memory: the registers, the list of what was pushed, what was named, what came last. -/
structure Last (w : World) (base r p l n : Nat) (v : Value) (wr : World) (S : RS) (ps ns : List RC) (t : RC) : Prop where
  regs : Regs (okL r l n v) wr p r S
  own : wr.ownsRow base 25 2 v ps.length (ps.flatMap RC.cells)
  l0 : wr.cell? ⟨l, 0, none⟩ = some (.slice t.A t.x.d.length t.cap)
  l1 : wr.cell? ⟨l, 1, none⟩ = some (.bool t.x.whole)
  lf : ∀ i, wr.frozen? ⟨l, i, none⟩ = false
  len : ns.length = 26
  n0 : ∀ j (h : j < ns.length), wr.cell? ⟨n, j * 2, none⟩ = some (.slice ns[j].A ns[j].x.d.length ns[j].cap)
  n1 : ∀ j (h : j < ns.length), wr.cell? ⟨n, j * 2 + 1, none⟩ = some (.bool ns[j].x.whole)
  nf : ∀ i, wr.frozen? ⟨n, i, none⟩ = false
  tok : t.ok w
  nok : ∀ s ∈ ns, s.ok w
  pok : ∀ s ∈ ps, s.ok w
  grows : Grows w wr
  size : base ≤ wr.heap.size
  blocks : w.heap.size ≤ r ∧ r < base ∧ w.heap.size ≤ p ∧ p < base ∧ w.heap.size ≤ l ∧ l < base ∧ w.heap.size ≤ n ∧ n < base ∧ ¬ r = p ∧ ¬ r = l ∧ ¬ r = n ∧ ¬ p = l ∧ ¬ p = n ∧ ¬ l = n
section
variable {w wr w2 : World} {base r p l n : Nat} {v : Value} {S S2 : RS} {ps ns : List RC} {t : RC}
theorem Last.past (h : Last w base r p l n v wr S ps ns t) {b : Nat} (hb : b < base) : ¬ v.ownBlock = some b := fun e => by have := (h.own.lt b e).1; omega
/-- Blocks that are none of these may change. -/
theorem Last.chg (h : Last w base r p l n v wr S ps ns t) {q : Nat → Prop} (hc : Chg q wr w2) (hq : ∀ b, q b → base ≤ b ∧ ¬ okL r l n v b) (ho : ∀ g, v.ownBlock = some g → ¬ q g) (hR : Regs (okL r l n v) w2 p r S) : Last w base r p l n v w2 S ps ns t := by
  have hb := h.blocks
  have hs := h.size
  have nl : ¬ q l := fun e => by have := (hq l e).1; omega
  have nn : ¬ q n := fun e => by have := (hq n e).1; omega
  exact ⟨hR, own_chgG h.own hc ho, (hc.cell (by simp; omega) nl).trans h.l0, (hc.cell (by simp; omega) nl).trans h.l1, fun i => (hc.frozen (by simp; omega) nl).trans (h.lf i), h.len,
    fun j hj => (hc.cell (by simp; omega) nn).trans (h.n0 j hj), fun j hj => (hc.cell (by simp; omega) nn).trans (h.n1 j hj), fun i => (hc.frozen (by simp; omega) nn).trans (h.nf i), h.tok, h.nok, h.pok,
    Chg.grows (n := 0) h.grows hc (fun b e => by have := (hq b e).1; omega), Nat.le_trans h.size hc.size, hb⟩
theorem Last.grow (h : Last w base r p l n v wr S ps ns t) (hg : Grows wr w2) : Last w base r p l n v w2 S ps ns t :=
  h.chg (q := fun _ => False) (Chg.of_grows hg) (fun _ e => e.elim) (fun _ _ e => e) (h.regs.grows hg)
/-- The registers have changed. -/
theorem Last.laid (h : Last w base r p l n v wr S ps ns t) (hc : Chg (fun b => b = r) wr w2) (hR : Regs (okL r l n v) w2 p r S2) : Last w base r p l n v w2 S2 ps ns t := by
  have hb := h.blocks
  have hs := h.size
  have nl : ¬ l = r := by omega
  have nn : ¬ n = r := by omega
  exact ⟨hR, own_chgG h.own hc (fun g hg e => h.past (by omega) (e ▸ hg)), (hc.cell (by simp; omega) nl).trans h.l0, (hc.cell (by simp; omega) nl).trans h.l1, fun i => (hc.frozen (by simp; omega) nl).trans (h.lf i), h.len,
    fun j hj => (hc.cell (by simp; omega) nn).trans (h.n0 j hj), fun j hj => (hc.cell (by simp; omega) nn).trans (h.n1 j hj), fun i => (hc.frozen (by simp; omega) nn).trans (h.nf i), h.tok, h.nok, h.pok,
    Chg.grows (n := 0) h.grows hc (fun b e => by omega), Nat.le_trans h.size hc.size, hb⟩
/-- Another text came last. -/
theorem Last.setL (h : Last w base r p l n v wr S ps ns t) {u : RC} (hu : u.ok w) : Last w base r p l n v ((wr.setCell ⟨l, 0, none⟩ (.slice u.A u.x.d.length u.cap)).setCell ⟨l, 1, none⟩ (.bool u.x.whole)) S ps ns u := by
  have hb := h.blocks
  have hs := h.size
  have hc : Chg (fun b => b = l) wr ((wr.setCell ⟨l, 0, none⟩ (.slice u.A u.x.d.length u.cap)).setCell ⟨l, 1, none⟩ (.bool u.x.whole)) := (Chg.setCell (p := fun b => b = l) (a := ⟨l, 0, none⟩) rfl _).trans (Chg.setCell (p := fun b => b = l) (a := ⟨l, 1, none⟩) rfl _)
  have nn : ¬ n = l := by omega
  have c1 : (wr.setCell ⟨l, 0, none⟩ (.slice u.A u.x.d.length u.cap)).cell? ⟨l, 1, none⟩ = some (.bool t.x.whole) := (World.cell?_setCell_other _ _ _ _ (by simp)).trans h.l1
  refine ⟨h.regs.chg hc (by omega) (by omega) (fun b _ hk => hk.2.1), own_chgG h.own hc (fun g hg e => h.past (by omega) (e ▸ hg)), ?_, World.cell?_setCell_same _ _ _ c1, fun i => by rw [World.frozen?_setCell, World.frozen?_setCell]; exact h.lf i, h.len,
    fun j hj => (hc.cell (by simp; omega) nn).trans (h.n0 j hj), fun j hj => (hc.cell (by simp; omega) nn).trans (h.n1 j hj), fun i => (hc.frozen (by simp; omega) nn).trans (h.nf i), hu, h.nok, h.pok,
    Chg.grows (n := 0) h.grows hc (fun b e => by omega), Nat.le_trans h.size hc.size, hb⟩
  rw [World.cell?_setCell_other _ _ _ _ (by simp)]
  exact World.cell?_setCell_same _ _ _ h.l0
/-- Another text under one letter. -/
theorem Last.setN (h : Last w base r p l n v wr S ps ns t) {u : RC} (hu : u.ok w) (k : Nat) (hk : k < 26) : Last w base r p l n v ((wr.setCell ⟨n, k * 2, none⟩ (.slice u.A u.x.d.length u.cap)).setCell ⟨n, k * 2 + 1, none⟩ (.bool u.x.whole)) S ps (ns.set k u) t := by
  have hb := h.blocks
  have hs := h.size
  have hl := h.len
  have hc : Chg (fun b => b = n) wr ((wr.setCell ⟨n, k * 2, none⟩ (.slice u.A u.x.d.length u.cap)).setCell ⟨n, k * 2 + 1, none⟩ (.bool u.x.whole)) := (Chg.setCell (p := fun b => b = n) (a := ⟨n, k * 2, none⟩) rfl _).trans (Chg.setCell (p := fun b => b = n) (a := ⟨n, k * 2 + 1, none⟩) rfl _)
  have nl : ¬ l = n := by omega
  have c1 : (wr.setCell ⟨n, k * 2, none⟩ (.slice u.A u.x.d.length u.cap)).cell? ⟨n, k * 2 + 1, none⟩ = some (.bool ns[k].x.whole) := (World.cell?_setCell_other _ _ _ _ (by simp)).trans (h.n1 k (by omega))
  refine ⟨h.regs.chg hc (by omega) (by omega) (fun b _ hk => hk.2.2.1), own_chgG h.own hc (fun g hg e => h.past (by omega) (e ▸ hg)), (hc.cell (by simp; omega) nl).trans h.l0, (hc.cell (by simp; omega) nl).trans h.l1, fun i => (hc.frozen (by simp; omega) nl).trans (h.lf i), by simpa using hl,
    fun j hj => ?_, fun j hj => ?_, fun i => by rw [World.frozen?_setCell, World.frozen?_setCell]; exact h.nf i, h.tok, fun s hs => ?_, h.pok,
    Chg.grows (n := 0) h.grows hc (fun b e => by omega), Nat.le_trans h.size hc.size, hb⟩
  · have hj' : j < ns.length := by simpa using hj
    rw [World.cell?_setCell_other _ _ _ _ (by first | (simp; done) | (simp; omega))]
    by_cases e : k = j
    · subst e
      rw [World.cell?_setCell_same _ _ _ (h.n0 k hj')]
      simp
    · rw [World.cell?_setCell_other _ _ _ _ (by first | (simp; done) | (simp; omega)), h.n0 j hj']
      simp [e]
  · have hj' : j < ns.length := by simpa using hj
    by_cases e : k = j
    · subst e
      rw [World.cell?_setCell_same _ _ _ c1]
      simp
    · rw [World.cell?_setCell_other _ _ _ _ (by first | (simp; done) | (simp; omega)), World.cell?_setCell_other _ _ _ _ (by first | (simp; done) | (simp; omega)), h.n1 j hj']
      simp [e]
  · rcases List.mem_or_eq_of_mem_set hs with hs | rfl
    · exact h.nok s hs
    · exact hu
/-- One more text was pushed. -/
theorem Last.push (h : Last w base r p l n v wr S ps ns t) {u : RC} (hu : u.ok w) {o : Obj} {v' : Value} {w3 : World} (hown : w3.ownsRow base 25 2 v' (ps.length + 1) (ps.flatMap RC.cells ++ [.slice u.A u.x.d.length u.cap, .bool u.x.whole])) (hg : (wr.alloc o).grownBy w3 v.ownBlock) (hlie : ∃ g, v'.ownBlock = some g ∧ (v.ownBlock = some g ∨ (wr.alloc o).heap.size ≤ g)) : Last w base r p l n v' w3 S (ps ++ [u]) ns t := by
  have hb := h.blocks
  have hs := h.size
  have hc : Chg (fun b => v.ownBlock = some b) wr w3 := (Chg.of_grows ((Grows.refl wr).alloc o)).trans (Chg.of_grown hg)
  have hp := fun b hb => h.past (b := b) hb
  have hR : Regs (okL r l n v) w3 p r S := h.regs.chg hc (hp _ (by omega)) (hp _ (by omega)) (fun b _ hk => hk.2.2.2)
  have nl := hp l (by omega)
  have nn := hp n (by omega)
  have hR2 : Regs (okL r l n v') w3 p r S := by
    have hR0 : Regs (fun b => okL r l n v b ∧ b < wr.heap.size) w3 p r S := (h.regs.mono (fun b hb hk => ⟨hk, hb⟩)).chg hc (hp _ (by omega)) (hp _ (by omega)) (fun b _ hk => hk.1.2.2.2)
    refine hR0.mono fun b _ hk => ⟨hk.1.1, hk.1.2.1, hk.1.2.2.1, fun e => ?_⟩
    obtain ⟨g, h1, h2⟩ := hlie
    rw [h1] at e
    cases e
    rcases h2 with h2 | h2
    · exact hk.1.2.2.2 h2
    · simp at h2; omega
  refine ⟨hR2, by simpa [RC.cells] using hown, (hc.cell (by simp; omega) nl).trans h.l0, (hc.cell (by simp; omega) nl).trans h.l1, fun i => (hc.frozen (by simp; omega) nl).trans (h.lf i), h.len,
    fun j hj => (hc.cell (by simp; omega) nn).trans (h.n0 j hj), fun j hj => (hc.cell (by simp; omega) nn).trans (h.n1 j hj), fun i => (hc.frozen (by simp; omega) nn).trans (h.nf i), h.tok, h.nok, fun s hs => ?_,
    Chg.grows (n := 0) h.grows hc (fun b e => by have := (h.own.lt b e).1; omega), Nat.le_trans h.size hc.size, hb⟩
  rcases List.mem_append.1 hs with hs | hs
  · exact h.pok s hs
  · simp at hs; subst hs; exact hu
/-- Where a text that was pushed lies. -/
theorem Last.at_ (h : Last w base r p l n v wr S ps ns t) (k : Nat) (hk : k < ps.length) : ∃ g c, v = .slice (some ⟨g, 0, none⟩) ps.length c ∧ g < wr.heap.size ∧ wr.cell? ⟨g, k * 2, none⟩ = some (.slice ps[k].A ps[k].x.d.length ps[k].cap) ∧ wr.cell? ⟨g, k * 2 + 1, none⟩ = some (.bool ps[k].x.whole) := by
  have ho := h.own
  rcases ho.2 with ⟨e, h0⟩ | ⟨g, c, cur, e, hb, hh, _⟩
  · omega
  · subst e
    obtain ⟨c0, c1⟩ := rc_cells ps k hk
    refine ⟨g, c, rfl, (Array.getElem?_eq_some_iff.1 hh).1, ?_, ?_⟩
    · have := ho.cellAt (k * 2) (by omega); rw [this]; exact c0
    · have := ho.cellAt (k * 2 + 1) (by omega); rw [this]; exact c1
theorem Last.slice (h : Last w base r p l n v wr S ps ns t) : ∃ A c, v = .slice A ps.length c := by
  rcases h.own.2 with ⟨e, h0⟩ | ⟨g, c, cur, e, hb, hh, _⟩
  · exact ⟨none, 0, by rw [e, h0]⟩
  · exact ⟨_, _, e⟩
end
theorem push_eq {ok okx : Nat → Prop} (p r : Nat) (S S2 : RS) (e2 : Int) (A : Option Addr) (n cap : Nat) (b : Bool) (x : Rg) (hy : rpush S x = (S2, e2)) (hn : n = x.d.length) (hb : b = x.whole) (w : World) (h : Regs ok w p r S) (hx : LRd okx w A cap x.d) (hf : x.fits) (hok : ∀ b, w.heap.size ≤ b → ok b) (hnr : ¬ ok r) (hxr : ∀ b, okx b → ¬ b = r) :
    Calls Try.prog 13 #[.pointer (some ⟨p, 0, none⟩), .agg #[.slice A n cap, .bool b]] w (PutOut ok p r (S2, e2) w) := by
  rw [← hy]
  exact push_lit p r S A n cap b x hn hb w h hx hf hok hnr hxr
theorem set_eq {ok okx : Nat → Prop} (p r : Nat) (S S2 : RS) (e2 : Int) (c : Int) (k : Nat) (hk : c = k) (A : Option Addr) (n cap : Nat) (b : Bool) (x : Rg) (hy : rset S c x = (S2, e2)) (hn : n = x.d.length) (hb : b = x.whole) (w : World) (h : Regs ok w p r S) (hx : LRd okx w A cap x.d) (hf : x.fits) (hok : ∀ b, w.heap.size ≤ b → ok b) (hnr : ¬ ok r) :
    Calls Try.prog 11 #[.pointer (some ⟨p, 0, none⟩), .int .u8 c, .agg #[.slice A n cap, .bool b]] w (PutOut ok p r (S2, e2) w) := by
  rw [← hy]
  exact set_lit p r S c k hk A n cap b x hn hb w h hx hf hok hnr
theorem rset_low {S : RS} {x : Rg} (j : Nat) (hj : j < 26) (hx : rcheck x = true) : rset S (97 + (j : Int)) x = (rsSet (rsSet S (97 + (j : Int)) x) 0 x, 0) := by
  unfold rset
  rw [if_neg (by simp [hx]), if_neg (by omega), if_neg (by omega), if_pos (by omega)]
theorem rset_bad {S : RS} {x : Rg} (k : Int) (hx : rcheck x = false) : rset S k x = (S, 2) := by
  unfold rset
  rw [if_pos hx]
theorem rpush_ok {S : RS} {x : Rg} (hx : rcheck x = true) : rpush S x = (rsSet (rsSet (rshifts S 8) 49 x) 0 x, 0) := by
  unfold rpush
  rw [if_neg (by simp [hx])]
theorem rpush_bad {S : RS} {x : Rg} (hx : rcheck x = false) : rpush S x = (S, 2) := by
  unfold rpush
  rw [if_pos hx]
theorem rget_at (S : RS) (k : Int) (h : ¬ (65 ≤ k ∧ k ≤ 90)) : ∃ e, rget S k = ((S k).getD rg0, e) := by
  unfold rget lowL
  rw [if_neg h]
  cases S k with
  | none => exact ⟨_, rfl⟩
  | some x => exact ⟨_, rfl⟩
theorem acts_grows {w wr : World} {A : Option Addr} {cap : Nat} {L : List ActC} (h : CameActs w A cap L) (hg : Grows w wr) : CameActs wr A cap L :=
  ⟨h.rd.grows hg, h.len, fun s hs => ⟨(h.each s hs).kind, (h.each s hs).letter, by have hm := (h.each s hs).came; exact ⟨hm.rd.grows hg, hm.nil, hm.len, hm.each, hm.le, hm.cap63⟩⟩⟩
/-- The array of texts by letters, when it is made. -/
def NZ : Array Value := ((List.replicate 26 rc0).flatMap RC.cells).toArray
theorem zeroN (w : World) : (zeroValue 47).run Try.prog w = .ok (.agg NZ) w := by kernel_rfl
theorem last_start (w : World) (T1 T2 T3 : TypeId) (h1 : T1 = 53) :
    Last w (w.heap.size + 4) w.heap.size (w.heap.size + 1) (w.heap.size + 2) (w.heap.size + 3) (.slice none 0 0)
      ((((w.alloc (.map #[] 0)).alloc (.cells #[.map (some w.heap.size)] T1)).alloc (.cells #[.slice none 0 0, .bool false] T2)).alloc (.cells NZ T3)) rs0 [] (List.replicate 26 rc0) rc0 := by
  subst h1
  have hc : ∀ j, ((((w.alloc (.map #[] 0)).alloc (.cells #[.map (some w.heap.size)] 53)).alloc (.cells #[.slice none 0 0, .bool false] T2)).alloc (.cells NZ T3)).cell? ⟨w.heap.size + 3, j, none⟩ = NZ[j]? := fun j =>
    cell_of_row _ _ j NZ T3 (0, 0) (by
      have := World.alloc_heap_new (((w.alloc (.map #[] 0)).alloc (.cells #[.map (some w.heap.size)] 53)).alloc (.cells #[.slice none 0 0, .bool false] T2)) (.cells NZ T3)
      simpa using this)
  have hz : ∀ j, NZ[j]? = ((List.replicate 26 rc0).flatMap RC.cells)[j]? := fun j => List.getElem?_toArray
  refine ⟨((regs_new w _).grows (((Grows.refl _).alloc _).alloc _)), World.ownsRow_nil _ _ _ _, by simp [go_sem, rc0, rg0], by simp [go_sem, rc0, rg0], fun i => by simp [go_sem], List.length_replicate .., fun j hj => ?_, fun j hj => ?_, fun i => by simp [go_sem], rc0_ok w, fun s hs => ?_, fun s hs => by simp at hs, by repeat' first | exact Grows.refl _ | refine Grows.alloc ?_ _, by simp, by omega⟩
  · rw [hc, hz, (rc_cells _ j hj).1]
  · rw [hc, hz, (rc_cells _ j hj).2]
  · rw [List.eq_of_mem_replicate hs]; exact rc0_ok w
end Go.Proofs.Ytlhdbaaokgdabaa
