/-
  Several texts of the proof: TplMost, CmdMayP, CmdT.
-/
import Derived.Test.YtpdlmknbpggohaaDoorPk39
import Derived.Test.YtpdlmknbpggohaaDoorPk12
import Derived.Test.YtpdlmknbpggohaaDoorPk27
import Derived.Test.YtpdlmknbpggohaaDoorPk37
import Derived.Test.YtpdlmknbpggohaaDoorPk36
/-
  Templates: Most and Expand, and the document's, walked.
-/
namespace Go.Proofs.YtpdlmknbpggohaaDoor
open Go.RowKit

attribute [local go_sem] tx_bt tx_from
/-- A pointer to a replacement; none: nil. -/
def TplPtr (w : World) (v : Value) (x : Option (List Tok)) : Prop := match x with
  | none => v = .pointer none
  | some l => ∃ g, v = .pointer (some ⟨g, 0, none⟩) ∧ IsTpl w g l
set_option maxRecDepth 3000 in
theorem TplPtr.grows {w w' : World} {v : Value} {x : Option (List Tok)} (h : TplPtr w v x) (hg : Grows w w') : TplPtr w' v x := by
  cases x with
  | none => exact h
  | some l => obtain ⟨g, hv, h⟩ := h; exact ⟨g, hv, h.grows hg⟩
/-- Its pieces; of none: none. -/
def toksV (x : Option (List Tok)) : List Tok := x.getD []
/-- Groups are few. -/
def Small (l : List Tok) : Prop := ∀ n, Tok.grp n ∈ l → n ≤ 9
set_option maxRecDepth 3000 in
theorem Small.tail {t : Tok} {l : List Tok} (h : Small (t :: l)) : Small l := fun n hn => h n (by simp [hn])
set_option maxRecDepth 3000 in
theorem small_behind (c : UInt8) (n : Nat) (h : behindV c = .grp n) : n ≤ 9 := by
  unfold behindV at h
  split at h
  · injection h with h; omega
  · split at h <;> cases h
set_option maxRecDepth 3000 in
theorem tokV_small (n : Nat) : ∀ (s : List UInt8) (l : List Tok), tokV n s = some l → Small l := by
  induction n with
  | zero => intro s l h; cases h
  | succ n ih =>
    intro s l h
    cases s with
    | nil => injection h with h; subst h; intro n hn; cases hn
    | cons c s =>
      unfold tokV at h
      split at h
      · rw [Option.map_eq_some_iff] at h
        obtain ⟨l', h1, rfl⟩ := h
        intro k hk
        rcases List.mem_cons.1 hk with hk | hk
        · cases hk
        · exact ih _ _ h1 k hk
      · split at h
        · rw [Option.map_eq_some_iff] at h
          obtain ⟨l', h1, rfl⟩ := h
          intro k hk
          rcases List.mem_cons.1 hk with hk | hk
          · injection hk with hk; omega
          · exact ih _ _ h1 k hk
        · cases s with
          | nil => cases h
          | cons d t =>
            simp only [] at h
            rw [Option.map_eq_some_iff] at h
            obtain ⟨l', h1, rfl⟩ := h
            intro k hk
            rcases List.mem_cons.1 hk with hk | hk
            · exact small_behind d k hk.symm
            · exact ih _ _ h1 k hk
set_option maxRecDepth 3000 in
theorem tokF_small (s : List UInt8) (l : List Tok) (h : tokF s = some l) : Small l := tokV_small _ s l h
set_option maxRecDepth 3000 in
theorem mostT_append (a b : List Tok) : mostT (a ++ b) = max (mostT a) (mostT b) := by
  induction a with
  | nil => simp [mostT]
  | cons t a ih => cases t <;> simp only [List.cons_append, mostT, ih, Nat.max_assoc]
set_option maxRecDepth 3000 in
theorem mostT_small (l : List Tok) (h : Small l) : mostT l ≤ 9 := by
  induction l with
  | nil => simp [mostT]
  | cons t l ih =>
    cases t with
    | text _ => exact ih h.tail
    | grp n => have := ih h.tail; have := h n (by simp); simp only [mostT]; omega
set_option maxRecDepth 3000 in
theorem assert_group (n : Int) (w : World) : (Instr.typeAssert (.iface 76 (.int .i64 n)) 78 76 true).run Tryd.prog w = .ok (.tuple #[.int .i64 n, .bool true]) w := by kernel_rfl
set_option maxRecDepth 3000 in
theorem assert_text (s : ByteArray) (w : World) : (Instr.typeAssert (.iface 75 (.string s)) 78 76 true).run Tryd.prog w = .ok (.tuple #[.int .i64 0, .bool false]) w := by kernel_rfl
set_option maxRecDepth 3000 in
theorem assert_text2 (s : ByteArray) (w : World) : (Instr.typeAssert (.iface 75 (.string s)) 78 75 true).run Tryd.prog w = .ok (.tuple #[.string s, .bool true]) w := by kernel_rfl
attribute [local go_sem] assert_group assert_text assert_text2
set_option maxRecDepth 100000 in
set_option maxHeartbeats 2000000 in
theorem most_nil (w : World) : Calls Tryd.prog 11 #[.pointer none] w fun e w' => e = .returned (.int .i64 0) ∧ w = w' := by
  go_enter Tryd.func11, Tryd.ntmps11
  go_wp2_with fail
  go_ret
  exact ⟨rfl, rfl⟩
set_option maxRecDepth 100000 in
set_option maxHeartbeats 2000000 in
theorem most_some (g : Nat) (l : List Tok) (w : World) (h : IsTpl w g l) (hs : Small l) (hl : l.length ≤ 1000000) : Calls Tryd.prog 11 #[.pointer (some ⟨g, 0, none⟩)] w fun e w' => e = .returned (.int .i64 (mostT l)) ∧ w = w' := by
  obtain ⟨A, cap, h1, h2, h3, h4, h5⟩ := h
  have H5 := Lib.hid h5
  clear h5
  go_enter Tryd.func11, Tryd.ntmps11
  go_wp2_with fail
  go_loopg [3, 5, 6, 7, 16] l.length (fun q v3 _ _ _ v16 wr => ∃ i : Nat, q + i = l.length ∧ v3 = .int .i64 (mostT (l.take i)) ∧ v16 = .int .i64 i ∧ w = wr)
  case atStart => exact ⟨0, by omega, rfl, rfl, rfl⟩
  case round =>
    obtain ⟨i, hq, rfl, rfl, rfl⟩ := hrel
    have HQ := Lib.hid hq
    clear hq
    by_cases hi : i < l.length
    · have i0 : (0 : Int) ≤ (i : Int) := by omega
      have i1 : (i : Int) < (l.length : Int) := by omega
      obtain ⟨b, o, rfl, hb, hc⟩ := H5.out.at_ (j := i) (by rw [tl_length]; exact hi)
      have hb : InHeap b w := hb
      have hv : (tl l)[i]'(by rw [tl_length]; exact hi) = tokVal l[i] := by simp [tl]
      rw [hv] at hc
      have hsm : mostT (l.take i) ≤ 9 := mostT_small _ (fun n hn => hs n (List.mem_of_mem_take hn))
      have hst : mostT (l.take (i + 1)) = max (mostT (l.take i)) (mostT [l[i]]) := by
        rw [List.take_add_one, List.getElem?_eq_getElem hi, Option.toList_some, mostT_append]
      have hti := hs
      have hmem := List.getElem_mem hi
      cases ht : l[i] with
      | text s =>
        rw [ht] at hc hst
        have hst' : mostT (l.take (i + 1)) = mostT (l.take i) := by rw [hst]; simp [mostT]
        have HST := Lib.hid hst'
        unfold tokVal at hc
        simp only [] at hc
        clear hst hst' hv ht hti hmem
        generalize mostT (l.take i) = m at *
        go_wp2_with fail
        go_roundg (gk - 1)
        case measure => have := HQ.out; omega
        case rel => exact ⟨i + 1, by have := HQ.out; omega, by rw [HST.out], by go_num, rfl⟩
      | grp n =>
        rw [ht] at hc hst hmem
        have hn9 := hs n hmem
        have hst' : mostT (l.take (i + 1)) = max (mostT (l.take i)) n := by rw [hst]; simp [mostT]
        have HST := Lib.hid hst'
        unfold tokVal at hc
        simp only [] at hc
        clear hst hst' hv ht hti hmem
        generalize mostT (l.take i) = m at *
        have hmax : (max (m : Int) (n : Int)) = ((max m n : Nat) : Int) := by omega
        go_wp2_with fail
        go_roundg (gk - 1)
        case measure => have := HQ.out; omega
        case rel => exact ⟨i + 1, by have := HQ.out; omega, by rw [HST.out], by go_num, rfl⟩
    · have i1 : ¬(i : Int) < (l.length : Int) := by omega
      have hti : l.take i = l := List.take_of_length_le (by omega)
      rw [hti]
      clear hti
      go_wp2_with fail
      go_ret
      exact ⟨rfl, rfl⟩
end Go.Proofs.YtpdlmknbpggohaaDoor

/-
  Command lines in plain words: what is read is as the chapter says.
-/
namespace Go.Proofs.YtpdlmknbpggohaaDoor

def Pln (p : Nat) : Prop := p = 112 ∨ p = 108 ∨ p = 110
set_option maxRecDepth 3000 in
theorem pln_of {c : UInt8} (h : isPln c = true) : Pln c.toNat := by
  unfold isPln at h
  simp only [Bool.or_eq_true, beq_iff_eq] at h
  rcases h with (h | h) | h
  · exact .inl h
  · exact .inr (.inl h)
  · exact .inr (.inr h)
set_option maxRecDepth 3000 in
theorem suf_ok {x y : Cm} {s : List UInt8} (h : sufL x s = .ok y) : ∃ p, y = { x with print := p } ∧ (p = x.print ∨ Pln p) := by
  unfold sufL at h
  split at h
  · injection h with h; subst h; exact ⟨x.print, rfl, .inl rfl⟩
  · split at h
    · rename_i c hc
      injection h with h; subst h; exact ⟨_, rfl, .inr (pln_of hc)⟩
    · cases h
  · cases h
set_option maxRecDepth 3000 in
theorem thou_ge : ∀ (l : List UInt8) (n : Nat), n ≤ (thouL n l).1
  | [], _ => Nat.le_refl _
  | c :: l, n => by
    unfold thouL
    split
    · exact Nat.le_trans (by omega) (thou_ge l _)
    · exact Nat.le_refl _
set_option maxRecDepth 3000 in
theorem thou_top : ∀ (l : List UInt8) (n : Nat), n ≤ 9999 → (thouL n l).1 ≤ 9999
  | [], _, h => h
  | c :: l, n, h => by
    unfold thouL
    split
    · rename_i k
      have h1 : c.toNat ≤ 57 := by have := k.1; unfold isDig at this; simp at this; omega
      exact thou_top l _ (by omega)
    · exact h
set_option maxRecDepth 3000 in
theorem flag_ok (k : Nat) : ∀ {said : Bool} {x y : Cm} {s : List UInt8}, flagL k said x s = .ok y → ∃ a n p, y = { x with all := a, nth := n, print := p } ∧ (n = x.nth ∨ 1 ≤ n) ∧ (p = x.print ∨ Pln p) := by
  induction k with
  | zero => intro said x y s h; cases h
  | succ k ih =>
    intro said x y s h
    cases s with
    | nil => injection h with h; subst h; exact ⟨x.all, x.nth, x.print, rfl, .inl rfl, .inl rfl⟩
    | cons c l =>
      unfold flagL at h
      split at h
      · obtain ⟨a, n, p, rfl, h1, h2⟩ := ih h
        exact ⟨a, n, p, rfl, h1, h2⟩
      · split at h
        · rename_i hc
          obtain ⟨a, n, p, rfl, h1, h2⟩ := ih h
          refine ⟨a, n, p, rfl, h1, .inr ?_⟩
          rcases h2 with rfl | h2
          · exact pln_of hc.1
          · exact h2
        · split at h
          · rename_i hc
            obtain ⟨a, n, p, rfl, h1, h2⟩ := ih h
            refine ⟨a, n, p, rfl, .inr ?_, h2⟩
            rcases h1 with rfl | h1
            · have hd : isDig c = true := by unfold isDig; simp; omega
              show 1 ≤ (thouL 0 (c :: l)).1
              unfold thouL
              rw [if_pos ⟨hd, by omega⟩]
              exact Nat.le_trans (by omega) (thou_ge l _)
            · exact h1
          · cases h
set_option maxRecDepth 3000 in
theorem pat_ok {s : List UInt8} {p : List UInt8 × List UInt8 × Bool} (h : patL s = .ok p) : p.1 = [] ∨ ∃ y, patV p.1 = some y := by
  unfold patL at h
  split at h
  · cases h
  · split at h
    · cases h
    · split at h
      · cases h
      · rename_i c l _ hc
        injection h with h
        subst h
        by_cases h0 : (delimL c l).1 = []
        · exact .inl h0
        · cases hv : patV (delimL c l).1 with
          | none => exact absurd ⟨h0, hv⟩ hc
          | some y => exact .inr ⟨y, rfl⟩
/-- What a command that was read is. -/
structure MayC (x : Cm) : Prop where
  pat : x.name = 115 ∨ x.name = 103 ∨ x.name = 118 → x.re = [] ∨ ∃ y, patV x.re = some y
  sub : x.name = 115 → 1 ≤ x.nth ∧ ∃ t, tokL x.repl = some t ∧ (x.re = [] ∨ mostT t ≤ groupsL x.re)
  file : x.name ∈ [101, 69, 102, 114, 119, 87] → x.name2.any isBl = false
  pr : x.print = 0 ∨ Pln x.print
set_option maxRecDepth 3000 in
theorem let_ok {x y : Cm} {must : Bool} {s : List UInt8} (h : letL x must s = .ok y) : ∃ c p, y = { x with letter := c, print := p } ∧ (p = x.print ∨ Pln p) := by
  unfold letL at h
  split at h
  · split at h
    · cases h
    · injection h with h; subst h; exact ⟨x.letter, x.print, rfl, .inl rfl⟩
  · split at h
    · obtain ⟨p, rfl, h2⟩ := suf_ok h
      exact ⟨_, p, rfl, h2⟩
    · cases h
set_option maxRecDepth 3000 in
theorem subst_ok {x y : Cm} {s : List UInt8} (h : substL x s = .ok y) : ∃ re repl a n p t, y = { x with re := re, repl := repl, all := a, nth := n, print := p } ∧ 1 ≤ n ∧ (p = x.print ∨ Pln p) ∧ (re = [] ∨ ∃ z, patV re = some z) ∧ tokL repl = some t ∧ (re = [] ∨ mostT t ≤ groupsL re) := by
  unfold substL at h
  split at h
  · cases h
  · rename_i p hp
    split at h
    · cases h
    · split at h
      · cases h
      · rename_i t ht
        split at h
        · cases h
        · rename_i hm
          have hm2 : p.1 = [] ∨ mostT t ≤ groupsL p.1 := by
            by_cases h0 : p.1 = []
            · exact .inl h0
            · exact .inr (Nat.le_of_not_lt fun h1 => hm ⟨h0, h1⟩)
          simp only [] at h
          split at h
          · injection h with h
            subst h
            exact ⟨p.1, _, x.all, 1, 112, t, rfl, Nat.le_refl _, .inr (.inl rfl), pat_ok hp, ht, hm2⟩
          · obtain ⟨a, n, q, rfl, h1, h2⟩ := flag_ok _ h
            exact ⟨p.1, _, a, n, q, t, rfl, by rcases h1 with h1 | h1; exact Nat.le_of_eq h1.symm; exact h1, h2, pat_ok hp, ht, hm2⟩
set_option maxRecDepth 3000 in
theorem asks_ok {s n : List UInt8} (h : asksL s = .ok n) : n.any isBl = false := by
  unfold asksL at h
  split at h
  · injection h with h; subst h; rfl
  · split at h
    · cases h
    · split at h
      · cases h
      · rename_i hc
        injection h with h
        subst h
        cases hq : (skipL s).any isBl with
        | true => exact absurd (.inl hq) hc
        | false => rfl
set_option maxRecDepth 3000 in
theorem named_ok {x y : Cm} {c : Nat} {s : List UInt8} (h : namedL x c s = .ok y) (hx : x.print = 0) : MayC y ∧ y.list = x.list ∧ y.semi = x.semi := by
  have pr : ∀ {p : Nat}, p = x.print ∨ Pln p → p = 0 ∨ Pln p := fun h => h.imp (fun h => h.trans hx) id
  unfold namedL at h
  simp only [] at h
  split at h
  · rename_i hc
    obtain ⟨p, rfl, h2⟩ := suf_ok h
    refine ⟨⟨fun k => ?_, fun k => ?_, fun k => ?_, pr h2⟩, rfl, rfl⟩
    · simp only [List.mem_cons, List.not_mem_nil, or_false] at hc k; omega
    · simp only [List.mem_cons, List.not_mem_nil, or_false] at hc k; omega
    · simp only [List.mem_cons, List.not_mem_nil, or_false] at hc k; omega
  rename_i hc1
  split at h
  · rename_i hc
    obtain ⟨l, p, rfl, h2⟩ := let_ok h
    refine ⟨⟨fun k => ?_, fun k => ?_, fun k => ?_, pr h2⟩, rfl, rfl⟩
    · simp only [] at k; omega
    · simp only [] at k; omega
    · simp only [List.mem_cons, List.not_mem_nil, or_false] at k; omega
  split at h
  · rename_i hc
    unfold destL at h
    split at h
    · cases h
    · obtain ⟨p, rfl, h2⟩ := suf_ok h
      refine ⟨⟨fun k => ?_, fun k => ?_, fun k => ?_, pr h2⟩, rfl, rfl⟩
      · simp only [] at k; omega
      · simp only [] at k; omega
      · simp only [List.mem_cons, List.not_mem_nil, or_false] at k; omega
  split at h
  · rename_i hc
    obtain ⟨re, repl, a, n, p, t, rfl, h1, h2, h3, h4, h5⟩ := subst_ok h
    refine ⟨⟨fun _ => h3, fun _ => ⟨h1, t, h4, h5⟩, fun k => ?_, pr h2⟩, rfl, rfl⟩
    simp only [List.mem_cons, List.not_mem_nil, or_false] at k; omega
  split at h
  · rename_i hc
    unfold globL at h
    split at h
    · cases h
    · rename_i q hq
      injection h with h
      subst h
      refine ⟨⟨fun _ => pat_ok hq, fun k => ?_, fun k => ?_, .inl hx⟩, rfl, rfl⟩
      · simp only [] at k; omega
      · simp only [List.mem_cons, List.not_mem_nil, or_false] at k; omega
  split at h
  · rename_i hc
    unfold countL at h
    split at h
    · injection h with h
      subst h
      refine ⟨⟨fun k => ?_, fun k => ?_, fun k => ?_, .inl hx⟩, rfl, rfl⟩
      · simp only [] at k; omega
      · simp only [] at k; omega
      · simp only [List.mem_cons, List.not_mem_nil, or_false] at k; omega
    · cases h
  split at h
  · rename_i hc
    split at h
    · injection h with h
      subst h
      refine ⟨⟨fun k => ?_, fun k => ?_, fun k => ?_, .inl hx⟩, rfl, rfl⟩
      · simp only [] at k; omega
      · simp only [] at k; omega
      · simp only [List.mem_cons, List.not_mem_nil, or_false] at k; omega
    · cases h
  split at h
  · rename_i hc
    split at h
    · cases h
    · rename_i nm hn
      injection h with h
      subst h
      refine ⟨⟨fun k => ?_, fun k => ?_, fun _ => asks_ok hn, .inl hx⟩, rfl, rfl⟩
      · simp only [List.mem_cons, List.not_mem_nil, or_false] at k hc; omega
      · simp only [List.mem_cons, List.not_mem_nil, or_false] at k hc; omega
  · cases h
set_option maxRecDepth 3000 in
theorem rest_ok {us : List Adr} {ss : List Bool} {y : Cm} {l : List UInt8} (h : restL (cm0 us ss) l = .ok y) : MayC y ∧ y.list = us ∧ y.semi = ss := by
  unfold restL at h
  split at h
  · injection h with h
    subst h
    exact ⟨⟨fun k => by simp [cm0] at k, fun k => by simp [cm0] at k, fun k => by simp [cm0] at k, .inl rfl⟩, rfl, rfl⟩
  · split at h
    · obtain ⟨c, p, rfl, h2⟩ := let_ok h
      exact ⟨⟨fun k => by simp at k, fun k => by simp at k, fun k => by simp at k, h2.imp (fun h => h) id⟩, rfl, rfl⟩
    · split at h
      · obtain ⟨c, p, rfl, h2⟩ := let_ok h
        exact ⟨⟨fun k => by simp at k, fun k => by simp at k, fun k => by simp at k, h2.imp (fun h => h) id⟩, rfl, rfl⟩
      · exact named_ok h rfl
set_option maxRecDepth 3000 in
/-- The stage's theorem, in plain words. -/
theorem cmd_may {l : List UInt8} {x : Cm} (h : cmdL l = .ok x) : MayC x ∧ ∃ rest, rangeL l = some (x.list, x.semi, rest) := by
  unfold cmdL at h
  split at h
  · cases h
  · rename_i r hr
    obtain ⟨h1, h2, h3⟩ := rest_ok h
    exact ⟨h1, r.2.2, by rw [hr, h2, h3]⟩
end Go.Proofs.YtpdlmknbpggohaaDoor

/-
  Commands: a substitution, walked. (Printed by cmdn.py.)
-/
namespace Go.Proofs.YtpdlmknbpggohaaDoor
open Go.RowKit

attribute [local go_sem] tx_bt tx_from
set_option maxRecDepth 3000 in
theorem SaneB.sane {b : Nat} {w : World} (h : SaneB b w) : Sane w := by obtain ⟨h1, _⟩ := h; exact h1
set_option maxRecDepth 3000 in
theorem tokV_length (n : Nat) : ∀ (s : List UInt8) (l : List Tok), tokV n s = some l → l.length ≤ s.length := by
  induction n with
  | zero => intro s l h; cases h
  | succ n ih =>
    intro s l h
    cases s with
    | nil => injection h with h; subst h; simp
    | cons c s =>
      unfold tokV at h
      split at h
      · rw [Option.map_eq_some_iff] at h
        obtain ⟨l', h1, rfl⟩ := h
        have := ih _ _ h1
        rw [List.length_drop] at this
        simp at this ⊢; omega
      · split at h
        · rw [Option.map_eq_some_iff] at h
          obtain ⟨l', h1, rfl⟩ := h
          have := ih _ _ h1
          simp; omega
        · cases s with
          | nil => cases h
          | cons d t =>
            simp only [] at h
            rw [Option.map_eq_some_iff] at h
            obtain ⟨l', h1, rfl⟩ := h
            have := ih _ _ h1
            simp; omega
set_option maxRecDepth 3000 in
theorem subst_no {x : Cm} {s : List UInt8} {n : Nat} (h : patL s = .error n) : substL x s = .error n := by unfold substL; rw [h]
set_option maxRecDepth 3000 in
theorem subst_open {x : Cm} {s re rest : List UInt8} (h : patL s = .ok (re, rest, false)) : substL x s = .error 90 := by unfold substL; rw [h]; rfl
set_option maxRecDepth 3000 in
theorem subst_eq {x : Cm} {c : UInt8} {l re rest repl rest2 : List UInt8} {cl2 : Bool} (h : patL (c :: l) = .ok (re, rest, true)) (hd : delimL c rest = (repl, rest2, cl2)) : substL x (c :: l) =
    match tokF repl with
    | none => .error 110
    | some t =>
      if re ≠ [] ∧ groupsL re < mostT t then .error 110
      else if cl2 = false then .ok { x with re := re, repl := repl, nth := 1, print := 112 }
      else flagL (rest2.length + 1) false { x with re := re, repl := repl, nth := 1 } rest2 := by
  unfold substL
  rw [h]
  simp only []
  rw [if_neg (by decide), show (c :: l).headD 0 = c from rfl, hd]
  rfl
set_option maxRecDepth 3000 in
theorem subst_three {x : Cm} {c : UInt8} {s l re rest repl rest2 : List UInt8} {cl2 : Bool} (hs : s = c :: l) (h : patL s = .ok (re, rest, true)) (hd : delimL c rest = (repl, rest2, cl2)) :
    (tokF repl = none → substL x s = .error 110) ∧ ∀ t, tokF repl = some t → (re ≠ [] ∧ groupsL re < mostT t → substL x s = .error 110) ∧ (¬ (re ≠ [] ∧ groupsL re < mostT t) → substL x s = if cl2 = false then .ok { x with re := re, repl := repl, nth := 1, print := 112 } else flagL (rest2.length + 1) false { x with re := re, repl := repl, nth := 1 } rest2) := by
  subst hs
  have e := subst_eq (x := x) h hd
  refine ⟨fun ht => by rw [e, ht], fun t ht => ⟨fun hc => by rw [e, ht]; simp only []; rw [if_pos hc], fun hc => by rw [e, ht]; simp only []; rw [if_neg hc]⟩⟩
set_option maxRecDepth 3000 in
theorem groups_of {re : List UInt8} {y : Fr × PS} (h : patV re = some y) : groupsL re = y.2.groups := by unfold groupsL; rw [h]
set_option maxRecDepth 3000 in
theorem pat_cons {s : List UInt8} {p : List UInt8 × List UInt8 × Bool} (h : patL s = .ok p) : ∃ c l, s = c :: l := by
  cases s with
  | nil => cases h
  | cons c l => exact ⟨c, l, rfl⟩
set_option maxRecDepth 3000 in
theorem flags_lit {w : World} {g : Nat} {lv sv : Value} {x : Cm} (h : CmAt w g lv sv x) (hx : x.nth = 1) (s : List UInt8) (hl : s.length ≤ 1000) (X : ByteArray) (hX : X = tx s) :
    Calls Tryd.prog 50 #[.pointer (some ⟨g, 0, none⟩), .string X] w (CmPost w g lv sv (flagL (s.length + 1) false x s)) := by subst hX; exact flags_any h hx s hl
/-- What stands when all has been read. -/
structure SubAt (w wr : World) (g : Nat) (lv sv : Value) (x : Cm) : Prop where
  cm : CmAt wr g lv sv x
  chg : Chg (fun b => b = g) w wr
set_option maxRecDepth 3000 in
theorem SubAt.grows {w wr w2 : World} {g : Nat} {lv sv : Value} {x : Cm} (h : SubAt w wr g lv sv x) (hg : Grows wr w2) : SubAt w w2 g lv sv x := ⟨h.cm.grows hg, h.chg.trans (Chg.of_grows hg)⟩
set_option maxRecDepth 3000 in
set_option maxHeartbeats 8000000 in
theorem substitute_cmd {w : World} {g : Nat} {lv sv : Value} {x : Cm} (h : CmAt w g lv sv x) (s : List UInt8) (hl : s.length ≤ 1000) (hs : SaneB g w) :
    Calls Tryd.prog 31 #[.pointer (some ⟨g, 0, none⟩), .string (tx s)] w (CmPost w g lv sv (substL x s)) := by
  have HZ0 := Lib.hid (SubAt.mk h (Chg.refl _ w) : SubAt w w g lv sv x)
  have HS0 := Lib.hid hs
  clear h hs
  go_enter Tryd.func31, Tryd.ntmps31
  go_wp2_with fail
  (with_reducible refine (pattern_any s hl _ HS0.out.sane).mono ?_)
  rintro e w1 ⟨hp, m, rfl⟩
  have HZ := Lib.hid (HZ0.out.grows (Grows.of w m))
  have HS1 := Lib.hid (HS0.out.grows (Grows.of w m))
  clear HZ0
  generalize more w m = w1 at HZ HS1 ⊢
  cases ho : patL s with
  | error n =>
    rw [ho] at hp
    have hp : e = .returned (.tuple #[.string (tx []), .string (tx []), .bool false, .int .i64 n]) := hp
    subst hp
    have hn0 := pat_err ho
    have HO := Lib.hid ho
    clear ho
    subst hn0
    go_wp2_with fail
    go_ret
    refine ⟨HZ.out.chg, ?_⟩
    rw [subst_no HO.out]
    rfl
  | ok p =>
    rw [ho] at hp
    obtain ⟨re, rest, cl⟩ := p
    have hp : e = .returned (.tuple #[.string (tx re), .string (tx rest), .bool cl, .int .i64 0]) := hp
    subst hp
    have hrl : rest.length ≤ 1000 := by have := (pat_len ho).2; simp at this; omega
    have hel : re.length ≤ 1000 := by have := (pat_len ho).1; simp at this; omega
    have hok := pat_ok ho
    obtain ⟨c, l, hcl⟩ := pat_cons ho
    cases cl with
    | false =>
      have HO := Lib.hid (subst_open (x := x) ho)
      clear ho hok
      go_wp2_with fail
      go_ret
      refine ⟨HZ.out.chg, ?_⟩
      rw [HO.out]
      rfl
    | true =>
      have hb : bt s 0 = c.toNat := by rw [hcl]; exact bt_zero c l
      have hlt : 0 < s.length := by rw [hcl]; simp
      have HCL := Lib.hid hcl
      have HOK := Lib.hid hok
      have HO := Lib.hid ho
      have HAR := Lib.hid (At.start rest)
      clear hcl hok ho
      go_wp2_with fail
      (with_reducible refine (delimited_lit HAR.out (by omega) c _ 0 _ (by simp) rfl).mono ?_)
      rintro e w2 ⟨⟨j, rfl, hA, -⟩, m2, rfl⟩
      have hdl := delim_len c rest
      have hal := hA.len
      have hjl := hA.le
      obtain ⟨D, hD⟩ : ∃ D, delimL c rest = D := ⟨_, rfl⟩
      rw [hD] at hA hdl hal
      rw [hD]
      have HZ := Lib.hid (HZ.out.grows (Grows.of w1 m2))
      have HS2 := Lib.hid (HS1.out.grows (Grows.of w1 m2))
      obtain ⟨repl, rest2, cl2⟩ := D
      have hr1 : repl.length ≤ 1000 := by simp at hdl; omega
      have hr2 : rest2.length ≤ 1000 := by simp at hal; omega
      have htail : (tx rest).extract j rest.length = tx rest2 := by rw [tx_from, hA.eq]
      have HSE := Lib.hid (subst_three (x := x) HCL.out HO.out hD)
      have HA := Lib.hid hA
      clear hA hD hal hdl HS1 HAR
      generalize more w1 m2 = w2 at HZ HS2 ⊢
      go_wp2_with fail
      (with_reducible refine (tplParse_any repl _ (by omega)).mono ?_)
      intro e w3 hpt
      unfold TplPost at hpt
      cases ht : tokF repl with
      | none =>
        rw [ht] at hpt
        have HSE := Lib.hid (HSE.out.1 ht)
        obtain ⟨rfl, m3, rfl⟩ := hpt
        have HZ := Lib.hid (HZ.out.grows (Grows.of w2 m3))
        clear ht
        go_wp2_with fail
        go_ret
        refine ⟨HZ.out.chg, ?_⟩
        rw [HSE.out]
        rfl
      | some t =>
        rw [ht] at hpt
        have HSE := Lib.hid (HSE.out.2 t ht)
        obtain ⟨gt, rfl, hT, -, m3, rfl⟩ := hpt
        have HT := Lib.hid hT
        have HTS := Lib.hid (tokF_small repl t ht)
        have htl : t.length ≤ 1000000 := by have := tokV_length _ _ _ ht; omega
        have HZ := Lib.hid (HZ.out.grows (Grows.of w2 m3))
        have HS3 := Lib.hid (HS2.out.grows (Grows.of w2 m3))
        clear ht hT HS2
        generalize more w2 m3 = wz at HZ HS3 HT ⊢
        have he0 := Lib.hid (empty_tx re)
        by_cases hre : re = []
        · subst hre
          have he : (tx []).toList.isEmpty = true := he0.out
          have HE := Lib.hid (HSE.out.2 (by rintro ⟨h, _⟩; exact h rfl))
          clear HSE
          obtain ⟨re, hree⟩ : ∃ r : List UInt8, r = [] := ⟨_, rfl⟩
          rw [← hree] at he HE ⊢
          clear hree
          have c8 : wz.cell? ⟨g, 8, none⟩ = some (.string (tx x.re)) := HZ.out.cm.cell 8
          have c9 : wz.cell? ⟨g, 9, none⟩ = some (.string (tx x.repl)) := HZ.out.cm.cell 9
          have c11 : wz.cell? ⟨g, 11, none⟩ = some (.int .i64 x.nth) := HZ.out.cm.cell 11
          have c14 : wz.cell? ⟨g, 14, none⟩ = some (.int .u8 x.print) := HZ.out.cm.cell 14
          have hfr := HZ.out.cm.free
          have ig := HZ.out.cm.inh
          have H9 := Lib.hid (((HZ.out.cm.put 8 (.string (tx re)) (y := { x with re := re }) rfl).put 9 (.string (tx repl)) (y := { x with re := re, repl := repl }) rfl).put 11 (.int .i64 1) (y := { x with re := re, repl := repl, nth := 1 }) rfl)
          have hC9 := Lib.hid (((HZ.out.chg.trans (chg_cell _ _ 8 (.string (tx re)))).trans (chg_cell _ _ 9 (.string (tx repl)))).trans (chg_cell _ _ 11 (.int .i64 1)))
          cases cl2 with
          | false =>
            have hRR := Lib.hid (HE.out.trans (if_pos rfl))
            go_wp2_with fail
            go_ret
            refine ⟨hC9.out.trans (chg_cell _ _ _ _), ?_⟩
            rw [hRR.out]
            exact ⟨rfl, H9.out.put 14 _ rfl⟩
          | true =>
            have hRR := Lib.hid (HE.out.trans (if_neg (by decide)))
            go_wp2_with fail
            (with_reducible refine (flags_any H9.out rfl rest2 hr2).mono ?_)
            intro e w9 hp9
            obtain ⟨k, rfl, hpp⟩ := (hp9.pre hC9.out).ret
            have HP := Lib.hid hpp
            clear hpp hp9
            go_wp2_with fail
            go_ret
            rw [hRR.out]
            exact HP.out
        · have he : (tx re).toList.isEmpty = false := by rw [he0.out]; simp [hre]
          obtain ⟨y, hy⟩ := HOK.out.resolve_left hre
          have HY := Lib.hid hy
          have HGR := Lib.hid (groups_of hy)
          have HRE := Lib.hid hre
          clear hy hre
          go_wp2_with fail
          (with_reducible refine (bre_yes (l := re) (by omega) HY.out _ HS3.out.sane _ rfl).mono ?_)
          rintro e w4 ⟨g2, rfl, hRA, -, m4, rfl⟩
          have HRA := Lib.hid hRA
          have HT4 := Lib.hid (HT.out.grows (Grows.of wz m4))
          have HZ := Lib.hid (HZ.out.grows (Grows.of wz m4))
          clear hRA HT
          generalize more wz m4 = wz at HZ HT4 HRA ⊢
          go_wp2_with fail
          (with_reducible refine (most_some gt t _ HT4.out HTS.out htl).mono ?_)
          rintro e w5 ⟨rfl, hw⟩
          subst hw
          go_wp2_with fail
          (with_reducible refine (groups_any HRA.out).mono ?_)
          rintro e w5 ⟨rfl, hw⟩
          subst hw
          by_cases hm : y.2.groups < mostT t
          · have hmi : (y.2.groups : Int) < (mostT t : Int) := by omega
            have HE := Lib.hid (HSE.out.1 ⟨HRE.out, by rw [HGR.out]; exact hm⟩)
            clear HSE
            go_wp2_with fail
            go_ret
            refine ⟨HZ.out.chg, ?_⟩
            rw [HE.out]
            rfl
          · have hmn : decide (y.2.groups < mostT t) = false := decide_eq_false hm
            have hmi : decide ((y.2.groups : Int) < (mostT t : Int)) = false := decide_eq_false (by omega)
            have HE := Lib.hid (HSE.out.2 (by rintro ⟨_, h⟩; rw [HGR.out] at h; exact hm h))
            clear HSE hm
            have c8 : wz.cell? ⟨g, 8, none⟩ = some (.string (tx x.re)) := HZ.out.cm.cell 8
            have c9 : wz.cell? ⟨g, 9, none⟩ = some (.string (tx x.repl)) := HZ.out.cm.cell 9
            have c11 : wz.cell? ⟨g, 11, none⟩ = some (.int .i64 x.nth) := HZ.out.cm.cell 11
            have c14 : wz.cell? ⟨g, 14, none⟩ = some (.int .u8 x.print) := HZ.out.cm.cell 14
            have hfr := HZ.out.cm.free
            have ig := HZ.out.cm.inh
            have H9 := Lib.hid (((HZ.out.cm.put 8 (.string (tx re)) (y := { x with re := re }) rfl).put 9 (.string (tx repl)) (y := { x with re := re, repl := repl }) rfl).put 11 (.int .i64 1) (y := { x with re := re, repl := repl, nth := 1 }) rfl)
            have hC9 := Lib.hid (((HZ.out.chg.trans (chg_cell _ _ 8 (.string (tx re)))).trans (chg_cell _ _ 9 (.string (tx repl)))).trans (chg_cell _ _ 11 (.int .i64 1)))
            cases cl2 with
            | false =>
              have hRR := Lib.hid (HE.out.trans (if_pos rfl))
              go_wp2_with fail
              go_ret
              refine ⟨hC9.out.trans (chg_cell _ _ _ _), ?_⟩
              rw [hRR.out]
              exact ⟨rfl, H9.out.put 14 _ rfl⟩
            | true =>
              have hRR := Lib.hid (HE.out.trans (if_neg (by decide)))
              go_wp2_with fail
              (with_reducible refine (flags_any H9.out rfl rest2 hr2).mono ?_)
              intro e w9 hp9
              obtain ⟨k, rfl, hpp⟩ := (hp9.pre hC9.out).ret
              have HP := Lib.hid hpp
              clear hpp hp9
              go_wp2_with fail
              go_ret
              rw [hRR.out]
              exact HP.out
end Go.Proofs.YtpdlmknbpggohaaDoor
