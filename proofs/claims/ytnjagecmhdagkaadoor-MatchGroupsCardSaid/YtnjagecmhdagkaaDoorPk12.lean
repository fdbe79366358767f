/-
  Maps keyed by bytes: a look-up, a key's value, an entry and its store.
-/
import Derived.Test.YtnjagecmhdagkaaDoorPk00
import Derived.MapKept
set_option linter.unusedSimpArgs false
set_option linter.unusedVariables false
namespace Go.Proofs.YtnjagecmhdagkaaDoor
open Go.RowKit Go.MapKept

/-- Is a key this byte? -/
def keyB (v : Value) (k : Int) : Bool := match v with | .int .u8 n => decide (k = n) | _ => false
/-- What a key has. -/
def lookB : List MapEntry → Int → Option Value
  | [], _ => none
  | e :: es, k => if keyB e.key k then some e.val else lookB es k
def lookBI : List MapEntry → Int → Nat → Option (Nat × Value)
  | [], _, _ => none
  | e :: es, k, i => if keyB e.key k then some (i, e.val) else lookBI es k (i + 1)
set_option maxRecDepth 3000 in
theorem lookBI_look (es : List MapEntry) (k : Int) : ∀ i, (lookBI es k i).map (·.2) = lookB es k := by
  induction es with
  | nil => intro i; rfl
  | cons e es ih => intro i; unfold lookBI lookB; split <;> simp [ih]
set_option maxRecDepth 3000 in
theorem lookBI_at (es : List MapEntry) (k : Int) : ∀ i j v, lookBI es k i = some (j, v) → i ≤ j ∧ ∃ e, es[j - i]? = some e ∧ e.val = v ∧ keyB e.key k = true ∧ ∀ m, m < j - i → ∀ e', es[m]? = some e' → keyB e'.key k = false := by
  induction es with
  | nil => intro i j v h; cases h
  | cons e es ih =>
    intro i j v h
    unfold lookBI at h
    split at h
    · rename_i hk
      injection h with h
      injection h with h1 h2
      subst h1 h2
      exact ⟨Nat.le_refl _, e, by simp, rfl, hk, fun m hm => by omega⟩
    · rename_i hk
      obtain ⟨h1, e', h2, h3, h4, h5⟩ := ih (i + 1) j v h
      refine ⟨by omega, e', ?_, h3, h4, fun m hm e2 he2 => ?_⟩
      · rw [show j - i = (j - (i + 1)) + 1 by omega, List.getElem?_cons_succ]; exact h2
      · cases m with
        | zero => simp at he2; subst he2; simpa using hk
        | succ m => exact h5 m (by omega) e2 (by simpa using he2)
def ByteKeys (es : List MapEntry) : Prop := ∀ e ∈ es, ∃ n : Int, e.key = .int .u8 n
set_option maxRecDepth 3000 in
theorem keyB_self (k : Int) : keyB (.int .u8 k) k = true := by simp [keyB]
set_option maxRecDepth 3000 in
theorem keyB_ne {k j : Int} (h : j ≠ k) : keyB (.int .u8 j) k = false := by simp [keyB]; omega
set_option maxRecDepth 3000 in
theorem keyB_eq {v : Value} {k : Int} (h : keyB v k = true) : v = .int .u8 k := by
  unfold keyB at h
  split at h
  · simp at h; rw [h]
  · cases h
set_option maxRecDepth 3000 in
theorem lookB_push (es : List MapEntry) (e : MapEntry) (k : Int) : lookB (es ++ [e]) k = (lookB es k).or (if keyB e.key k then some e.val else none) := by
  induction es with
  | nil => simp [lookB]
  | cons x es ih => simp only [List.cons_append, lookB, ih]; split <;> simp
set_option maxRecDepth 3000 in
theorem findNow_byte (k : Int) (es : List MapEntry) : ∀ i, ByteKeys es → Instr.findNow (.int .u8) (.int .u8 k) es i = some (lookBI es k i) := by
  induction es with
  | nil => intro i _; rfl
  | cons e es ih =>
    intro i h
    obtain ⟨s, hs⟩ := h e (by simp)
    have := ih (i + 1) (fun x hx => h x (by simp [hx]))
    have hn : Instr.sameNow (.int .u8) (.int .u8 k) e.key = some (keyB e.key k) := by
      rw [hs]
      simp only [Instr.sameNow, keyB, if_true]
      first | done | (congr 1; first | done | (rw [Bool.eq_iff_iff]; first | done | simp))
    unfold Instr.findNow lookBI
    rw [hn]
    cases keyB e.key k with
    | true => rfl
    | false => simpa using this
/-- A change of one key. -/
def updM (M : Int → Option Value) (k : Int) (v : Value) : Int → Option Value := fun j => if j = k then some v else M j
/-- The block r is a map that tells M. -/
def MapIs (w : World) (r : Nat) (M : Int → Option Value) : Prop := ∃ es clk, w.heap[r]? = some (.map es clk) ∧ ByteKeys es.toList ∧ Stamped es clk ∧ ∀ k, lookB es.toList k = M k
/-- The block r is a map keyed by bytes. -/
def BMap (w : World) (r : Nat) : Prop := ∃ es clk, w.heap[r]? = some (.map es clk) ∧ ByteKeys es.toList ∧ Stamped es clk
set_option maxRecDepth 3000 in
theorem MapIs.bmap {w : World} {r : Nat} {M : Int → Option Value} (h : MapIs w r M) : BMap w r := by
  obtain ⟨es, clk, h1, h2, h3, _⟩ := h
  exact ⟨es, clk, h1, h2, h3⟩
set_option maxRecDepth 3000 in
theorem BMap.lt {w : World} {r : Nat} (h : BMap w r) : r < w.heap.size := by
  obtain ⟨es, clk, h1, _⟩ := h
  exact (Array.getElem?_eq_some_iff.1 h1).1
/-- Another object in block r. -/
def putO (w : World) (r : Nat) (o : Obj) : World := { w with heap := w.heap.setIfInBounds r o }
set_option maxRecDepth 3000 in
theorem putO_at {w : World} {r : Nat} {o : Obj} (h : r < w.heap.size) : (putO w r o).heap[r]? = some o := by simp [putO, h]
set_option maxRecDepth 3000 in
theorem putO_ne {w : World} {r b : Nat} {o : Obj} (h : b ≠ r) : (putO w r o).heap[b]? = w.heap[b]? := by simp [putO, Ne.symm h]
set_option maxRecDepth 3000 in
theorem putO_size {w : World} {r : Nat} {o : Obj} : (putO w r o).heap.size = w.heap.size := by simp [putO]
set_option maxRecDepth 3000 in
theorem lookB_modify (es : List MapEntry) (i : Nat) (f : MapEntry → MapEntry) (hk : ∀ e, es[i]? = some e → keyB e.key = keyB (f e).key) (j : Int) :
    lookB (es.modify i f) j = match es[i]? with
      | none => lookB es j
      | some e => if keyB e.key j = true ∧ (∀ m, m < i → ∀ e', es[m]? = some e' → keyB e'.key j = false) then some (f e).val else lookB es j := by
  induction es generalizing i with
  | nil => cases i <;> simp [lookB]
  | cons x es ih =>
    cases i with
    | zero =>
      have hx := hk x (by simp)
      simp only [List.modify_zero_cons, List.getElem?_cons_zero, lookB, ← hx]
      cases h : keyB x.key j <;> simp
    | succ i =>
      simp only [List.modify_succ_cons, List.getElem?_cons_succ, lookB]
      have := ih i (fun e he => hk e (by simpa using he))
      cases h : keyB x.key j with
      | true =>
        cases he : es[i]? with
        | none => simp
        | some e =>
          simp only [if_true]
          rw [if_neg]
          rintro ⟨_, h2⟩
          have := h2 0 (by omega) x (by simp)
          rw [h] at this; cases this
      | false =>
        simp only [Bool.false_eq_true, if_false, this]
        cases he : es[i]? with
        | none => rfl
        | some e =>
          simp only []
          by_cases hc : keyB e.key j = true ∧ ∀ m, m < i → ∀ e', es[m]? = some e' → keyB e'.key j = false
          · rw [if_pos hc, if_pos]
            refine ⟨hc.1, fun m hm e' he' => ?_⟩
            cases m with
            | zero => simp at he'; subst he'; exact h
            | succ m => exact hc.2 m (by omega) e' (by simpa using he')
          · rw [if_neg hc, if_neg]
            rintro ⟨h1, h2⟩
            exact hc ⟨h1, fun m hm e' he' => h2 (m + 1) (by omega) e' (by simpa using he')⟩
set_option maxRecDepth 3000 in
theorem modify_bytes {es : List MapEntry} (h : ByteKeys es) (i : Nat) (k : Int) (v : Value) : ByteKeys (es.modify i fun e => { e with key := .int .u8 k, val := v }) := by
  induction es generalizing i with
  | nil => cases i <;> simpa using h
  | cons x es ih =>
    cases i with
    | zero =>
      intro e he
      simp only [List.modify_zero_cons, List.mem_cons] at he
      rcases he with rfl | he
      · exact ⟨k, rfl⟩
      · exact h e (List.mem_cons_of_mem _ he)
    | succ i =>
      intro e he
      simp only [List.modify_succ_cons, List.mem_cons] at he
      rcases he with rfl | he
      · exact h e (List.mem_cons_self ..)
      · exact ih (fun e he => h e (List.mem_cons_of_mem _ he)) i e he
/-- The map's object with another value at a key. -/
def updO (w : World) (r : Nat) (k : Int) (v : Value) : Obj :=
  match w.heap[r]? with
  | some (.map es clk) => (match lookBI es.toList k 0 with
    | none => .map (es.push { key := .int .u8 k, val := v, born := clk }) (clk + 1)
    | some (i, _) => .map (es.modify i fun e => { e with key := .int .u8 k, val := v }) clk)
  | some o => o
  | none => .map #[] 0
def putB (w : World) (r : Nat) (k : Int) (v : Value) : World := putO w r (updO w r k v)
/-- .. with an entry made for it, if there is none. -/
def entO (w : World) (r : Nat) (k : Int) (z : Value) : Obj :=
  match w.heap[r]? with
  | some (.map es clk) => (match lookBI es.toList k 0 with
    | none => .map (es.push { key := .int .u8 k, val := z, born := clk }) (clk + 1)
    | some (i, _) => .map (es.modify i fun e => { e with key := .int .u8 k }) clk)
  | some o => o
  | none => .map #[] 0
def entB (w : World) (r : Nat) (k : Int) (z : Value) : World := putO w r (entO w r k z)
/-- What the key has, and its stamp. -/
def valB (w : World) (r : Nat) (k : Int) (z : Value) : Value :=
  match w.heap[r]? with
  | some (.map es _) => (lookB es.toList k).getD z
  | _ => z
def hasB (w : World) (r : Nat) (k : Int) : Bool :=
  match w.heap[r]? with
  | some (.map es _) => (lookB es.toList k).isSome
  | _ => false
def stB (w : World) (r : Nat) (k : Int) : Nat :=
  match w.heap[r]? with
  | some (.map es clk) => (match lookBI es.toList k 0 with
    | none => clk
    | some (i, _) => ((es[i]?).map (·.born)).getD 0)
  | _ => 0
section
variable {P : Program} {w : World} {r : Nat} {t kt et : TypeId}
set_option maxRecDepth 3000 in
theorem run_find_byte (hk : P.underlying kt = some (.int .u8)) (k : Int) {es : List MapEntry} (hs : ByteKeys es) : (Instr.findKey kt (.int .u8 k) es).run P w = .ok (lookBI es k 0) w := run_findKey hk (findNow_byte k es 0 hs)
set_option maxRecDepth 3000 in
theorem key_ne {es : List MapEntry} {k : Int} (h : lookBI es k 0 = none) : ∀ x ∈ es, x.key ≠ .int .u8 k := by
  have hf := lookBI_look es k 0
  rw [h] at hf
  intro x hx e
  have : ∀ es : List MapEntry, x ∈ es → (lookB es k).isSome = true := by
    intro es
    induction es with
    | nil => intro h; cases h
    | cons y es ih =>
      intro h
      unfold lookB
      split
      · rfl
      · rename_i hy
        rcases List.mem_cons.1 h with rfl | h
        · rw [e, keyB_self] at hy; exact absurd rfl hy
        · exact ih h
  have h2 := this es hx
  rw [← hf] at h2
  cases h2
set_option maxRecDepth 3000 in
theorem run_update_byte (ht : P.underlying t = some (.map kt et)) (hk : P.underlying kt = some (.int .u8)) (k : Int) (v : Value) (hb : BMap w r) :
    (Instr.mapUpdate t (.map (some r)) (.int .u8 k) v).run P w = .ok () (putB w r k v) := by
  obtain ⟨es, clk, hb, hs, hst⟩ := hb
  unfold putB updO
  rw [hb]
  simp only []
  cases h : lookBI es.toList k 0 with
  | none =>
    unfold Instr.mapUpdate
    simp only [Sem.run_bind, run_underlying ht, Result.andThen_ok, Go.MapKept.run_getObj_map hb, run_checkKey hk (show IsKey (.int .u8) (.int .u8 k) by simp [IsKey]), run_find_byte hk k hs, h, run_setObj_map _ hb]
    rfl
  | some x =>
    obtain ⟨i, u⟩ := x
    obtain ⟨_, e, h2, h3, h4, h5⟩ := lookBI_at _ _ _ _ _ h
    simp only [Nat.sub_zero] at h2 h5
    have hke := keyB_eq h4
    have h2a : es[i]? = some e := by simpa using h2
    unfold Instr.mapUpdate
    simp only [Sem.run_bind, run_underlying ht, Result.andThen_ok, Go.MapKept.run_getObj_map hb, run_checkKey hk (show IsKey (.int .u8) (.int .u8 k) by simp [IsKey]), run_find_byte hk k hs, h, h2a, Option.map_some, Option.getD_some, hke, run_keyThatStays (d := .int .u8) (show IsKey (.int .u8) (.int .u8 k) by simp [IsKey]), run_setObj_map _ hb]
    rfl
set_option maxRecDepth 3000 in
theorem run_entry_byte (ht : P.underlying t = some (.map kt et)) (hk : P.underlying kt = some (.int .u8)) (k : Int) (z : Value) (hz : ∀ w, (zeroValue et).run P w = .ok z w) (hb : BMap w r) :
    (Instr.mapEntry t (.map (some r)) (.int .u8 k)).run P w = .ok (.tuple #[valB w r k z, .int .i64 (stB w r k : Nat)]) (entB w r k z) := by
  obtain ⟨es, clk, hb, hs, hst⟩ := hb
  have hf := lookBI_look es.toList k 0
  unfold entB entO valB stB
  rw [hb]
  simp only []
  cases h : lookBI es.toList k 0 with
  | none =>
    rw [h] at hf
    simp only [Option.map_none] at hf
    rw [← hf]
    unfold Instr.mapEntry
    simp only [Sem.run_bind, run_underlying ht, Result.andThen_ok, Go.MapKept.run_getObj_map hb, run_checkKey hk (show IsKey (.int .u8) (.int .u8 k) by simp [IsKey]), run_find_byte hk k hs, h, hz, run_setObj_map _ hb]
    rfl
  | some x =>
    rw [h] at hf
    simp only [Option.map_some] at hf
    rw [← hf]
    obtain ⟨i, u⟩ := x
    obtain ⟨_, e, h2, h3, h4, h5⟩ := lookBI_at _ _ _ _ _ h
    simp only [Nat.sub_zero] at h2 h5
    have hke := keyB_eq h4
    have h2a : es[i]? = some e := by simpa using h2
    unfold Instr.mapEntry
    simp only [Sem.run_bind, run_underlying ht, Result.andThen_ok, Go.MapKept.run_getObj_map hb, run_checkKey hk (show IsKey (.int .u8) (.int .u8 k) by simp [IsKey]), run_find_byte hk k hs, h, h2a, Option.map_some, Option.getD_some, hke, run_keyThatStays (d := .int .u8) (show IsKey (.int .u8) (.int .u8 k) by simp [IsKey]), run_setObj_map _ hb]
    rfl
set_option maxRecDepth 3000 in
theorem find_born {es : Array MapEntry} {clk : Nat} (h : Stamped es clk) (i : Nat) (e : MapEntry) (hi : es[i]? = some e) : es.findIdx? (fun x => (x.born : Int) == ((e.born : Nat) : Int)) = some i := by
  obtain ⟨_, hn, _⟩ := (stamped_iff es clk).1 h
  obtain ⟨hlt, rfl⟩ := Array.getElem?_eq_some_iff.1 hi
  rw [Array.findIdx?_eq_some_iff_getElem]
  refine ⟨hlt, by simp, fun j hj => ?_⟩
  simp only [beq_iff_eq, Int.natCast_inj]
  intro e
  have h1 : (es.toList.map (·.born))[j]? = some es[j].born := by rw [List.getElem?_map, Array.getElem?_toList, Array.getElem?_eq_getElem (by omega)]; rfl
  have h2 : (es.toList.map (·.born))[i]? = some es[i].born := by simp [hlt]
  rw [e] at h1
  have := (List.getElem?_inj (by simp; omega) hn).1 (h1.trans h2.symm)
  omega
set_option maxRecDepth 3000 in
theorem run_store_byte (k : Int) (z v : Value) (hb : BMap w r) :
    (Instr.entryStore t (.map (some r)) (.int .i64 (stB w r k : Nat)) v).run P (entB w r k z) = .ok () (putB w r k v) := by
  have hlt := hb.lt
  obtain ⟨es, clk, hb, hs, hst⟩ := hb
  have key : ∀ (es1 : Array MapEntry) (clk1 : Nat) (i : Nat) (e : MapEntry) (o : Obj), entB w r k z = putO w r (.map es1 clk1) → Stamped es1 clk1 → es1[i]? = some e → (stB w r k) = e.born → .map (es1.modify i fun e => { e with val := v }) clk1 = o → putB w r k v = putO w r o →
      (Instr.entryStore t (.map (some r)) (.int .i64 (stB w r k : Nat)) v).run P (entB w r k z) = .ok () (putB w r k v) := by
    intro es1 clk1 i e o h1 h2 h3 h4 h5 h6
    rw [h1, h6, h4]
    have hob : (putO w r (.map es1 clk1)).heap[r]? = some (.map es1 clk1) := putO_at hlt
    unfold Instr.entryStore
    simp only [Sem.run_bind, Go.MapKept.run_getObj_map hob, Result.andThen_ok, asInt, asIntOf, Sem.run_pure, find_born h2 i e h3, run_setObj_map _ hob, h5]
    simp [putO]
  cases h : lookBI es.toList k 0 with
  | none =>
    refine key (es.push { key := .int .u8 k, val := z, born := clk }) (clk + 1) es.size { key := .int .u8 k, val := z, born := clk } _ (by unfold entB entO; rw [hb]; simp only [h]) (stamped_push hst (key_ne h)) (by simp) (by unfold stB; rw [hb]; simp only [h]) rfl ?_
    unfold putB updO
    rw [hb]
    simp only [h]
    congr 2
    apply Array.ext_getElem?
    intro j
    simp only [Array.getElem?_modify, Array.getElem?_push]
    split <;> split <;> simp_all
  | some x =>
    obtain ⟨i, u⟩ := x
    obtain ⟨_, e, h2, h3, h4, h5⟩ := lookBI_at _ _ _ _ _ h
    simp only [Nat.sub_zero] at h2 h5
    have hke := keyB_eq h4
    have h2a : es[i]? = some e := by simpa using h2
    refine key (es.modify i fun e => { e with key := .int .u8 k }) clk i { e with key := .int .u8 k } _ (by unfold entB entO; rw [hb]; simp only [h]) (stamped_modify hst _ _ (fun _ _ => rfl) (fun e' _ he' => by rw [h2a] at he'; cases he'; exact hke.symm)) (by simp [Array.getElem?_modify, h2a]) (by unfold stB; rw [hb]; simp [h, h2a]) rfl ?_
    unfold putB updO
    rw [hb]
    simp only [h]
    congr 2
    apply Array.ext_getElem?
    intro j
    simp only [Array.getElem?_modify]
    split
    · subst_vars; rw [Option.map_map]; rfl
    · rfl
set_option maxRecDepth 3000 in
theorem run_lookup_byte (ht : P.underlying t = some (.map kt et)) (hk : P.underlying kt = some (.int .u8)) (k : Int) (z : Value) (hz : ∀ w, (zeroValue et).run P w = .ok z w) (hb : BMap w r) (b : Bool) :
    (Instr.lookup t (.map (some r)) (.int .u8 k) b).run P w = .ok (if b then .tuple #[valB w r k z, .bool (hasB w r k)] else valB w r k z) w := by
  obtain ⟨es, clk, hb, hs, hst⟩ := hb
  have hf := lookBI_look es.toList k 0
  unfold valB hasB Instr.lookup
  rw [hb]
  simp only [Sem.run_bind, run_underlying ht, Result.andThen_ok, Go.MapKept.run_getObj_map hb, Sem.run_pure, run_checkKey hk (show IsKey (.int .u8) (.int .u8 k) by simp [IsKey]), run_find_byte hk k hs]
  cases h : lookBI es.toList k 0 with
  | none =>
    rw [h] at hf
    simp only [Option.map_none] at hf
    rw [← hf]
    simp [hz]
  | some x =>
    rw [h] at hf
    simp only [Option.map_some] at hf
    rw [← hf]
    simp
end
section
variable {w : World} {r : Nat} {M : Int → Option Value} {k : Int} {z v : Value} {o : Obj} {m : More} {n : Nat}
set_option maxRecDepth 3000 in
theorem MapIs.val (h : MapIs w r M) (k : Int) (z : Value) : valB w r k z = (M k).getD z := by
  obtain ⟨es, clk, h1, h2, h3, h4⟩ := h
  unfold valB; rw [h1]; simp only [h4]
set_option maxRecDepth 3000 in
theorem MapIs.has (h : MapIs w r M) (k : Int) : hasB w r k = (M k).isSome := by
  obtain ⟨es, clk, h1, h2, h3, h4⟩ := h
  unfold hasB; rw [h1]; simp only [h4]
set_option maxRecDepth 3000 in
theorem MapIs.put (h : MapIs w r M) (k : Int) (v : Value) : MapIs (putB w r k v) r (updM M k v) := by
  have hlt := h.bmap.lt
  obtain ⟨es, clk, hb, hs, hst, hM⟩ := h
  have hf := lookBI_look es.toList k 0
  unfold putB updO
  rw [hb]
  simp only []
  cases h : lookBI es.toList k 0 with
  | none =>
    rw [h] at hf
    refine ⟨es.push { key := .int .u8 k, val := v, born := clk }, clk + 1, putO_at hlt, ?_, stamped_push hst (key_ne h), ?_⟩
    · intro e he
      simp only [Array.toList_push, List.mem_append, List.mem_singleton] at he
      rcases he with he | rfl
      · exact hs e he
      · exact ⟨k, rfl⟩
    · intro j
      rw [Array.toList_push, lookB_push, hM]
      unfold updM
      by_cases hj : j = k
      · subst hj
        rw [← hM, ← hf, keyB_self]
        simp
      · rw [if_neg hj, keyB_ne (Ne.symm hj)]
        simp
  | some x =>
    obtain ⟨i, u⟩ := x
    obtain ⟨_, e, h2, h3, h4, h5⟩ := lookBI_at _ _ _ _ _ h
    simp only [Nat.sub_zero] at h2 h5
    have hke := keyB_eq h4
    have h2a : es[i]? = some e := by simpa using h2
    refine ⟨es.modify i (fun e => { e with key := .int .u8 k, val := v }), clk, putO_at hlt, ?_, stamped_modify hst _ _ (fun _ _ => rfl) (fun e' _ he' => by rw [h2a] at he'; cases he'; exact hke.symm), ?_⟩
    · rw [Array.toList_modify]
      exact modify_bytes hs i k v
    · intro j
      rw [Array.toList_modify, lookB_modify _ i _ (fun x hx => by rw [h2] at hx; cases hx; rw [hke]) j, h2]
      simp only []
      unfold updM
      by_cases hj : j = k
      · subst hj
        rw [if_pos ⟨h4, h5⟩, if_pos rfl]
      · rw [if_neg, if_neg hj, hM]
        rintro ⟨h6, _⟩
        rw [hke, keyB_ne (Ne.symm hj)] at h6
        cases h6
set_option maxRecDepth 3000 in
theorem MapIs.bput (h : BMap w r) (k : Int) (v : Value) : BMap (putB w r k v) r := by
  obtain ⟨es, clk, h1, h2, h3⟩ := h
  exact (MapIs.put (M := fun k => lookB es.toList k) ⟨es, clk, h1, h2, h3, fun _ => rfl⟩ k v).bmap
set_option maxRecDepth 3000 in
@[go_sem] theorem bput (h : BMap w r) : BMap (putB w r k v) r ↔ True := ⟨fun _ => trivial, fun _ => MapIs.bput h k v⟩
set_option maxRecDepth 3000 in
@[go_sem] theorem size_putB : (putB w r k v).heap.size = w.heap.size := putO_size
set_option maxRecDepth 3000 in
@[go_sem] theorem inHeap_putB (b : Nat) : InHeap b (putB w r k v) ↔ InHeap b w := by unfold InHeap; rw [size_putB]
set_option maxRecDepth 3000 in
@[go_sem] theorem bmap_alloc (h : InHeap r w) : BMap (w.alloc o) r ↔ BMap w r := by unfold BMap; rw [Below.heap_alloc _ _ _ h]
set_option maxRecDepth 3000 in
@[go_sem] theorem bmap_more (h : InHeap r w) : BMap (more w m) r ↔ BMap w r := by unfold BMap; rw [heap_more _ _ _ h]
set_option maxRecDepth 3000 in
@[go_sem] theorem bmap_drew : BMap w.drew r ↔ BMap w r := Iff.rfl
set_option maxRecDepth 3000 in
@[go_sem] theorem bmap_drewN : BMap (w.drewN n) r ↔ BMap w r := Iff.rfl
set_option maxRecDepth 3000 in
@[go_sem] theorem val_alloc (h : InHeap r w) : valB (w.alloc o) r k z = valB w r k z := by unfold valB; rw [Below.heap_alloc _ _ _ h]
set_option maxRecDepth 3000 in
@[go_sem] theorem val_more (h : InHeap r w) : valB (more w m) r k z = valB w r k z := by unfold valB; rw [heap_more _ _ _ h]
set_option maxRecDepth 3000 in
@[go_sem] theorem val_drew : valB w.drew r k z = valB w r k z := rfl
set_option maxRecDepth 3000 in
@[go_sem] theorem val_drewN : valB (w.drewN n) r k z = valB w r k z := rfl
set_option maxRecDepth 3000 in
@[go_sem] theorem has_alloc (h : InHeap r w) : hasB (w.alloc o) r k = hasB w r k := by unfold hasB; rw [Below.heap_alloc _ _ _ h]
set_option maxRecDepth 3000 in
@[go_sem] theorem has_more (h : InHeap r w) : hasB (more w m) r k = hasB w r k := by unfold hasB; rw [heap_more _ _ _ h]
set_option maxRecDepth 3000 in
@[go_sem] theorem has_drew : hasB w.drew r k = hasB w r k := rfl
set_option maxRecDepth 3000 in
@[go_sem] theorem has_drewN : hasB (w.drewN n) r k = hasB w r k := rfl
set_option maxRecDepth 3000 in
theorem putO_alloc {o' : Obj} (h : InHeap r w) : putO (w.alloc o) r o' = (putO w r o').alloc o := by
  unfold InHeap at h
  unfold putO World.alloc
  congr 1
  apply Array.ext_getElem?
  intro j
  simp only [Array.getElem?_setIfInBounds, Array.getElem?_push, Array.size_push, Array.size_setIfInBounds]
  by_cases hj : r = j
  · subst hj
    rw [if_pos rfl, if_pos (by omega), if_neg (by omega), if_pos rfl, if_pos h]
  · rw [if_neg hj, if_neg hj]
set_option maxRecDepth 3000 in
theorem putO_more {o' : Obj} (h : InHeap r w) : putO (more w m) r o' = more (putO w r o') m := by
  unfold InHeap at h
  unfold putO more
  congr 1
  apply Array.ext_getElem?
  intro j
  simp only [Array.getElem?_setIfInBounds, Array.getElem?_append, Array.size_append, Array.size_setIfInBounds]
  by_cases hj : r = j
  · subst hj
    rw [if_pos rfl, if_pos (by omega), if_pos h, if_pos rfl, if_pos h]
  · rw [if_neg hj, if_neg hj]
set_option maxRecDepth 3000 in
theorem putB_alloc (h : InHeap r w) : putB (w.alloc o) r k v = (putB w r k v).alloc o := by
  unfold putB updO; rw [Below.heap_alloc _ _ _ h, putO_alloc h]
set_option maxRecDepth 3000 in
theorem putB_more (h : InHeap r w) : putB (more w m) r k v = more (putB w r k v) m := by
  unfold putB updO; rw [heap_more _ _ _ h, putO_more h]
set_option maxRecDepth 3000 in
theorem putB_drew : putB w.drew r k v = (putB w r k v).drew := rfl
set_option maxRecDepth 3000 in
theorem putB_drewN : putB (w.drewN n) r k v = (putB w r k v).drewN n := rfl
set_option maxRecDepth 3000 in
@[go_sem] theorem cell_putB {b i : Nat} (h : ¬ b = r) : (putB w r k v).cell? ⟨b, i, none⟩ = w.cell? ⟨b, i, none⟩ := World.cell?_of_block (putO_ne h)
set_option maxRecDepth 3000 in
@[go_sem] theorem frozen_putB {b i : Nat} (h : ¬ b = r) : (putB w r k v).frozen? ⟨b, i, none⟩ = w.frozen? ⟨b, i, none⟩ := World.frozen?_of_block (putO_ne h)
set_option maxRecDepth 3000 in
@[go_sem] theorem cell_entB {b i : Nat} (h : ¬ b = r) : (entB w r k z).cell? ⟨b, i, none⟩ = w.cell? ⟨b, i, none⟩ := World.cell?_of_block (putO_ne h)
set_option maxRecDepth 3000 in
@[go_sem] theorem frozen_entB {b i : Nat} (h : ¬ b = r) : (entB w r k z).frozen? ⟨b, i, none⟩ = w.frozen? ⟨b, i, none⟩ := World.frozen?_of_block (putO_ne h)
end
end Go.Proofs.YtnjagecmhdagkaaDoor
