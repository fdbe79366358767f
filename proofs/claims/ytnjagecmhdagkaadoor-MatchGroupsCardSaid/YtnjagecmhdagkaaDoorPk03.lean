/-
  Several texts of the proof: Region, MapS, NamedJ.
-/
import Derived.Test.YtnjagecmhdagkaaDoorPk00
import Derived.MapKept
import Derived.Test.YtnjagecmhdagkaaDoorPk02
import Derived.Laws.EntriesVeiled
set_option linter.unusedSimpArgs false
set_option linter.unusedVariables false
/-
  A region that draws its order, by an invariant: whatever operation comes next, it keeps what is said of the operations that are done.
-/
namespace Go.Proofs.YtnjagecmhdagkaaDoor
open Go.RowKit

section
variable {P : Program} {ops : Array Oper} {md : Region.Mode} {Q : Exit → Act → World → Prop}
set_option maxRecDepth 3000 in
theorem count_set (l : List Bool) : ∀ (i : Nat), l[i]? = some false → (l.set i true).countP (!·) + 1 = l.countP (!·) := by
  induction l with
  | nil => intro i h; simp at h
  | cons b l ih =>
    intro i h
    cases i with
    | zero =>
      simp at h
      subst h
      simp
    | succ i =>
      have := ih i (by simpa using h)
      simp only [List.set_cons_succ, List.countP_cons]
      omega
set_option maxRecDepth 3000 in
theorem wpAny_inv {J : Array Bool → Act → World → Prop}
    (hstep : ∀ done a w i, J done a w → i ∈ Region.ready md ops done → wpOp P ops Q i (J (done.setIfInBounds i true)) a w)
    (hend : ∀ done a w, J done a w → Region.ready md ops done = [] → Q .normal a w) :
    ∀ (fuel : Nat) (done : Array Bool) (a : Act) (w : World), done.size = ops.size → done.toList.countP (!·) ≤ fuel → J done a w → wpAny P md ops Q fuel done a w := by
  intro fuel
  induction fuel with
  | zero =>
    intro done a w hs hc h
    have hr : Region.ready md ops done = [] := by
      rw [List.eq_nil_iff_forall_not_mem]
      intro i hi
      have h1 := (mem_ready.1 hi).1
      have hlt : i < ops.size := by
        have : i ∈ List.range ops.size := (List.mem_filter.1 hi).1
        simpa using this
      have h2 : done.toList[i]? = some false := by
        have : i < done.size := by omega
        simp [Array.getD, this] at h1
        simp [this, h1]
      have := count_set _ i h2
      omega
    exact ⟨hr, hend _ _ _ h hr⟩
  | succ fuel ih =>
    intro done a w hs hc h
    refine ⟨hend _ _ _ h, fun i hi => ?_⟩
    have h1 := (mem_ready.1 hi).1
    have hlt : i < ops.size := by
      have : i ∈ List.range ops.size := (List.mem_filter.1 hi).1
      simpa using this
    have h2 : done.toList[i]? = some false := by
      have : i < done.size := by omega
      simp [Array.getD, this] at h1
      simp [this, h1]
    have h3 := count_set _ i h2
    refine wpOp_mono (fun a' w' h' => ih _ a' w' (by simpa using hs) ?_ h') (hstep done a w i h hi)
    rw [Array.toList_setIfInBounds]
    omega
set_option maxRecDepth 3000 in
/-- A region that draws its order, by an invariant. -/
theorem region_inv {id : Nat} {a : Act} {w : World} {l : List Oper} {J : Array Bool → Act → World → Prop} (hm : P.follows .mixedOrders = true)
    (hstart : J (Array.replicate l.length false) a { w with drawn := w.drawn + 1 })
    (hstep : ∀ done a w i, J done a w → i ∈ Region.ready .any l.toArray done → wpOp P l.toArray Q i (J (done.setIfInBounds i true)) a w)
    (hend : ∀ done a w, J done a w → Region.ready .any l.toArray done = [] → Q .normal a w) : (Code.region id l.toArray true).wp P Q a w := by
  refine wp_region_any hm (wpAny_inv hstep hend _ _ _ _ (by simp) (Nat.le_trans List.countP_le_length (by simp)) (by simpa using hstart))
/-- No operation waits for a later one. -/
def backB (l : List Oper) : Bool := (List.range l.length).all fun i => ((l.toArray[i]?).map fun o => o.after.all fun e => !Region.binds .any e || decide (e.on < i)).getD false
set_option maxRecDepth 3000 in
theorem all_done {l : List Oper} (hb : backB l = true) {done : Array Bool} (hs : done.size = l.length) (hr : Region.ready .any l.toArray done = []) : ∀ i, i < l.length → done.getD i false = true := by
  intro i
  induction i using Nat.strongRecOn with
  | ind i ih =>
    intro hi
    apply Classical.byContradiction
    intro hn
    have h1 : done.getD i true = false := by
      have : i < done.size := by omega
      simp [Array.getD, this] at hn ⊢
      exact hn
    have h2 : i ∈ Region.ready .any l.toArray done := by
      rw [mem_ready]
      have ho : l.toArray[i]? = some (l[i]'hi) := by simp [hi]
      refine ⟨h1, _, ho, fun e he hbd => ?_⟩
      have h3 := (List.all_eq_true.1 hb) i (by simpa using hi)
      rw [ho] at h3
      simp only [Option.map_some, Option.getD_some, Array.all_eq_true_iff_forall_mem, decide_eq_true_eq] at h3
      have h4 := h3 e he
      simp only [hbd, Bool.not_true, Bool.false_or, decide_eq_true_eq] at h4
      exact ih e.on h4 (by omega)
    rw [hr] at h2
    cases h2
set_option maxRecDepth 3000 in
/-- A region that draws its order, by an invariant that says at least how many operations there are; at the end all are done. -/
theorem region_all {id : Nat} {a : Act} {w : World} {l : List Oper} {J : Array Bool → Act → World → Prop} (hm : P.follows .mixedOrders = true) (hb : backB l = true) (hsz : ∀ done a w, J done a w → done.size = l.length)
    (hstart : J (Array.replicate l.length false) a { w with drawn := w.drawn + 1 })
    (hstep : ∀ done a w i, J done a w → i ∈ Region.ready .any l.toArray done → wpOp P l.toArray Q i (J (done.setIfInBounds i true)) a w)
    (hend : ∀ done a w, J done a w → (∀ i, i < l.length → done.getD i false = true) → Q .normal a w) : (Code.region id l.toArray true).wp P Q a w :=
  region_inv hm hstart hstep fun done a w hJ hr => hend done a w hJ (all_done hb (hsz _ _ _ hJ) hr)
set_option maxRecDepth 3000 in
/-- A step at an operation that is known, and has no guard. -/
theorem wpOp_at {i : Nat} {o : Oper} {K : Act → World → Prop} {a : Act} {w : World} (h : ops[i]? = some o) (hg : o.guard = none) (hw : o.wp P a w K Q) : wpOp P ops Q i K a w := by
  unfold wpOp
  rw [h]
  simp only [Region.wanted, hg]
  exact Or.inl hw
/-- An operation that i waits for. -/
def depB (ops : Array Oper) (i j : Nat) : Bool := ((ops[i]?).map fun o => o.after.any fun e => Region.binds .any e && e.on == j).getD false
set_option maxRecDepth 3000 in
theorem ready_dep {i j : Nat} {done : Array Bool} (hr : i ∈ Region.ready .any ops done) (h : depB ops i j = true) : done.getD j false = true := by
  obtain ⟨_, o, ho, hd⟩ := mem_ready.1 hr
  unfold depB at h
  rw [ho] at h
  simp only [Option.map_some, Option.getD_some] at h
  rw [← Array.any_toList, List.any_eq_true] at h
  obtain ⟨e, he, h⟩ := h
  simp only [Bool.and_eq_true, beq_iff_eq] at h
  obtain ⟨hb, rfl⟩ := h
  exact hd e (by simpa using he) hb
end
end Go.Proofs.YtnjagecmhdagkaaDoor

/-
  Maps keyed by strings: a look-up, and a new key.
-/
namespace Go.Proofs.YtnjagecmhdagkaaDoor
open Go.RowKit Go.MapKept

set_option maxRecDepth 3000 in
theorem ba_eq {a b : ByteArray} (h : (a == b) = true) : a = b := by
  obtain ⟨x⟩ := a
  obtain ⟨y⟩ := b
  have h2 : (x == y) = true := h
  have h3 : x = y := by simpa using h2
  rw [h3]
set_option maxRecDepth 3000 in
theorem ba_refl (a : ByteArray) : (a == a) = true := by
  obtain ⟨x⟩ := a
  show (x == x) = true
  simp
/-- Is a key this string? -/
def keyIs (v : Value) (k : ByteArray) : Bool := match v with | .string s => k == s | _ => false
def lookI : List MapEntry → ByteArray → Nat → Option (Nat × Value)
  | [], _, _ => none
  | e :: es, k, i => if keyIs e.key k then some (i, e.val) else lookI es k (i + 1)
/-- What a key has. -/
def look : List MapEntry → ByteArray → Option Value
  | [], _ => none
  | e :: es, k => if keyIs e.key k then some e.val else look es k
set_option maxRecDepth 3000 in
theorem lookI_look (es : List MapEntry) (k : ByteArray) : ∀ i, (lookI es k i).map (·.2) = look es k := by
  induction es with
  | nil => intro i; rfl
  | cons e es ih => intro i; unfold lookI look; split <;> simp [ih]
set_option maxRecDepth 3000 in
theorem look_push (es : List MapEntry) (e : MapEntry) (k : ByteArray) : look (es ++ [e]) k = (look es k).or (if keyIs e.key k then some e.val else none) := by
  induction es with
  | nil => simp [look]
  | cons x es ih => simp only [List.cons_append, look, ih]; split <;> simp
def StrKeys (es : List MapEntry) : Prop := ∀ e ∈ es, ∃ s, e.key = .string s
set_option maxRecDepth 3000 in
theorem findNow_str (k : ByteArray) (es : List MapEntry) : ∀ i, StrKeys es → Instr.findNow .string (.string k) es i = some (lookI es k i) := by
  induction es with
  | nil => intro i _; rfl
  | cons e es ih =>
    intro i h
    obtain ⟨s, hs⟩ := h e (by simp)
    have := ih (i + 1) (fun x hx => h x (by simp [hx]))
    have hn : Instr.sameNow .string (.string k) e.key = some (keyIs e.key k) := by rw [hs]; rfl
    unfold Instr.findNow lookI
    rw [hn]
    cases keyIs e.key k with
    | true => rfl
    | false => simpa using this
section
variable {P : Program} {w : World} {r clock : Nat} {es : Array MapEntry} {t kt et : TypeId}
set_option maxRecDepth 3000 in
theorem run_find_str (hk : P.underlying kt = some .string) (k : ByteArray) (hs : StrKeys es.toList) : (Instr.findKey kt (.string k) es.toList).run P w = .ok (lookI es.toList k 0) w := run_findKey hk (findNow_str k es.toList 0 hs)
set_option maxRecDepth 3000 in
theorem run_update_new (ht : P.underlying t = some (.map kt et)) (hk : P.underlying kt = some .string) (k : ByteArray) (v : Value) (hb : w.heap[r]? = some (.map es clock)) (hs : StrKeys es.toList) (hl : look es.toList k = none) :
    (Instr.mapUpdate t (.map (some r)) (.string k) v).run P w = .ok () { w with heap := w.heap.setIfInBounds r (.map (es.push { key := .string k, val := v, born := clock }) (clock + 1)) } := by
  have hf : lookI es.toList k 0 = none := by
    have := lookI_look es.toList k 0
    rw [hl] at this
    simpa using this
  unfold Instr.mapUpdate
  simp only [Sem.run_bind, run_underlying ht, Result.andThen_ok, Go.MapKept.run_getObj_map hb, run_checkKey hk (show IsKey .string (.string k) by simp [IsKey]), run_find_str hk k hs, hf, run_setObj_map _ hb]
set_option maxRecDepth 3000 in
theorem run_lookup_str (ht : P.underlying t = some (.map kt et)) (hk : P.underlying kt = some .string) (k : ByteArray) (z : Value) (hz : ∀ w, (zeroValue et).run P w = .ok z w) (hb : w.heap[r]? = some (.map es clock)) (hs : StrKeys es.toList) :
    (Instr.lookup t (.map (some r)) (.string k) true).run P w = .ok (.tuple #[(look es.toList k).getD z, .bool (look es.toList k).isSome]) w := by
  have hf := lookI_look es.toList k 0
  unfold Instr.lookup
  simp only [Sem.run_bind, run_underlying ht, Result.andThen_ok, Go.MapKept.run_getObj_map hb, Sem.run_pure, run_checkKey hk (show IsKey .string (.string k) by simp [IsKey]), run_find_str hk k hs]
  cases h : lookI es.toList k 0 with
  | none =>
    rw [h] at hf
    simp only [Option.map_none] at hf
    rw [← hf]
    simp [hz]
  | some x =>
    rw [h] at hf
    simp only [Option.map_some] at hf
    rw [← hf]
    simp
end
end Go.Proofs.YtnjagecmhdagkaaDoor

/-
  Classes: named, the map of the classes, in whatever order its literal is laid.
-/
namespace Go.Proofs.YtnjagecmhdagkaaDoor
open Go.RowKit Go.MapKept

set_option maxRecDepth 3000 in
theorem TellAll.two {lo : Nat} {w : World} {a b : Value} {p q : Int → Bool} (ha : Tells lo w a p) (hb : Tells lo w b q) : TellAll lo w [a, b] [p, q] := by
  refine ⟨rfl, fun i v r hv hr => ?_⟩
  match i, hv, hr with
  | 0, hv, hr => simp at hv hr; subst hv hr; exact ha
  | 1, hv, hr => simp at hv hr; subst hv hr; exact hb
  | i + 2, hv, _ => simp at hv
set_option maxRecDepth 3000 in
theorem TellAll.three {lo : Nat} {w : World} {a b c : Value} {p q r : Int → Bool} (ha : Tells lo w a p) (hb : Tells lo w b q) (hc : Tells lo w c r) : TellAll lo w [a, b, c] [p, q, r] := by
  refine ⟨rfl, fun i v r hv hr => ?_⟩
  match i, hv, hr with
  | 0, hv, hr => simp at hv hr; subst hv hr; exact ha
  | 1, hv, hr => simp at hv hr; subst hv hr; exact hb
  | 2, hv, hr => simp at hv hr; subst hv hr; exact hc
  | i + 3, hv, _ => simp at hv
set_option maxRecDepth 3000 in
theorem some_new (cs : Array Value) (ps : List (Int → Bool)) (lo g n cap : Nat) (w : World) (ty : TypeId) (hg : g = w.heap.size) (hlo : lo ≤ w.heap.size) (hn : n = cs.size) (hl : cs.size ≤ 1000000) (hT : TellAll lo w cs.toList ps) :
    Calls Tryd.prog 87 #[.slice (some ⟨g, 0, none⟩) n cap] (w.alloc (.cells cs ty)) (NewTellIn lo (someP ps) (w.alloc (.cells cs ty))) :=
  some_any cs.toList ps lo g 0 n cap _ (by simpa using hl) (by simpa using hn) (by omega) (by simp; omega) (by have := rd_new w cs ty cs.size g rfl hg; simpa using this) (hT.grows ((Grows.refl _).alloc _))

/-- What is said of an operation's value. -/
inductive Sp where
  | none
  | tell (p : Int → Bool)
  | row (ps : List (Int → Bool))
def SpOk (lo : Nat) (w : World) : Sp → Value → Prop
  | .none, _ => True
  | .tell p, v => Tells lo w v p
  | .row ps, v => ∃ (g n : Nat) (vs : List Value), v = .slice (some ⟨g, 0, none⟩) n n ∧ n = vs.length ∧ lo ≤ g ∧ n ≤ 1000000 ∧ Rd w 1 (some ⟨g, 0, none⟩) vs.length vs ∧ TellAll lo w vs ps
set_option maxRecDepth 3000 in
theorem SpOk.ext {lo : Nat} {w w' : World} {s : Sp} {v : Value} (h : SpOk lo w s v) (hg : Ext lo w w') : SpOk lo w' s v := by
  cases s with
  | none => trivial
  | tell p => exact Tells.ext h hg
  | row ps =>
    obtain ⟨g, n, vs, h1, h2, h3, h4, h5, h6⟩ := h
    exact ⟨g, n, vs, h1, h2, h3, h4, h5.ext h3 hg, h6.ext hg⟩
/-- The temporaries of the operations of the map. -/
def dsN : Nat → Option Nat
  | 0 => some 15
  | 1 => some 16
  | 3 => some 17
  | 5 => some 18
  | 7 => some 19
  | 9 => some 20
  | 11 => some 21
  | 12 => some 22
  | 13 => some 23
  | 14 => some 24
  | 16 => some 25
  | 17 => some 26
  | 18 => some 27
  | 19 => some 28
  | 20 => some 29
  | 22 => some 30
  | 23 => some 31
  | 24 => some 32
  | 25 => some 33
  | 27 => some 34
  | 28 => some 35
  | 29 => some 36
  | 30 => some 37
  | 32 => some 38
  | 33 => some 39
  | 34 => some 40
  | 35 => some 41
  | 37 => some 42
  | 39 => some 43
  | 41 => some 44
  | 42 => some 0
  | _ => none
/-- What is said of each. -/
def spN : Nat → Sp
  | 1 => .tell (spanP 97 122)
  | 3 => .tell (spanP 65 90)
  | 5 => .tell (spanP 48 57)
  | 7 => .tell (someP [(spanP 97 122), (spanP 65 90), (spanP 48 57)])
  | 9 => .tell (spanP 33 126)
  | 11 => .tell (spanP 97 122)
  | 12 => .tell (spanP 65 90)
  | 13 => .row [(spanP 97 122), (spanP 65 90)]
  | 14 => .tell (someP [(spanP 97 122), (spanP 65 90)])
  | 16 => .tell (spanP 48 57)
  | 17 => .tell (spanP 97 102)
  | 18 => .tell (spanP 65 70)
  | 19 => .row [(spanP 48 57), (spanP 97 102), (spanP 65 70)]
  | 20 => .tell (someP [(spanP 48 57), (spanP 97 102), (spanP 65 70)])
  | 22 => .tell (spanP 9 13)
  | 23 => .tell (spanP 32 32)
  | 24 => .row [(spanP 9 13), (spanP 32 32)]
  | 25 => .tell (someP [(spanP 9 13), (spanP 32 32)])
  | 27 => .tell (spanP 9 9)
  | 28 => .tell (spanP 32 32)
  | 29 => .row [(spanP 9 9), (spanP 32 32)]
  | 30 => .tell (someP [(spanP 9 9), (spanP 32 32)])
  | 32 => .tell (spanP 0 31)
  | 33 => .tell (spanP 127 127)
  | 34 => .row [(spanP 0 31), (spanP 127 127)]
  | 35 => .tell (someP [(spanP 0 31), (spanP 127 127)])
  | 37 => .tell (spanP 32 126)
  | 39 => .tell fun c => (spanP 33 126) c && !((someP [(spanP 97 122), (spanP 65 90), (spanP 48 57)]) c)
  | _ => .none
/-- The classes: a name, the operation that lays it, what it tells. -/
def clsL : List (ByteArray × Nat × (Int → Bool)) :=
  [(⟨#[108, 111, 119, 101, 114]⟩, 2, (spanP 97 122)),
   (⟨#[117, 112, 112, 101, 114]⟩, 4, (spanP 65 90)),
   (⟨#[100, 105, 103, 105, 116]⟩, 6, (spanP 48 57)),
   (⟨#[97, 108, 110, 117, 109]⟩, 8, (someP [(spanP 97 122), (spanP 65 90), (spanP 48 57)])),
   (⟨#[103, 114, 97, 112, 104]⟩, 10, (spanP 33 126)),
   (⟨#[97, 108, 112, 104, 97]⟩, 15, (someP [(spanP 97 122), (spanP 65 90)])),
   (⟨#[120, 100, 105, 103, 105, 116]⟩, 21, (someP [(spanP 48 57), (spanP 97 102), (spanP 65 70)])),
   (⟨#[115, 112, 97, 99, 101]⟩, 26, (someP [(spanP 9 13), (spanP 32 32)])),
   (⟨#[98, 108, 97, 110, 107]⟩, 31, (someP [(spanP 9 9), (spanP 32 32)])),
   (⟨#[99, 110, 116, 114, 108]⟩, 36, (someP [(spanP 0 31), (spanP 127 127)])),
   (⟨#[112, 114, 105, 110, 116]⟩, 38, (spanP 32 126)),
   (⟨#[112, 117, 110, 99, 116]⟩, 40, (fun c => (spanP 33 126) c && !((someP [(spanP 97 122), (spanP 65 90), (spanP 48 57)]) c)))]
def invN : Nat → Nat
  | 15 => 0
  | 16 => 1
  | 17 => 3
  | 18 => 5
  | 19 => 7
  | 20 => 9
  | 21 => 11
  | 22 => 12
  | 23 => 13
  | 24 => 14
  | 25 => 16
  | 26 => 17
  | 27 => 18
  | 28 => 19
  | 29 => 20
  | 30 => 22
  | 31 => 23
  | 32 => 24
  | 33 => 25
  | 34 => 27
  | 35 => 28
  | 36 => 29
  | 37 => 30
  | 38 => 32
  | 39 => 33
  | 40 => 34
  | 41 => 35
  | 42 => 37
  | 43 => 39
  | 44 => 41
  | _ => 42
set_option maxRecDepth 3000 in
theorem dsN_inv {i d : Nat} (h : dsN i = some d) : invN d = i := by
  unfold dsN at h
  split at h <;> first | (injection h with h; subst h; rfl) | cases h
set_option maxRecDepth 3000 in
theorem dsN_inj {i j d : Nat} (h : dsN i = some d) (k : dsN j = some d) : i = j := (dsN_inv h).symm.trans (dsN_inv k)
/-- The operation that lays a class, and what it tells. -/
def clsOf (k : ByteArray) : Option (Nat × (Int → Bool)) := (clsL.find? fun c => c.1 == k).map (·.2)
/-- What the map has, as far as it is laid. -/
def MapIn (lo : Nat) (done : Array Bool) (w : World) (es : List MapEntry) : Prop :=
  ∀ k, match clsOf k with
    | none => look es k = none
    | some (i, p) => if done.getD i false = true then ∃ v, look es k = some v ∧ Tells lo w v p else look es k = none
/-- The map, among the operations that are done. -/
structure NJ (lo : Nat) (w0 : World) (a0 : Act) (done : Array Bool) (a : Act) (w : World) : Prop where
  size : done.size = 43
  tmps : a.tmps.size = 45
  inp : ∀ t : Nat, 1 ≤ t → t ≤ 5 → a.eval (.tmp t) = a0.eval (.tmp t)
  defers : a.defers = a0.defers
  low : lo ≤ w0.heap.size
  grows : Grows w0 w
  ext : Ext lo w0 w
  sp : ∀ i d : Nat, dsN i = some d → done.getD i false = true → SpOk lo w (spN i) (a.eval (.tmp d))
  map : done.getD 0 false = true → ∃ r es clk, a.eval (.tmp 15) = .map (some r) ∧ w0.heap.size ≤ r ∧ w.heap[r]? = some (.map es clk) ∧ StrKeys es.toList ∧ MapIn lo done w es.toList
  none_ : done.getD 0 false = false → ∀ c ∈ clsL, done.getD c.2.1 false = false
  late : done.getD 0 false = false → done.getD 41 false = false ∧ done.getD 42 false = false
  last : done.getD 41 false = true → a.eval (.tmp 44) = a.eval (.tmp 15)
  back : done.getD 42 false = true → a.eval (.tmp 0) = a.eval (.tmp 15)
set_option maxRecDepth 3000 in
theorem eval_put (a : Act) (d t : Nat) (v : Value) (hd : d < a.tmps.size) : (a.put (some d) v).eval (.tmp t) = if d = t then v else a.eval (.tmp t) := by
  simp only [Act.put, Act.eval, Array.getD_eq_getD_getElem?, Array.getElem?_setIfInBounds]
  by_cases h : d = t
  · subst h; simp [hd]
  · simp [h]
set_option maxRecDepth 3000 in
theorem done_set {done : Array Bool} {i j : Nat} (hi : i < done.size) : (done.setIfInBounds i true).getD j false = if i = j then true else done.getD j false := by
  simp only [Array.getD_eq_getD_getElem?, Array.getElem?_setIfInBounds]
  by_cases h : i = j
  · subst h; simp [hi]
  · simp [h]
section
variable {lo : Nat} {w0 : World} {a0 : Act} {done : Array Bool} {a : Act} {w w' : World}
set_option maxRecDepth 3000 in
theorem NJ.maps (hJ : NJ lo w0 a0 done a w) (h0 : done.getD 0 false = true) (hg : Grows w w') {done' : Array Bool} (hd : ∀ c ∈ clsL, done'.getD c.2.1 false = done.getD c.2.1 false) : ∃ r es clk, a.eval (.tmp 15) = .map (some r) ∧ w0.heap.size ≤ r ∧ w'.heap[r]? = some (.map es clk) ∧ StrKeys es.toList ∧ MapIn lo done' w' es.toList := by
  obtain ⟨r, es, clk, h1, h2, h3, h4, h5⟩ := hJ.map h0
  refine ⟨r, es, clk, h1, h2, ?_, h4, fun k => ?_⟩
  · obtain ⟨m, rfl⟩ := hg
    rw [heap_more _ _ _ (Array.getElem?_eq_some_iff.1 h3).1]; exact h3
  · have h6 := h5 k
    cases hc : clsOf k with
    | none => rw [hc] at h6; exact h6
    | some x =>
      obtain ⟨i, p⟩ := x
      rw [hc] at h6
      have hm : done'.getD i false = done.getD i false := by
        unfold clsOf at hc
        rw [Option.map_eq_some_iff] at hc
        obtain ⟨c, hc1, hc2⟩ := hc
        have := hd c (List.mem_of_find?_eq_some hc1)
        rw [hc2] at this
        exact this
      simp only [hm] at h6 ⊢
      split
      · rename_i hh
        rw [if_pos hh] at h6
        obtain ⟨v, hv1, hv2⟩ := h6
        exact ⟨v, hv1, hv2.grows hg⟩
      · rename_i hh
        rw [if_neg hh] at h6
        exact h6
set_option maxRecDepth 3000 in
/-- An operation that lays a value, and new blocks at most. -/
theorem NJ.put (hJ : NJ lo w0 a0 done a w) (i d : Nat) (v : Value) (hd : dsN i = some d) (hr : 16 ≤ d ∧ d ≤ 43) (hne : ∀ c ∈ clsL, c.2.1 ≠ i) (hi : i < 43) (hw : Grows w w') (hv : SpOk lo w' (spN i) v) : NJ lo w0 a0 (done.setIfInBounds i true) (a.put (some d) v) w' := by
  have hsz := hJ.size
  have htm := hJ.tmps
  have hev : ∀ t, t ≠ d → (a.put (some d) v).eval (.tmp t) = a.eval (.tmp t) := fun t ht => by rw [eval_put _ _ _ _ (by omega), if_neg (Ne.symm ht)]
  have h0 : i ≠ 0 := by rintro rfl; cases hd; omega
  have h41 : i ≠ 41 := by rintro rfl; cases hd; omega
  have h42 : i ≠ 42 := by rintro rfl; cases hd; omega
  refine ⟨by simp [hsz], by simp [Act.put, htm], fun t h1 h2 => (hev t (by have := hr.1; omega)).trans (hJ.inp t h1 h2), hJ.defers, hJ.low, hJ.grows.trans hw, hJ.ext.trans (hw.ext lo), fun j e he hdn => ?_, fun h => ?_, fun h c hc => ?_, fun h => ?_, fun h => ?_, fun h => ?_⟩
  · by_cases hij : i = j
    · subst hij
      obtain rfl : d = e := by rw [hd] at he; injection he
      rw [eval_put _ _ _ _ (by omega), if_pos rfl]
      exact hv
    · rw [done_set (by omega), if_neg hij] at hdn
      have hde : e ≠ d := by rintro rfl; exact hij (dsN_inj hd he)
      rw [hev e hde]
      exact (hJ.sp j e he hdn).ext (hw.ext lo)
  · rw [done_set (by omega), if_neg h0] at h
    rw [hev 15 (by omega)]
    exact hJ.maps h hw fun c hc => by rw [done_set (by omega), if_neg (Ne.symm (hne c hc))]
  · rw [done_set (by omega), if_neg h0] at h
    rw [done_set (by omega), if_neg (Ne.symm (hne c hc))]
    exact hJ.none_ h c hc
  · rw [done_set (by omega), if_neg h0] at h
    rw [done_set (by omega), if_neg h41, done_set (by omega), if_neg h42]
    exact hJ.late h
  · rw [done_set (by omega), if_neg h41] at h
    rw [hev 44 (by omega), hev 15 (by omega)]
    exact hJ.last h
  · rw [done_set (by omega), if_neg h42] at h
    rw [hev 0 (by omega), hev 15 (by omega)]
    exact hJ.back h
end
end Go.Proofs.YtnjagecmhdagkaaDoor
