/-
  Classes: named, the map of the classes, in whatever order its literal is laid.
-/
import Derived.Test.YtmobcljinfoacaaDoorPk05
import Derived.Test.YtmobcljinfoacaaDoorPk06
import Derived.Test.YtmobcljinfoacaaDoorPk07
import Derived.Laws.EntriesVeiled
namespace Go.Proofs.YtmobcljinfoacaaDoor
open Go.RowKit Go.MapKept

set_option maxRecDepth 3000 in
theorem TellAll.two {lo : Nat} {w : World} {a b : Value} {p q : Int → Bool} (ha : Tells lo w a p) (hb : Tells lo w b q) : TellAll lo w [a, b] [p, q] := by
  refine ⟨rfl, fun i v r hv hr => ?_⟩
  match i, hv, hr with
  | 0, hv, hr => simp at hv hr; subst hv hr; exact ha
  | 1, hv, hr => simp at hv hr; subst hv hr; exact hb
  | i + 2, hv, _ => simp at hv
set_option maxRecDepth 3000 in
theorem TellAll.three {lo : Nat} {w : World} {a b c : Value} {p q r : Int → Bool} (ha : Tells lo w a p) (hb : Tells lo w b q) (hc : Tells lo w c r) : TellAll lo w [a, b, c] [p, q, r] := by
  refine ⟨rfl, fun i v r hv hr => ?_⟩
  match i, hv, hr with
  | 0, hv, hr => simp at hv hr; subst hv hr; exact ha
  | 1, hv, hr => simp at hv hr; subst hv hr; exact hb
  | 2, hv, hr => simp at hv hr; subst hv hr; exact hc
  | i + 3, hv, _ => simp at hv
set_option maxRecDepth 3000 in
theorem some_new (cs : Array Value) (ps : List (Int → Bool)) (lo g n cap : Nat) (w : World) (ty : TypeId) (hg : g = w.heap.size) (hlo : lo ≤ w.heap.size) (hn : n = cs.size) (hl : cs.size ≤ 1000000) (hT : TellAll lo w cs.toList ps) :
    Calls Tryd.prog 58 #[.slice (some ⟨g, 0, none⟩) n cap] (w.alloc (.cells cs ty)) (NewTellIn lo (someP ps) (w.alloc (.cells cs ty))) :=
  some_any cs.toList ps lo g 0 n cap _ (by simpa using hl) (by simpa using hn) (by omega) (by simp; omega) (by have := rd_new w cs ty cs.size g rfl hg; simpa using this) (hT.grows ((Grows.refl _).alloc _))

/-- What is said of an operation's value. -/
inductive Sp where
  | none
  | tell (p : Int → Bool)
  | row (ps : List (Int → Bool))
def SpOk (lo : Nat) (w : World) : Sp → Value → Prop
  | .none, _ => True
  | .tell p, v => Tells lo w v p
  | .row ps, v => ∃ (g n : Nat) (vs : List Value), v = .slice (some ⟨g, 0, none⟩) n n ∧ n = vs.length ∧ lo ≤ g ∧ n ≤ 1000000 ∧ Rd w 1 (some ⟨g, 0, none⟩) vs.length vs ∧ TellAll lo w vs ps
set_option maxRecDepth 3000 in
theorem SpOk.ext {lo : Nat} {w w' : World} {s : Sp} {v : Value} (h : SpOk lo w s v) (hg : Ext lo w w') : SpOk lo w' s v := by
  cases s with
  | none => trivial
  | tell p => exact Tells.ext h hg
  | row ps =>
    obtain ⟨g, n, vs, h1, h2, h3, h4, h5, h6⟩ := h
    exact ⟨g, n, vs, h1, h2, h3, h4, h5.ext h3 hg, h6.ext hg⟩
/-- The temporaries of the operations of the map. -/
def dsN : Nat → Option Nat
  | 0 => some 15
  | 1 => some 16
  | 3 => some 17
  | 5 => some 18
  | 7 => some 19
  | 9 => some 20
  | 11 => some 21
  | 12 => some 22
  | 13 => some 23
  | 14 => some 24
  | 16 => some 25
  | 17 => some 26
  | 18 => some 27
  | 19 => some 28
  | 20 => some 29
  | 22 => some 30
  | 23 => some 31
  | 24 => some 32
  | 25 => some 33
  | 27 => some 34
  | 28 => some 35
  | 29 => some 36
  | 30 => some 37
  | 32 => some 38
  | 33 => some 39
  | 34 => some 40
  | 35 => some 41
  | 37 => some 42
  | 39 => some 43
  | 41 => some 44
  | 42 => some 0
  | _ => none
/-- What is said of each. -/
def spN : Nat → Sp
  | 1 => .tell (spanP 97 122)
  | 3 => .tell (spanP 65 90)
  | 5 => .tell (spanP 48 57)
  | 7 => .tell (someP [(spanP 97 122), (spanP 65 90), (spanP 48 57)])
  | 9 => .tell (spanP 33 126)
  | 11 => .tell (spanP 97 122)
  | 12 => .tell (spanP 65 90)
  | 13 => .row [(spanP 97 122), (spanP 65 90)]
  | 14 => .tell (someP [(spanP 97 122), (spanP 65 90)])
  | 16 => .tell (spanP 48 57)
  | 17 => .tell (spanP 97 102)
  | 18 => .tell (spanP 65 70)
  | 19 => .row [(spanP 48 57), (spanP 97 102), (spanP 65 70)]
  | 20 => .tell (someP [(spanP 48 57), (spanP 97 102), (spanP 65 70)])
  | 22 => .tell (spanP 9 13)
  | 23 => .tell (spanP 32 32)
  | 24 => .row [(spanP 9 13), (spanP 32 32)]
  | 25 => .tell (someP [(spanP 9 13), (spanP 32 32)])
  | 27 => .tell (spanP 9 9)
  | 28 => .tell (spanP 32 32)
  | 29 => .row [(spanP 9 9), (spanP 32 32)]
  | 30 => .tell (someP [(spanP 9 9), (spanP 32 32)])
  | 32 => .tell (spanP 0 31)
  | 33 => .tell (spanP 127 127)
  | 34 => .row [(spanP 0 31), (spanP 127 127)]
  | 35 => .tell (someP [(spanP 0 31), (spanP 127 127)])
  | 37 => .tell (spanP 32 126)
  | 39 => .tell fun c => (spanP 33 126) c && !((someP [(spanP 97 122), (spanP 65 90), (spanP 48 57)]) c)
  | _ => .none
/-- The classes: a name, the operation that lays it, what it tells. -/
def clsL : List (ByteArray × Nat × (Int → Bool)) :=
  [(⟨#[108, 111, 119, 101, 114]⟩, 2, (spanP 97 122)),
   (⟨#[117, 112, 112, 101, 114]⟩, 4, (spanP 65 90)),
   (⟨#[100, 105, 103, 105, 116]⟩, 6, (spanP 48 57)),
   (⟨#[97, 108, 110, 117, 109]⟩, 8, (someP [(spanP 97 122), (spanP 65 90), (spanP 48 57)])),
   (⟨#[103, 114, 97, 112, 104]⟩, 10, (spanP 33 126)),
   (⟨#[97, 108, 112, 104, 97]⟩, 15, (someP [(spanP 97 122), (spanP 65 90)])),
   (⟨#[120, 100, 105, 103, 105, 116]⟩, 21, (someP [(spanP 48 57), (spanP 97 102), (spanP 65 70)])),
   (⟨#[115, 112, 97, 99, 101]⟩, 26, (someP [(spanP 9 13), (spanP 32 32)])),
   (⟨#[98, 108, 97, 110, 107]⟩, 31, (someP [(spanP 9 9), (spanP 32 32)])),
   (⟨#[99, 110, 116, 114, 108]⟩, 36, (someP [(spanP 0 31), (spanP 127 127)])),
   (⟨#[112, 114, 105, 110, 116]⟩, 38, (spanP 32 126)),
   (⟨#[112, 117, 110, 99, 116]⟩, 40, (fun c => (spanP 33 126) c && !((someP [(spanP 97 122), (spanP 65 90), (spanP 48 57)]) c)))]
def invN : Nat → Nat
  | 15 => 0
  | 16 => 1
  | 17 => 3
  | 18 => 5
  | 19 => 7
  | 20 => 9
  | 21 => 11
  | 22 => 12
  | 23 => 13
  | 24 => 14
  | 25 => 16
  | 26 => 17
  | 27 => 18
  | 28 => 19
  | 29 => 20
  | 30 => 22
  | 31 => 23
  | 32 => 24
  | 33 => 25
  | 34 => 27
  | 35 => 28
  | 36 => 29
  | 37 => 30
  | 38 => 32
  | 39 => 33
  | 40 => 34
  | 41 => 35
  | 42 => 37
  | 43 => 39
  | 44 => 41
  | _ => 42
set_option maxRecDepth 3000 in
theorem dsN_inv {i d : Nat} (h : dsN i = some d) : invN d = i := by
  unfold dsN at h
  split at h <;> first | (injection h with h; subst h; rfl) | cases h
set_option maxRecDepth 3000 in
theorem dsN_inj {i j d : Nat} (h : dsN i = some d) (k : dsN j = some d) : i = j := (dsN_inv h).symm.trans (dsN_inv k)
/-- The operation that lays a class, and what it tells. -/
def clsOf (k : ByteArray) : Option (Nat × (Int → Bool)) := (clsL.find? fun c => c.1 == k).map (·.2)
/-- What the map has, as far as it is laid. -/
def MapIn (lo : Nat) (done : Array Bool) (w : World) (es : List MapEntry) : Prop :=
  ∀ k, match clsOf k with
    | none => look es k = none
    | some (i, p) => if done.getD i false = true then ∃ v, look es k = some v ∧ Tells lo w v p else look es k = none
/-- The map, among the operations that are done. -/
structure NJ (lo : Nat) (w0 : World) (a0 : Act) (done : Array Bool) (a : Act) (w : World) : Prop where
  size : done.size = 43
  tmps : a.tmps.size = 45
  inp : ∀ t : Nat, 1 ≤ t → t ≤ 5 → a.eval (.tmp t) = a0.eval (.tmp t)
  defers : a.defers = a0.defers
  low : lo ≤ w0.heap.size
  grows : Grows w0 w
  ext : Ext lo w0 w
  sp : ∀ i d : Nat, dsN i = some d → done.getD i false = true → SpOk lo w (spN i) (a.eval (.tmp d))
  map : done.getD 0 false = true → ∃ r es clk, a.eval (.tmp 15) = .map (some r) ∧ w0.heap.size ≤ r ∧ w.heap[r]? = some (.map es clk) ∧ StrKeys es.toList ∧ MapIn lo done w es.toList
  none_ : done.getD 0 false = false → ∀ c ∈ clsL, done.getD c.2.1 false = false
  late : done.getD 0 false = false → done.getD 41 false = false ∧ done.getD 42 false = false
  last : done.getD 41 false = true → a.eval (.tmp 44) = a.eval (.tmp 15)
  back : done.getD 42 false = true → a.eval (.tmp 0) = a.eval (.tmp 15)
set_option maxRecDepth 3000 in
theorem eval_put (a : Act) (d t : Nat) (v : Value) (hd : d < a.tmps.size) : (a.put (some d) v).eval (.tmp t) = if d = t then v else a.eval (.tmp t) := by
  simp only [Act.put, Act.eval, Array.getD_eq_getD_getElem?, Array.getElem?_setIfInBounds]
  by_cases h : d = t
  · subst h; simp [hd]
  · simp [h]
set_option maxRecDepth 3000 in
theorem done_set {done : Array Bool} {i j : Nat} (hi : i < done.size) : (done.setIfInBounds i true).getD j false = if i = j then true else done.getD j false := by
  simp only [Array.getD_eq_getD_getElem?, Array.getElem?_setIfInBounds]
  by_cases h : i = j
  · subst h; simp [hi]
  · simp [h]
section
variable {lo : Nat} {w0 : World} {a0 : Act} {done : Array Bool} {a : Act} {w w' : World}
set_option maxRecDepth 3000 in
theorem NJ.maps (hJ : NJ lo w0 a0 done a w) (h0 : done.getD 0 false = true) (hg : Grows w w') {done' : Array Bool} (hd : ∀ c ∈ clsL, done'.getD c.2.1 false = done.getD c.2.1 false) : ∃ r es clk, a.eval (.tmp 15) = .map (some r) ∧ w0.heap.size ≤ r ∧ w'.heap[r]? = some (.map es clk) ∧ StrKeys es.toList ∧ MapIn lo done' w' es.toList := by
  obtain ⟨r, es, clk, h1, h2, h3, h4, h5⟩ := hJ.map h0
  refine ⟨r, es, clk, h1, h2, ?_, h4, fun k => ?_⟩
  · obtain ⟨m, rfl⟩ := hg
    rw [heap_more _ _ _ (Array.getElem?_eq_some_iff.1 h3).1]; exact h3
  · have h6 := h5 k
    cases hc : clsOf k with
    | none => rw [hc] at h6; exact h6
    | some x =>
      obtain ⟨i, p⟩ := x
      rw [hc] at h6
      have hm : done'.getD i false = done.getD i false := by
        unfold clsOf at hc
        rw [Option.map_eq_some_iff] at hc
        obtain ⟨c, hc1, hc2⟩ := hc
        have := hd c (List.mem_of_find?_eq_some hc1)
        rw [hc2] at this
        exact this
      simp only [hm] at h6 ⊢
      split
      · rename_i hh
        rw [if_pos hh] at h6
        obtain ⟨v, hv1, hv2⟩ := h6
        exact ⟨v, hv1, hv2.grows hg⟩
      · rename_i hh
        rw [if_neg hh] at h6
        exact h6
set_option maxRecDepth 3000 in
/-- An operation that lays a value, and new blocks at most. -/
theorem NJ.put (hJ : NJ lo w0 a0 done a w) (i d : Nat) (v : Value) (hd : dsN i = some d) (hr : 16 ≤ d ∧ d ≤ 43) (hne : ∀ c ∈ clsL, c.2.1 ≠ i) (hi : i < 43) (hw : Grows w w') (hv : SpOk lo w' (spN i) v) : NJ lo w0 a0 (done.setIfInBounds i true) (a.put (some d) v) w' := by
  have hsz := hJ.size
  have htm := hJ.tmps
  have hev : ∀ t, t ≠ d → (a.put (some d) v).eval (.tmp t) = a.eval (.tmp t) := fun t ht => by rw [eval_put _ _ _ _ (by omega), if_neg (Ne.symm ht)]
  have h0 : i ≠ 0 := by rintro rfl; cases hd; omega
  have h41 : i ≠ 41 := by rintro rfl; cases hd; omega
  have h42 : i ≠ 42 := by rintro rfl; cases hd; omega
  refine ⟨by simp [hsz], by simp [Act.put, htm], fun t h1 h2 => (hev t (by have := hr.1; omega)).trans (hJ.inp t h1 h2), hJ.defers, hJ.low, hJ.grows.trans hw, hJ.ext.trans (hw.ext lo), fun j e he hdn => ?_, fun h => ?_, fun h c hc => ?_, fun h => ?_, fun h => ?_, fun h => ?_⟩
  · by_cases hij : i = j
    · subst hij
      obtain rfl : d = e := by rw [hd] at he; injection he
      rw [eval_put _ _ _ _ (by omega), if_pos rfl]
      exact hv
    · rw [done_set (by omega), if_neg hij] at hdn
      have hde : e ≠ d := by rintro rfl; exact hij (dsN_inj hd he)
      rw [hev e hde]
      exact (hJ.sp j e he hdn).ext (hw.ext lo)
  · rw [done_set (by omega), if_neg h0] at h
    rw [hev 15 (by omega)]
    exact hJ.maps h hw fun c hc => by rw [done_set (by omega), if_neg (Ne.symm (hne c hc))]
  · rw [done_set (by omega), if_neg h0] at h
    rw [done_set (by omega), if_neg (Ne.symm (hne c hc))]
    exact hJ.none_ h c hc
  · rw [done_set (by omega), if_neg h0] at h
    rw [done_set (by omega), if_neg h41, done_set (by omega), if_neg h42]
    exact hJ.late h
  · rw [done_set (by omega), if_neg h41] at h
    rw [hev 44 (by omega), hev 15 (by omega)]
    exact hJ.last h
  · rw [done_set (by omega), if_neg h42] at h
    rw [hev 0 (by omega), hev 15 (by omega)]
    exact hJ.back h
end
end Go.Proofs.YtmobcljinfoacaaDoor
