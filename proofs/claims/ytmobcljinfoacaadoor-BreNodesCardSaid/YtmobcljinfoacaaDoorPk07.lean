/-
  Maps keyed by strings: a look-up, and a new key.
-/
import Derived.Test.YtmobcljinfoacaaDoorPk00
import Derived.MapKept
namespace Go.Proofs.YtmobcljinfoacaaDoor
open Go.RowKit Go.MapKept

set_option maxRecDepth 3000 in
theorem ba_eq {a b : ByteArray} (h : (a == b) = true) : a = b := by
  obtain ⟨x⟩ := a
  obtain ⟨y⟩ := b
  have h2 : (x == y) = true := h
  have h3 : x = y := by simpa using h2
  rw [h3]
set_option maxRecDepth 3000 in
theorem ba_refl (a : ByteArray) : (a == a) = true := by
  obtain ⟨x⟩ := a
  show (x == x) = true
  simp
/-- Is a key this string? -/
def keyIs (v : Value) (k : ByteArray) : Bool := match v with | .string s => k == s | _ => false
def lookI : List MapEntry → ByteArray → Nat → Option (Nat × Value)
  | [], _, _ => none
  | e :: es, k, i => if keyIs e.key k then some (i, e.val) else lookI es k (i + 1)
/-- What a key has. -/
def look : List MapEntry → ByteArray → Option Value
  | [], _ => none
  | e :: es, k => if keyIs e.key k then some e.val else look es k
set_option maxRecDepth 3000 in
theorem lookI_look (es : List MapEntry) (k : ByteArray) : ∀ i, (lookI es k i).map (·.2) = look es k := by
  induction es with
  | nil => intro i; rfl
  | cons e es ih => intro i; unfold lookI look; split <;> simp [ih]
set_option maxRecDepth 3000 in
theorem look_push (es : List MapEntry) (e : MapEntry) (k : ByteArray) : look (es ++ [e]) k = (look es k).or (if keyIs e.key k then some e.val else none) := by
  induction es with
  | nil => simp [look]
  | cons x es ih => simp only [List.cons_append, look, ih]; split <;> simp
def StrKeys (es : List MapEntry) : Prop := ∀ e ∈ es, ∃ s, e.key = .string s
set_option maxRecDepth 3000 in
theorem findNow_str (k : ByteArray) (es : List MapEntry) : ∀ i, StrKeys es → Instr.findNow .string (.string k) es i = some (lookI es k i) := by
  induction es with
  | nil => intro i _; rfl
  | cons e es ih =>
    intro i h
    obtain ⟨s, hs⟩ := h e (by simp)
    have := ih (i + 1) (fun x hx => h x (by simp [hx]))
    have hn : Instr.sameNow .string (.string k) e.key = some (keyIs e.key k) := by rw [hs]; rfl
    unfold Instr.findNow lookI
    rw [hn]
    cases keyIs e.key k with
    | true => rfl
    | false => simpa using this
section
variable {P : Program} {w : World} {r clock : Nat} {es : Array MapEntry} {t kt et : TypeId}
set_option maxRecDepth 3000 in
theorem run_find_str (hk : P.underlying kt = some .string) (k : ByteArray) (hs : StrKeys es.toList) : (Instr.findKey kt (.string k) es.toList).run P w = .ok (lookI es.toList k 0) w := run_findKey hk (findNow_str k es.toList 0 hs)
set_option maxRecDepth 3000 in
theorem run_update_new (ht : P.underlying t = some (.map kt et)) (hk : P.underlying kt = some .string) (k : ByteArray) (v : Value) (hb : w.heap[r]? = some (.map es clock)) (hs : StrKeys es.toList) (hl : look es.toList k = none) :
    (Instr.mapUpdate t (.map (some r)) (.string k) v).run P w = .ok () { w with heap := w.heap.setIfInBounds r (.map (es.push { key := .string k, val := v, born := clock }) (clock + 1)) } := by
  have hf : lookI es.toList k 0 = none := by
    have := lookI_look es.toList k 0
    rw [hl] at this
    simpa using this
  unfold Instr.mapUpdate
  simp only [Sem.run_bind, run_underlying ht, Result.andThen_ok, Go.MapKept.run_getObj_map hb, run_checkKey hk (show IsKey .string (.string k) by simp [IsKey]), run_find_str hk k hs, hf, run_setObj_map _ hb]
set_option maxRecDepth 3000 in
theorem run_lookup_str (ht : P.underlying t = some (.map kt et)) (hk : P.underlying kt = some .string) (k : ByteArray) (z : Value) (hz : ∀ w, (zeroValue et).run P w = .ok z w) (hb : w.heap[r]? = some (.map es clock)) (hs : StrKeys es.toList) :
    (Instr.lookup t (.map (some r)) (.string k) true).run P w = .ok (.tuple #[(look es.toList k).getD z, .bool (look es.toList k).isSome]) w := by
  have hf := lookI_look es.toList k 0
  unfold Instr.lookup
  simp only [Sem.run_bind, run_underlying ht, Result.andThen_ok, Go.MapKept.run_getObj_map hb, Sem.run_pure, run_checkKey hk (show IsKey .string (.string k) by simp [IsKey]), run_find_str hk k hs]
  cases h : lookI es.toList k 0 with
  | none =>
    rw [h] at hf
    simp only [Option.map_none] at hf
    rw [← hf]
    simp [hz]
  | some x =>
    rw [h] at hf
    simp only [Option.map_some] at hf
    rw [← hf]
    simp
end
end Go.Proofs.YtmobcljinfoacaaDoor
