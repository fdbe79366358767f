/-
  Classes: Class, walked.
-/
import Derived.Test.YtcfkniejpeakdaaSets
namespace Go.Proofs.Ytcfkniejpeakdaa
open Go.RowKit Go.MapKept
attribute [local go_sem ↓] zero22

/-- The bytes of a class, and whether there is one. -/
def classP (k : ByteArray) : Nat → Bool := fun c => match clsOf k with
  | some (_, p) => p c
  | none => false
theorem zeroIs (w : World) : (zeroValue 41).run Try.prog w = .ok .nilFunc w := by kernel_rfl
/-- A look-up in the map of the classes. -/
theorem look_cls {lo : Nat} {w : World} {r : Nat} (h : IsMap lo w r) (k : ByteArray) : ∃ v, (∀ n, (Instr.lookup 50 (.map (some r)) (.string k) true).run Try.prog (w.drewN n) = .ok (.tuple #[v, .bool (clsOf k).isSome]) (w.drewN n)) ∧
    (Instr.lookup 50 (.map (some r)) (.string k) true).run Try.prog w = .ok (.tuple #[v, .bool (clsOf k).isSome]) w ∧ (∀ i p, clsOf k = some (i, p) → Tells lo w v p) ∧ (clsOf k = none → v = .nilFunc) := by
  obtain ⟨es, clk, h1, h2, h3⟩ := h
  have h4 := h3 k
  have hr : ∀ w', w'.heap[r]? = w.heap[r]? → (Instr.lookup 50 (.map (some r)) (.string k) true).run Try.prog w' = .ok (.tuple #[(look es.toList k).getD .nilFunc, .bool (look es.toList k).isSome]) w' := fun w' hw =>
    run_lookup_str Try.underlying50 Try.underlying9 k .nilFunc zeroIs (hw.trans h1) h2
  cases hc : clsOf k with
  | none =>
    rw [hc] at h4
    simp only [] at h4
    rw [h4] at hr
    exact ⟨.nilFunc, (fun n => hr _ rfl), hr _ rfl, (fun i p h => by cases h), (fun _ => rfl)⟩
  | some x =>
    obtain ⟨i, p⟩ := x
    rw [hc] at h4
    obtain ⟨v, hv, ht⟩ := h4
    rw [hv] at hr
    exact ⟨v, (fun n => hr _ rfl), hr _ rfl, (fun i' p' h => by injection h with h; injection h with _ h; subst h; exact ht), (fun h => by cases h)⟩

set_option maxRecDepth 100000 in
set_option maxHeartbeats 2000000 in
theorem class_any (k : ByteArray) (w : World) : Calls Try.prog 13 #[.string k] w fun e w' => e = .returned (.tuple #[.agg (SA (classP k)), .bool (clsOf k).isSome]) ∧ Grows w w' := by
  go_enter Try.func13, Try.ntmps13
  go_wp2_with fail
  (with_reducible refine (named_any _).mono ?_)
  rintro e w1 ⟨r, rfl, hmap, m1, rfl⟩
  obtain ⟨v, -, hlk, hy, hn⟩ := look_cls hmap k
  have hb0 : blk (more (w.alloc (.cells (SA fun _ => false) 22)) m1) w.heap.size = SA fun _ => false := by simp [go_sem]
  cases hc : clsOf k with
  | none =>
    obtain rfl := hn hc
    have hP : SA (classP k) = SA fun _ => false := SA_ext fun c _ => by simp [classP, hc]
    rw [hc] at hlk
    have HP := Lib.hid hP
    have HC0 := Lib.hid hc
    clear hP hc hy hn hmap hb0
    simp only [Option.isSome_none] at hlk ⊢
    go_wp2_with fail
    rw [HP.out]
    exact bodyPost_ret (v := .tuple #[.agg (SA fun _ => false), .bool false]) (by simp [results, Try.results13, go_sem]) rfl ⟨by rw [HC0.out]; rfl, ((Grows.refl _).alloc _).more _⟩
  | some x =>
    obtain ⟨i, p⟩ := x
    have ht := hy i p hc
    have hP : SA (fun c => false || p c) = SA (classP k) := SA_ext fun c _ => by simp [classP, hc]
    rw [hc] at hlk
    have HP := Lib.hid hP
    have HC0 := Lib.hid hc
    clear hP hc hy hn hmap
    simp only [Option.isSome_some] at hlk ⊢
    go_wp2_with fail
    (with_reducible refine (add_any w.heap.size _ _ v p _ hb0 (by simp) ht).mono ?_)
    rintro e w2 ⟨rfl, hT⟩
    have hb2 := hT.blk hb0 (by simp)
    obtain ⟨m2, rfl⟩ := hT
    rw [HP.out] at hb2 ⊢
    simp only [setBlk_more (w.alloc (.cells (SA fun _ => false) 22)) m1 (SA (classP k)) w.heap.size (by simp [go_sem]), setBlk_alloc_at w (SA fun _ => false) (SA (classP k)) 22 w.heap.size rfl]
    go_wp2_with fail
    exact bodyPost_ret (v := .tuple #[.agg (SA (classP k)), .bool true]) (by simp [results, Try.results13, go_sem]) rfl ⟨by rw [HC0.out]; rfl, (((Grows.refl _).alloc _).more _).more _⟩
end Go.Proofs.Ytcfkniejpeakdaa
