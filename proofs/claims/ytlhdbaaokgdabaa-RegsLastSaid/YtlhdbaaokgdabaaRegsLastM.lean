/-
  Registers: append of one text to a list of texts, as the walk comes to it.
-/
import Derived.Test.YtlhdbaaokgdabaaRegsWalk
import Derived.Laws.AppendOwnNone
namespace Go.Proofs.Ytlhdbaaokgdabaa
open Go.RowKit

theorem infoReg : (Try.prog.info? 25).map (fun i => (i.zero, i.size, i.bytes)) = some (some rz, 2, 32) := by kernel_rfl
/-- append(x, y), of elements of two cells: x nil or the call's own. -/
theorem wpList_append2 {P : Program} (w : World) {ops : Array Oper} {rest : List Oper} {o : Oper} {a : Act} {Q : Exit → Act → World → Prop} (hgd : o.guard = none) (s x : Operand) (t : TypeId)
    (ho : o.op = .call { callee := .builtin .append, args := #[s, x], argTypes := #[t, t] })
    (base : Nat) (e : TypeId) (i : TypeInfo) (z : Value) (bytes : Nat) (ht : P.underlying t = some (.slice e)) (hi : P.info? e = some i) (hz : i.zero = some z)
    (hsize : i.size = 2) (hby : i.bytes = bytes) (hzs : z.cells.size = 2) (v : Value) (n : Nat) (xs : List Value) (hs : a.eval s = v) (hown : w.ownsRow base e 2 v n xs)
    (b f : Nat) (u0 u1 : Value) (hx : a.eval x = .slice (some ⟨b, f, none⟩) 1 1) (h0 : w.cell? ⟨b, f, none⟩ = some u0) (h1c : w.cell? ⟨b, f + 1, none⟩ = some u1) (h1 : u0.oneCell' = true ∧ u1.oneCell' = true)
    (h63 : n + 1 ≤ maxLen) (hbytes : (n + 1) * bytes ≤ 140737488355328) (hbase : base ≤ w.heap.size)
    (h : ∀ v' w', w'.ownsRow base e 2 v' (n + 1) (xs ++ [u0, u1]) → w.grownBy w' v.ownBlock → wpList P ops Q rest (a.put o.dst v') w') : wpList P ops Q (o :: rest) a w := by
  refine wpList_append_own w hgd s x t ho base e i z 2 bytes ht hi hz hsize hby hzs (by decide) v n xs hs hown ⟨b, f, none⟩ 1 1 [u0, u1] hx rfl (fun j u hu => ?_) (fun u hu => ?_) h63 hbytes hbase (fun v' w' a1 a2 _ => h v' w' a1 a2)
  · have hadd : (⟨b, f, none⟩ : Addr).add j = ⟨b, f + j, none⟩ := by unfold Addr.add; split <;> simp_all
    rw [hadd]
    match j, hu with
    | 0, hu => simp at hu; subst hu; exact h0
    | 1, hu => simp at hu; subst hu; exact h1c
    | j + 2, hu => simp at hu
  · simp at hu
    rcases hu with rfl | rfl
    · exact h1.1
    · exact h1.2
end Go.Proofs.Ytlhdbaaokgdabaa
