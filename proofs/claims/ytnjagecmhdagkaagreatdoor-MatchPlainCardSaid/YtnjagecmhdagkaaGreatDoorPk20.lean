/-
 Patterns: the document's reader in plain words: each part takes something away.
-/
import Derived.Test.YtnjagecmhdagkaaGreatDoorPk16
set_option linter.unusedSimpArgs false
set_option linter.unusedVariables false
set_option maxRecDepth 3000
namespace Go.Proofs.YtnjagecmhdagkaaGreatDoor
open Go.RowKit
theorem dropWhile_less (p:UInt8→Bool) (l:List UInt8):(l.dropWhile p).length≤l.length:=by
 have:=congrArg List.length (List.takeWhile_append_dropWhile (p:=p) (l:=l))
 rw [List.length_append] at this
 omega
theorem most_less (m:Nat) (l:List UInt8):(mostR m l).2.length≤l.length:=by
 unfold mostR
 split
 ·have h1:=dropWhile_less isDig (l.drop 1)
  simp only [digitsR]
  rw [List.length_drop] at h1
  omega
 ·exact Nat.le_refl _
theorem bounds_less {l:List UInt8} {b:Nat × Int × List UInt8} (h:boundsR l=some b):b.2.2.length≤l.length:=by
 unfold boundsR at h
 simp only [] at h
 split at h
 ·injection h with h
  subst h
  exact Nat.le_trans (most_less _ _) (dropWhile_less _ _)
 ·cases h
theorem times_less {n:Nat}:∀ {x:Nk} {s:RdS} {y:Nk × RdS},timesR n x s=some y→y.2.left.length≤s.left.length:=by
 induction n with
 | zero=>intro x s y h;cases h
 | succ n ih =>
  intro x s y h
  unfold timesR at h
  split at h
  ·have:=ih h
   simp only [RdS.node,List.length_drop] at this
   omega
  ·split at h
   ·rw [Option.bind_eq_some_iff] at h
    obtain ⟨b,hb,h⟩:=h
    have h1:=ih h
    have h2:=bounds_less hb
    simp only [RdS.node,List.length_drop] at h1 h2
    omega
   ·injection h with h;subst h;exact Nat.le_refl _
theorem more_less {x:Nk} {s:RdS} {y:Nk × RdS} (h:moreR x s=some y):y.2.left.length≤s.left.length:=by
 unfold moreR at h
 split at h
 ·injection h with h;subst h;exact Nat.le_refl _
 ·exact times_less h
section
variable {row:RdS→Option (Fr × RdS)} (hr:∀ s y,row s=some y→y.2.left.length≤s.left.length)
include hr
theorem slash_less {s:RdS} {y:Nk × RdS} (h:slashR row s=some y) (h0:s.left≠[]):y.2.left.length < s.left.length:=by
 have hp:=List.length_pos_iff.2 h0
 unfold slashR at h
 split at h
 ·cases h
 ·split at h
  ·unfold groupR at h
   rw [Option.bind_eq_some_iff] at h
   obtain ⟨z,h1,h⟩:=h
   split at h
   ·injection h with h
    subst h
    have k:=hr _ _ h1
    simp only [RdS.node,List.length_drop] at k ⊢
    omega
   ·cases h
  ·split at h
   ·split at h
    ·injection h with h;subst h;simp only [RdS.node,List.length_drop];omega
    ·cases h
   ·split at h
    ·cases h
    ·injection h with h;subst h;simp only [RdS.node,List.length_drop];omega
theorem part_less {first begun:Bool} {s:RdS} {y:Nk × RdS} (h:partR row first begun s=some y):y.2.left.length < s.left.length:=by
 have key:∀ k,1≤k→s.left≠[]→(s.node k).left.length < s.left.length:=fun k hk h0=>by
  have:=List.length_pos_iff.2 h0
  simp only [RdS.node,List.length_drop]
  omega
 unfold partR at h
 split at h
 ·cases h
 ·rename_i c l hl
  have h0:s.left≠[]:=by rw [hl];exact List.cons_ne_nil _ _
  split at h
  ·exact slash_less hr h h0
  ·split at h
   ·rw [Option.map_eq_some_iff] at h
    obtain ⟨p,hp,rfl⟩:=h
    exact key _ (parseV_pos hp).1 h0
   ·split at h
    ·injection h with h;subst h;exact key 1 (Nat.le_refl _) h0
    ·split at h
     ·injection h with h;subst h;exact key 1 (Nat.le_refl _) h0
     ·split at h
      ·injection h with h;subst h;exact key 1 (Nat.le_refl _) h0
      ·split at h
       ·cases h
       ·injection h with h;subst h;exact key 1 (Nat.le_refl _) h0
end
theorem row_less (n:Nat):∀ (first begun:Bool) (s:RdS) (y:Fr × RdS),rowR n first begun s=some y→y.2.left.length≤s.left.length:=by
 induction n with
 | zero=>intro f b s y h;cases h
 | succ n ih =>
  intro f b s y h
  unfold rowR at h
  split at h
  ·injection h with h;subst h;exact Nat.le_refl _
  ·rw [Option.bind_eq_some_iff] at h
   obtain ⟨a,h1,h⟩:=h
   rw [Option.bind_eq_some_iff] at h
   obtain ⟨c,h2,h⟩:=h
   rw [Option.map_eq_some_iff] at h
   obtain ⟨r,h3,rfl⟩:=h
   have k1:=part_less (ih true false) h1
   have k2:=more_less h2
   have k3:=ih _ _ _ _ h3
   simp only [] at k3 ⊢
   omega
end Go.Proofs.YtnjagecmhdagkaaGreatDoor
