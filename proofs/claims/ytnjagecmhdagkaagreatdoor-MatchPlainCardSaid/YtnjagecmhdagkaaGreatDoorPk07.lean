/-
 Several texts of the proof: ClsLoop, BrePlain.
-/
import Derived.Test.YtnjagecmhdagkaaGreatDoorPk06
set_option linter.unusedSimpArgs false
set_option linter.unusedVariables false
set_option maxRecDepth 3000
/-
  Classes: what Parse answers, in plain words.
-/
namespace Go.Proofs.YtnjagecmhdagkaaGreatDoor
open Go.RowKit
def loopV:Nat→Bool→(Nat→Bool)→List UInt8→Option ((Nat→Bool) × List UInt8)
 | 0,_,_,_=>none
 | n+1,first,p,s=>if first=false∧s.head?=some 93 then some (p,s) else (partV s).bind fun x=>loopV n false (fun c=>p c || x.1 c) x.2
theorem loopV_fuel (n:Nat):∀ (m:Nat) (first:Bool) (p:Nat→Bool) (s:List UInt8),s.length < n→s.length < m→loopV n first p s=loopV m first p s:=by
 induction n with
 | zero=>intro m f p s h;omega
 | succ n ih =>
  intro m f p s h1 h2
  cases m with
  | zero=>omega
  | succ m =>
   unfold loopV
   split
   ·rfl
   ·cases hp:partV s with
    | none=>rfl
    | some x =>
     have:=partV_len hp
     exact ih m _ _ _ (by omega) (by omega)
def loopF (first:Bool) (p:Nat→Bool) (s:List UInt8):Option ((Nat→Bool) × List UInt8):=loopV (s.length+1) first p s
theorem loopF_eq (first:Bool) (p:Nat→Bool) (s:List UInt8):loopF first p s=if first=false∧s.head?=some 93 then some (p,s) else (partV s).bind fun x=>loopF false (fun c=>p c || x.1 c) x.2:=by
 conv=>lhs;unfold loopF loopV
 split
 ·rfl
 ·cases hp:partV s with
  | none=>rfl
  | some x =>
   have:=partV_len hp
   exact loopV_fuel _ _ _ _ _ (by omega) (by omega)
theorem loopF_end (p:Nat→Bool) (s:List UInt8) (h:s.head?=some 93):loopF false p s=some (p,s):=by rw [loopF_eq,if_pos ⟨rfl,h⟩]
theorem loopF_next {first:Bool} {p:Nat→Bool} {s:List UInt8} {x:(Int→Bool) × List UInt8} (h:¬(first=false∧s.head?=some 93)) (hp:partV s=some x):loopF first p s=loopF false (fun c=>p c || x.1 c) x.2:=by
 rw [loopF_eq,if_neg h,hp];rfl
theorem loopF_none {first:Bool} {p:Nat→Bool} {s:List UInt8} (h:¬(first=false∧s.head?=some 93)) (hp:partV s=none):loopF first p s=none:=by
 rw [loopF_eq,if_neg h,hp];rfl
def parseV (t:List UInt8):Option ((Nat→Bool) × Nat) :=
 if t.head?=some 91 then
  if (t.drop 1).head?=some 94 then (loopF true (fun _=>false) (t.drop 2)).map fun x=>(fun c=>x.1 c != true,t.length - x.2.length+1)
  else (loopF true (fun _=>false) (t.drop 1)).map fun x=>(fun c=>x.1 c != false,t.length - x.2.length+1)
 else none
def parseA (s:List UInt8) (at_:Int):(Nat→Bool) × Int × Int :=
 if 0≤at_∧at_ < s.length then
  match parseV (s.drop at_.toNat) with
  | some x=>(x.1,at_+x.2,0)
  | none=>(fun _=>false,0,90)
 else (fun _=>false,0,90)
theorem hasPrefix_one (t:List UInt8) (c:UInt8):Lib.hasPrefix t [c]=decide (t.head?=some c):=by
 cases t with
 | nil=>rfl
 | cons a t =>
  show (c == a && true)=_
  rw [Bool.eq_iff_iff]
  simp only [Bool.and_true,beq_iff_eq,List.head?_cons,Option.some.injEq,decide_eq_true_eq]
  exact ⟨fun h=>h.symm,fun h=>h.symm⟩
theorem trimPrefix_one (t:List UInt8) (c:UInt8):Lib.trimPrefix t [c]=if t.head?=some c then t.drop 1 else t:=by
 unfold Lib.trimPrefix
 rw [hasPrefix_one]
 simp
theorem head_bt (s:List UInt8) (k:Nat) (c:UInt8) (n:Nat) (hc:c.toNat=n):(s.drop k).head?=some c ↔ k < s.length∧bt s k=n:=by
 rw [List.head?_drop]
 constructor
 ·intro h
  obtain ⟨h1,h2⟩:=List.getElem?_eq_some_iff.1 h
  exact ⟨h1,by rw [bt_get s k h1,h2,hc]⟩
 ·rintro ⟨h1,h2⟩
  rw [List.getElem?_eq_getElem h1]
  rw [bt_get s k h1] at h2
  exact congrArg some (UInt8.toNat_inj.1 (by rw [h2,hc]))
theorem parseA_none {s:List UInt8} {at_:Int} (h:¬(0≤at_∧at_ < s.length)):parseA s at_=(fun _=>false,0,90):=by unfold parseA;rw [if_neg h]
theorem parseA_in {s:List UInt8} {k:Nat} (h:k < s.length):parseA s k=match parseV (s.drop k) with
  | some x=>(x.1,(k:Int)+x.2,0)
  | none=>(fun _=>false,0,90):=by
 unfold parseA
 rw [if_pos ⟨by omega,by omega⟩]
 simp only [Int.toNat_natCast]
end Go.Proofs.YtnjagecmhdagkaaGreatDoor
namespace Go.Proofs.YtnjagecmhdagkaaGreatDoor
open Go.RowKit
structure NdV where
 kind:Nat
 byte:Nat
 set:Nat→Bool
 n:Nat
 mn:Nat
 mx:Int
inductive Fr where
 | nil:Fr
 | cons (x:NdV) (kids rest:Fr):Fr
def Fr.len:Fr→Nat
 | .nil=>0
 | .cons _ _ r=>r.len+1
def Fr.app:Fr→Fr→Fr
 | .nil,b=>b
 | .cons x k r,b=>.cons x k (r.app b)
theorem Fr.app_nil (a:Fr):a.app .nil=a:=by
 induction a with
 | nil=>rfl
 | cons x k r _ ih=>simp [Fr.app,ih]
theorem Fr.app_assoc (a b c:Fr):(a.app b).app c=a.app (b.app c):=by
 induction a with
 | nil=>rfl
 | cons x k r _ ih=>simp [Fr.app,ih]
theorem Fr.len_app (a b:Fr):(a.app b).len=a.len+b.len:=by
 induction a with
 | nil=>simp [Fr.app,Fr.len]
 | cons x k r _ ih=>simp [Fr.app,Fr.len,ih];omega
def Fr.one (x:NdV) (kids:Fr):Fr:=.cons x kids .nil
def ndK (k:Nat):NdV:=⟨k,0,fun _=>false,0,0,0⟩
def byteN (c:Nat):NdV:={ ndK 1 with byte:=c }
def setN (p:Nat→Bool):NdV:={ ndK 3 with set:=p }
def refN (n:Nat):NdV:={ ndK 6 with n:=n }
def groupN (n:Nat):NdV:={ ndK 7 with n:=n }
def timesN (m:Nat) (n:Int):NdV:={ ndK 8 with mn:=m,mx:=n }
structure PS where
 left:List UInt8
 parts:Nat
 groups:Nat
 refs:Bool
 op:List Nat
def ahead (t l:List UInt8):Bool:=Lib.hasPrefix l t
def node1 (s:PS):Option PS:=if s.parts+1≤200 then some { s with parts:=s.parts+1 } else none
abbrev Nk:=NdV × Fr
def selfV (c:Nat) (s:PS):Option (Nk × PS):=(node1 s).map fun s=>((byteN c,.nil),s)
def isDig (c:UInt8):Bool:=decide (48≤c.toNat∧c.toNat≤57)
def numV (l:List UInt8):Nat:=l.foldl (fun n c=>min (10*n+(c.toNat - 48)) 256) 0
def numberV (l:List UInt8):Nat × Bool × List UInt8:=(numV (l.takeWhile isDig),!(l.takeWhile isDig).isEmpty,l.dropWhile isDig)
def mostV (m:Nat) (l:List UInt8):Int × List UInt8 :=
 if ahead [44] l then (if (numberV (l.drop 1)).2.1 then ((numberV (l.drop 1)).1:Int) else -1,(numberV (l.drop 1)).2.2) else (m,l)
def boundsV (l:List UInt8):Option (Nat × Int × List UInt8) :=
 let a:=numberV l
 let b:=mostV a.1 a.2.2
 if a.2.1=true∧ahead [92,125] b.2=true∧a.1≤255∧b.1≤255∧(b.1 < 0∨(a.1:Int)≤b.1) then some (a.1,b.1,b.2.drop 2) else none
def timesV:Nat→Nk→PS→Option (Nk × PS)
 | 0,_,_=>none
 | n+1,x,s =>
  if ahead [42] s.left then (node1 { s with left:=s.left.drop 1 }).bind fun s=>timesV n (timesN 0 (-1),Fr.one x.1 x.2) s
  else if ahead [92,123] s.left then (boundsV (s.left.drop 2)).bind fun b=>(node1 { s with left:=b.2.2 }).bind fun s=>timesV n (timesN b.1 b.2.1,Fr.one x.1 x.2) s
  else some (x,s)
def timesF (x:Nk) (s:PS):Option (Nk × PS):=timesV (s.left.length+1) x s
section
variable (row:PS→Option (Fr × PS))
def groupV (s:PS):Option (Nk × PS) :=
 if s.groups+1≤9 then (node1 { s with groups:=s.groups+1 }).bind fun s1=>(row { s1 with op:=s1.op++[s1.groups] }).bind fun y =>
  if ahead [92,41] y.2.left then some ((groupN (s.groups+1),y.1),{ y.2 with left:=y.2.left.drop 2,op:=y.2.op.dropLast }) else none
 else none
def slashV (s:PS):Option (Nk × PS) :=
 match s.left with
 | []=>none
 | c::l =>
  if c.toNat=40 then groupV row { s with left:=l }
  else if 49≤c.toNat∧c.toNat≤57 then
   if c.toNat - 48≤s.groups∧c.toNat - 48 ∉ s.op then (node1 { s with left:=l,refs:=true }).map fun s=>((refN (c.toNat - 48),.nil),s) else none
  else if c.toNat=123∨c.toNat=125∨c.toNat=41 then none
  else selfV c.toNat { s with left:=l }
def partW (first begun:Bool) (s:PS):Option (Nk × PS) :=
 match s.left with
 | []=>none
 | c::l =>
  if c.toNat=92 then slashV row { s with left:=l }
  else if c.toNat=91 then (parseV (c::l)).bind fun y=>(node1 { s with left:=(c::l).drop y.2 }).map fun s=>((setN y.1,.nil),s)
  else if c.toNat=46 then (node1 { s with left:=l }).map fun s=>((ndK 2,.nil),s)
  else if c.toNat=94∧first=true then (node1 { s with left:=l }).map fun s=>((ndK 4,.nil),s)
  else if c.toNat=36∧(l=[]∨ahead [92,41] l=true) then (node1 { s with left:=l }).map fun s=>((ndK 5,.nil),s)
  else if c.toNat=42∧first=false∧begun=false then none
  else selfV c.toNat { s with left:=l }
end
def stopV (l:List UInt8):Bool:=l.isEmpty || ahead [92,41] l
def more1 (x:Nk) (s:PS):Option (Nk × PS):=if x.1.kind=4∨x.1.kind=5 then some (x,s) else timesF x s
def rowV:Nat→Bool→Bool→PS→Option (Fr × PS)
 | 0,_,_,_=>none
 | n+1,first,begun,s =>
  if stopV s.left then some (.nil,s)
  else (partW (rowV n true false) first begun s).bind fun y=>(more1 y.1 y.2).bind fun z=>(rowV n false (y.1.1.kind == 4) z.2).map fun r=>(.cons z.1.1 z.1.2 r.1,r.2)
def rowF (first begun:Bool) (s:PS):Option (Fr × PS):=rowV (s.left.length+1) first begun s
def ps0 (l:List UInt8):PS:=⟨l,0,0,false,[]⟩
def patV (l:List UInt8):Option (Fr × PS):=(rowF true false (ps0 l)).bind fun y=>if y.2.left.isEmpty then some y else none
theorem node1_eq {s t:PS} (h:node1 s=some t):s.parts+1≤200∧t={ s with parts:=s.parts+1 }:=by
 unfold node1 at h
 split at h
 ·rename_i h1;injection h with h;exact ⟨h1,h.symm⟩
 ·cases h
theorem node1_left {s t:PS} (h:node1 s=some t):t.left=s.left∧t.op=s.op∧t.groups=s.groups∧t.refs=s.refs:=by
 obtain ⟨_,rfl⟩:=node1_eq h
 exact ⟨rfl,rfl,rfl,rfl⟩
theorem dropWhile_le (l:List UInt8):(l.dropWhile isDig).length≤l.length:=by
 exact (List.dropWhile_sublist isDig).length_le
theorem ahead_len {t l:List UInt8} (h:ahead t l=true):t.length≤l.length:=by
 unfold ahead at h
 rw [Lib.hasPrefix,List.isPrefixOf_iff_prefix] at h
 exact h.length_le
theorem mostV_len (m:Nat) (l:List UInt8):(mostV m l).2.length≤l.length:=by
 unfold mostV
 split
 ·have:=dropWhile_le (l.drop 1)
  simp [numberV] at this ⊢;omega
 ·exact Nat.le_refl _
theorem boundsV_len {l:List UInt8} {x:Nat × Int × List UInt8} (h:boundsV l=some x):x.2.2.length≤l.length:=by
 unfold boundsV at h
 simp only [] at h
 split at h
 ·injection h with h
  subst h
  have h1:=mostV_len (numberV l).1 (numberV l).2.2
  have h2:=dropWhile_le l
  simp only [numberV] at h1 h2 ⊢
  simp only [List.length_drop];omega
 ·cases h
structure Kept (s t:PS):Prop where
 le:t.left.length≤s.left.length
 op:t.op=s.op
 parts:s.parts≤t.parts
 groups:s.groups≤t.groups
theorem Kept.refl (s:PS):Kept s s:=⟨Nat.le_refl _,rfl,Nat.le_refl _,Nat.le_refl _⟩
theorem Kept.trans {a b c:PS} (h:Kept a b) (k:Kept b c):Kept a c:=⟨Nat.le_trans k.le h.le,k.op.trans h.op,Nat.le_trans h.parts k.parts,Nat.le_trans h.groups k.groups⟩
theorem node1_kept {s t:PS} (h:node1 s=some t):Kept s t:=by
 obtain ⟨_,rfl⟩:=node1_eq h
 exact ⟨Nat.le_refl _,rfl,Nat.le_succ _,Nat.le_refl _⟩
theorem timesV_kept {n:Nat}:∀ {x:Nk} {s:PS} {y:Nk × PS},timesV n x s=some y→Kept s y.2:=by
 induction n with
 | zero=>intro x s y h;cases h
 | succ n ih =>
  intro x s y h
  unfold timesV at h
  split at h
  ·rw [Option.bind_eq_some_iff] at h
   obtain ⟨t,h1,h2⟩:=h
   have k1:=node1_kept h1
   have k2:=ih h2
   have k0:Kept s { s with left:=s.left.drop 1 }:=⟨by simp,rfl,Nat.le_refl _,Nat.le_refl _⟩
   exact (k0.trans k1).trans k2
  ·split at h
   ·rw [Option.bind_eq_some_iff] at h
    obtain ⟨b,hb,h⟩:=h
    rw [Option.bind_eq_some_iff] at h
    obtain ⟨t,h1,h2⟩:=h
    have k1:=node1_kept h1
    have k2:=ih h2
    have hl:=boundsV_len hb
    have k0:Kept s { s with left:=b.2.2 }:=⟨by simp at hl ⊢;omega,rfl,Nat.le_refl _,Nat.le_refl _⟩
    exact (k0.trans k1).trans k2
   ·injection h with h;subst h;exact Kept.refl _
theorem timesV_fuel (n:Nat):∀ (m:Nat) (x:Nk) (s:PS),s.left.length < n→s.left.length < m→timesV n x s=timesV m x s:=by
 induction n with
 | zero=>intro m x s h;omega
 | succ n ih =>
  intro m x s h1 h2
  cases m with
  | zero=>omega
  | succ m =>
   unfold timesV
   split
   ·rename_i ha
    have hl:=ahead_len ha
    cases hn:node1 { s with left:=s.left.drop 1 } with
    | none=>rfl
    | some t =>
     have:=(node1_left hn).1
     simp at hl
     exact ih m _ _ (by rw [this];simp;omega) (by rw [this];simp;omega)
   ·split
    ·rename_i ha
     have hl:=ahead_len ha
     cases hb:boundsV (s.left.drop 2) with
     | none=>rfl
     | some b =>
      have h3:=boundsV_len hb
      simp only [Option.bind_some]
      cases hn:node1 { s with left:=b.2.2 } with
      | none=>rfl
      | some t =>
       have:=(node1_left hn).1
       simp at hl h3 this
       exact ih m _ _ (by rw [this];omega) (by rw [this];omega)
    ·rfl
theorem timesF_eq (x:Nk) (s:PS):timesF x s=if ahead [42] s.left then (node1 { s with left:=s.left.drop 1 }).bind fun s=>timesF (timesN 0 (-1),Fr.one x.1 x.2) s
  else if ahead [92,123] s.left then (boundsV (s.left.drop 2)).bind fun b=>(node1 { s with left:=b.2.2 }).bind fun s=>timesF (timesN b.1 b.2.1,Fr.one x.1 x.2) s
  else some (x,s):=by
 conv=>lhs;unfold timesF timesV
 split
 ·rename_i ha
  have hl:=ahead_len ha
  cases hn:node1 { s with left:=s.left.drop 1 } with
  | none=>rfl
  | some t =>
   have:=(node1_left hn).1
   simp at hl
   exact timesV_fuel _ _ _ _ (by rw [this];simp;omega) (by omega)
 ·split
  ·rename_i ha
   have hl:=ahead_len ha
   cases hb:boundsV (s.left.drop 2) with
   | none=>rfl
   | some b =>
    have h3:=boundsV_len hb
    simp only [Option.bind_some]
    cases hn:node1 { s with left:=b.2.2 } with
    | none=>rfl
    | some t =>
     have:=(node1_left hn).1
     simp at hl h3 this
     exact timesV_fuel _ _ _ _ (by rw [this];omega) (by omega)
  ·rfl
theorem more1_kept {x:Nk} {s:PS} {y:Nk × PS} (h:more1 x s=some y):Kept s y.2:=by
 unfold more1 at h
 split at h
 ·injection h with h;subst h;exact Kept.refl _
 ·exact timesV_kept h
def RowOk (row:PS→Option (Fr × PS)):Prop:=∀ s y,row s=some y→Kept s y.2
section
variable {row row2:PS→Option (Fr × PS)}
theorem groupV_kept (hr:RowOk row) {s:PS} {y:Nk × PS} (h:groupV row s=some y):Kept s y.2:=by
 unfold groupV at h
 split at h
 ·rw [Option.bind_eq_some_iff] at h
  obtain ⟨t,h1,h⟩:=h
  rw [Option.bind_eq_some_iff] at h
  obtain ⟨z,h2,h⟩:=h
  split at h
  ·injection h with h
   subst h
   obtain ⟨_,rfl⟩:=node1_eq h1
   have k:=hr _ _ h2
   refine ⟨?_,?_,?_,?_⟩
   ·have:=k.le;simp at this ⊢;omega
   ·have:=k.op;simp at this ⊢;rw [this];simp
   ·have:=k.parts;simp at this ⊢;omega
   ·have:=k.groups;simp at this ⊢;omega
  ·cases h
 ·cases h
theorem slashV_kept (hr:RowOk row) {s:PS} {y:Nk × PS} (h:slashV row s=some y):Kept s y.2∧y.2.left.length < s.left.length:=by
 obtain ⟨left,parts,groups,refs,op⟩:=s
 cases left with
 | nil=>cases h
 | cons c l =>
  unfold slashV at h
  simp only [] at h
  have k0:∀ r,Kept (⟨c::l,parts,groups,refs,op⟩:PS) ⟨l,parts,groups,r,op⟩:=fun r=>⟨by simp,rfl,Nat.le_refl _,Nat.le_refl _⟩
  have lt:∀ {r} {t:PS},Kept (⟨l,parts,groups,r,op⟩:PS) t→Kept (⟨c::l,parts,groups,refs,op⟩:PS) t∧t.left.length < (c::l).length:=fun {r t} k=>⟨(k0 r).trans k,by have:=k.le;simp at this ⊢;omega⟩
  split at h
  ·exact lt (groupV_kept hr h)
  ·split at h
   ·split at h
    ·rw [Option.map_eq_some_iff] at h
     obtain ⟨t,h1,rfl⟩:=h
     exact lt (node1_kept h1)
    ·cases h
   ·split at h
    ·cases h
    ·unfold selfV at h
     rw [Option.map_eq_some_iff] at h
     obtain ⟨t,h1,rfl⟩:=h
     exact lt (node1_kept h1)
theorem parseV_pos {t:List UInt8} {x:(Nat→Bool) × Nat} (h:parseV t=some x):0 < x.2∧t≠[]:=by
 unfold parseV at h
 split at h
 ·rename_i h0
  have hne:t≠[]:=fun e=>by subst e;cases h0
  split at h
  ·rw [Option.map_eq_some_iff] at h
   obtain ⟨y,_,rfl⟩:=h
   exact ⟨Nat.succ_pos _,hne⟩
  ·rw [Option.map_eq_some_iff] at h
   obtain ⟨y,_,rfl⟩:=h
   exact ⟨Nat.succ_pos _,hne⟩
 ·cases h
theorem partW_kept (hr:RowOk row) {first begun:Bool} {s:PS} {y:Nk × PS} (h:partW row first begun s=some y):Kept s y.2∧y.2.left.length < s.left.length:=by
 obtain ⟨left,parts,groups,refs,op⟩:=s
 cases left with
 | nil=>cases h
 | cons c l =>
  unfold partW at h
  simp only [] at h
  have k0:Kept (⟨c::l,parts,groups,refs,op⟩:PS) ⟨l,parts,groups,refs,op⟩:=⟨by simp,rfl,Nat.le_refl _,Nat.le_refl _⟩
  have lt:∀ {t:PS},Kept (⟨l,parts,groups,refs,op⟩:PS) t→Kept (⟨c::l,parts,groups,refs,op⟩:PS) t∧t.left.length < (c::l).length:=fun {t} k=>⟨k0.trans k,by have:=k.le;simp at this ⊢;omega⟩
  split at h
  ·have:=slashV_kept hr h
   exact ⟨k0.trans this.1,by have:=this.2;simp at this ⊢;omega⟩
  ·split at h
   ·rw [Option.bind_eq_some_iff] at h
    obtain ⟨p,hp,h⟩:=h
    rw [Option.map_eq_some_iff] at h
    obtain ⟨t,h1,rfl⟩:=h
    obtain ⟨_,rfl⟩:=node1_eq h1
    have:=(parseV_pos hp).1
    exact ⟨⟨by simp,rfl,Nat.le_succ _,Nat.le_refl _⟩,by simp;omega⟩
   ·split at h
    ·rw [Option.map_eq_some_iff] at h
     obtain ⟨t,h1,rfl⟩:=h
     exact lt (node1_kept h1)
    ·split at h
     ·rw [Option.map_eq_some_iff] at h
      obtain ⟨t,h1,rfl⟩:=h
      exact lt (node1_kept h1)
     ·split at h
      ·rw [Option.map_eq_some_iff] at h
       obtain ⟨t,h1,rfl⟩:=h
       exact lt (node1_kept h1)
      ·split at h
       ·cases h
       ·unfold selfV at h
        rw [Option.map_eq_some_iff] at h
        obtain ⟨t,h1,rfl⟩:=h
        exact lt (node1_kept h1)
theorem groupV_congr {s:PS} (h:∀ t:PS,t.left.length≤s.left.length→row t=row2 t):groupV row s=groupV row2 s:=by
 unfold groupV
 split
 ·cases hn:node1 { s with groups:=s.groups+1 } with
  | none=>rfl
  | some t =>
   have:=(node1_left hn).1
   simp only [Option.bind_some]
   rw [h _ (by simp only [];rw [this];exact Nat.le_refl _)]
 ·rfl
theorem slashV_congr {s:PS} (h:∀ t:PS,t.left.length < s.left.length→row t=row2 t):slashV row s=slashV row2 s:=by
 obtain ⟨left,parts,groups,refs,op⟩:=s
 cases left with
 | nil=>rfl
 | cons c l =>
  unfold slashV
  simp only []
  split
  ·exact groupV_congr fun t ht=>h t (by simp at ht ⊢;omega)
  ·rfl
theorem partW_congr {first begun:Bool} {s:PS} (h:∀ t:PS,t.left.length < s.left.length→row t=row2 t):partW row first begun s=partW row2 first begun s:=by
 obtain ⟨left,parts,groups,refs,op⟩:=s
 cases left with
 | nil=>rfl
 | cons c l =>
  unfold partW
  simp only []
  split
  ·exact slashV_congr fun t ht=>h t (by simp at ht ⊢;omega)
  ·rfl
end
theorem rowV_kept (n:Nat):∀ {first begun:Bool} {s:PS} {y:Fr × PS},rowV n first begun s=some y→Kept s y.2:=by
 induction n with
 | zero=>intro f b s y h;cases h
 | succ n ih =>
  intro f b s y h
  unfold rowV at h
  split at h
  ·injection h with h;subst h;exact Kept.refl _
  ·rw [Option.bind_eq_some_iff] at h
   obtain ⟨a,h1,h⟩:=h
   rw [Option.bind_eq_some_iff] at h
   obtain ⟨c,h2,h⟩:=h
   rw [Option.map_eq_some_iff] at h
   obtain ⟨r,h3,rfl⟩:=h
   exact ((partW_kept (fun s y h=>ih h) h1).1.trans (more1_kept h2)).trans (show Kept c.2 r.2 from ih h3)
theorem rowV_fuel (n:Nat):∀ (m:Nat) (first begun:Bool) (s:PS),s.left.length < n→s.left.length < m→rowV n first begun s=rowV m first begun s:=by
 induction n with
 | zero=>intro m f b s h;omega
 | succ n ih =>
  intro m f b s h1 h2
  cases m with
  | zero=>omega
  | succ m =>
   unfold rowV
   split
   ·rfl
   ·rw [partW_congr (row2:=rowV m true false) fun t ht=>ih m true false t (by omega) (by omega)]
    cases hp:partW (rowV m true false) f b s with
    | none=>rfl
    | some a =>
     have k1:=partW_kept (fun s y h=>rowV_kept m h) hp
     simp only [Option.bind_some]
     cases hm:more1 a.1 a.2 with
     | none=>rfl
     | some c =>
      have k2:=more1_kept hm
      have:=k1.2;have:=k2.le
      simp only [Option.bind_some]
      rw [ih m _ _ _ (by omega) (by omega)]
def partF (first begun:Bool) (s:PS):Option (Nk × PS):=partW (rowF true false) first begun s
theorem rowF_eq (first begun:Bool) (s:PS):rowF first begun s=if stopV s.left then some (.nil,s) else (partF first begun s).bind fun y=>(more1 y.1 y.2).bind fun z=>(rowF false (y.1.1.kind == 4) z.2).map fun r=>(.cons z.1.1 z.1.2 r.1,r.2):=by
 conv=>lhs;unfold rowF rowV
 split
 ·rfl
 ·unfold partF
  rw [partW_congr (row2:=rowF true false) fun t ht=>rowV_fuel _ _ true false t ht (by omega)]
  cases hp:partW (rowF true false) first begun s with
  | none=>rfl
  | some a =>
   have k1:=partW_kept (row:=rowF true false) (fun s y h=>rowV_kept _ h) hp
   simp only [Option.bind_some]
   cases hm:more1 a.1 a.2 with
   | none=>rfl
   | some c =>
    have k2:=more1_kept hm
    have:=k1.2;have:=k2.le
    simp only [Option.bind_some]
    rw [show rowF false (a.1.1.kind == 4) c.2=rowV s.left.length false (a.1.1.kind == 4) c.2 from rowV_fuel _ _ _ _ _ (by omega) (by omega)]
theorem rowF_kept {first begun:Bool} {s:PS} {y:Fr × PS} (h:rowF first begun s=some y):Kept s y.2:=rowV_kept _ h
theorem partF_kept {first begun:Bool} {s:PS} {y:Nk × PS} (h:partF first begun s=some y):Kept s y.2∧y.2.left.length < s.left.length:=partW_kept (fun _ _ h=>rowF_kept h) h
end Go.Proofs.YtnjagecmhdagkaaGreatDoor
