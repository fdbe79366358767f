/-
 Several texts of the proof: BreRefP, BreRefQ.
-/
import Derived.Test.YtnjagecmhdagkaaGreatDoorPk15
set_option linter.unusedSimpArgs false
set_option linter.unusedVariables false
set_option maxRecDepth 3000
/-
  Patterns: the document's reader in plain words, and that it reads as the parser does.
-/
namespace Go.Proofs.YtnjagecmhdagkaaGreatDoor
open Go.RowKit
structure RdS where
 left:List UInt8
 many:Nat
 groups:Nat
 refs:Bool
 ended:Nat→Bool
def RdS.node (s:RdS) (k:Nat):RdS:={ s with left:=s.left.drop k,many:=s.many+1 }
def numR (l:List UInt8):Nat:=l.foldl (fun n c=>min (10*n+(c.toNat - 48)) 1000) 0
def digitsR (l:List UInt8):Nat × Bool × List UInt8:=(numR (l.takeWhile isDig),!(l.takeWhile isDig).isEmpty,l.dropWhile isDig)
def mostR (m:Nat) (l:List UInt8):Int × List UInt8 :=
 if ahead [44] l then (if (digitsR (l.drop 1)).2.1 then ((digitsR (l.drop 1)).1:Int) else -1,(digitsR (l.drop 1)).2.2) else (m,l)
def boundsR (l:List UInt8):Option (Nat × Int × List UInt8) :=
 let a:=digitsR l
 let b:=mostR a.1 a.2.2
 if a.2.1=true∧ahead [92,125] b.2=true∧a.1≤255∧b.1≤255∧(b.1 < 0∨(a.1:Int)≤b.1) then some (a.1,b.1,b.2) else none
def timesR:Nat→Nk→RdS→Option (Nk × RdS)
 | 0,_,_=>none
 | n+1,x,s =>
  if ahead [42] s.left then timesR n (timesN 0 (-1),Fr.one x.1 x.2) (s.node 1)
  else if ahead [92,123] s.left then (boundsR (s.left.drop 2)).bind fun b=>timesR n (timesN b.1 b.2.1,Fr.one x.1 x.2) (RdS.node { s with left:=b.2.2 } 2)
  else some (x,s)
section
variable (row:RdS→Option (Fr × RdS))
def groupR (s:RdS):Option (Nk × RdS) :=
 (row { s.node 2 with groups:=s.groups+1 }).bind fun y =>
  if ahead [92,41] y.2.left=true∧s.groups+1≤9 then some ((groupN (s.groups+1),y.1),{ y.2 with left:=y.2.left.drop 2,ended:=orAt y.2.ended (s.groups+1) }) else none
def slashR (s:RdS):Option (Nk × RdS) :=
 match s.left.drop 1 with
 | []=>none
 | c::_ =>
  if c.toNat=40 then groupR row s
  else if 49≤c.toNat∧c.toNat≤57 then
   if s.ended (c.toNat - 48)=true then some ((refN (c.toNat - 48),.nil),{ s.node 2 with refs:=true }) else none
  else if c.toNat=123∨c.toNat=125∨c.toNat=41 then none
  else some ((byteN c.toNat,.nil),s.node 2)
def partR (first begun:Bool) (s:RdS):Option (Nk × RdS) :=
 match s.left with
 | []=>none
 | c::l =>
  if c.toNat=92 then slashR row s
  else if c.toNat=91 then (parseV (c::l)).map fun y=>((setN y.1,.nil),s.node y.2)
  else if c.toNat=46 then some ((ndK 2,.nil),s.node 1)
  else if c.toNat=94∧first=true then some ((ndK 4,.nil),s.node 1)
  else if c.toNat=36∧(l=[]∨ahead [92,41] l=true) then some ((ndK 5,.nil),s.node 1)
  else if c.toNat=42∧first=false∧begun=false then none
  else some ((byteN c.toNat,.nil),s.node 1)
end
def moreR (x:Nk) (s:RdS):Option (Nk × RdS):=if x.1.kind=4∨x.1.kind=5 then some (x,s) else timesR (s.left.length+1) x s
def rowR:Nat→Bool→Bool→RdS→Option (Fr × RdS)
 | 0,_,_,_=>none
 | n+1,first,begun,s =>
  if stopV s.left=true∨900≤s.groups then some (.nil,s)
  else (partR (rowR n true false) first begun s).bind fun y=>(moreR y.1 y.2).bind fun z=>(rowR n false (y.1.1.kind == 4) z.2).map fun r=>(.cons z.1.1 z.1.2 r.1,r.2)
def rd0 (l:List UInt8):RdS:=⟨l,0,0,false,fun _=>false⟩
def docV (l:List UInt8):Option (Fr × RdS):=(rowR (l.length+1) true false (rd0 l)).bind fun y=>if y.2.left=[]∧y.2.groups≤9∧y.2.many≤200 then some y else none
structure Upon (s t:RdS):Prop where
 many:s.many≤t.many
 groups:s.groups≤t.groups
theorem Upon.refl (s:RdS):Upon s s:=⟨Nat.le_refl _,Nat.le_refl _⟩
theorem Upon.trans {a b c:RdS} (h:Upon a b) (k:Upon b c):Upon a c:=⟨Nat.le_trans h.many k.many,Nat.le_trans h.groups k.groups⟩
theorem RdS.upon (s:RdS) (k:Nat):Upon s (s.node k):=⟨Nat.le_succ _,Nat.le_refl _⟩
theorem times_upon {n:Nat}:∀ {x:Nk} {s:RdS} {y:Nk × RdS},timesR n x s=some y→Upon s y.2:=by
 induction n with
 | zero=>intro x s y h;cases h
 | succ n ih =>
  intro x s y h
  unfold timesR at h
  split at h
  ·exact (s.upon 1).trans (ih h)
  ·split at h
   ·rw [Option.bind_eq_some_iff] at h
    obtain ⟨b,hb,h⟩:=h
    exact Upon.trans (b:=RdS.node { s with left:=b.2.2 } 2) ⟨Nat.le_succ _,Nat.le_refl _⟩ (ih h)
   ·injection h with h;subst h;exact Upon.refl _
theorem more_upon {x:Nk} {s:RdS} {y:Nk × RdS} (h:moreR x s=some y):Upon s y.2:=by
 unfold moreR at h
 split at h
 ·injection h with h;subst h;exact Upon.refl _
 ·exact times_upon h
section
variable {row:RdS→Option (Fr × RdS)} (hr:∀ s y,row s=some y→Upon s y.2)
include hr
theorem group_upon {s:RdS} {y:Nk × RdS} (h:groupR row s=some y):Upon s y.2:=by
 unfold groupR at h
 rw [Option.bind_eq_some_iff] at h
 obtain ⟨z,h1,h⟩:=h
 split at h
 ·injection h with h
  subst h
  have k:=hr _ _ h1
  exact ⟨Nat.le_trans (Nat.le_succ _) k.many,Nat.le_trans (Nat.le_succ _) k.groups⟩
 ·cases h
theorem slash_upon {s:RdS} {y:Nk × RdS} (h:slashR row s=some y):Upon s y.2:=by
 unfold slashR at h
 split at h
 ·cases h
 ·split at h
  ·exact group_upon hr h
  ·split at h
   ·split at h
    ·injection h with h;subst h;exact ⟨Nat.le_succ _,Nat.le_refl _⟩
    ·cases h
   ·split at h
    ·cases h
    ·injection h with h;subst h;exact s.upon 2
theorem part_upon {first begun:Bool} {s:RdS} {y:Nk × RdS} (h:partR row first begun s=some y):Upon s y.2:=by
 unfold partR at h
 split at h
 ·cases h
 ·split at h
  ·exact slash_upon hr h
  ·split at h
   ·rw [Option.map_eq_some_iff] at h
    obtain ⟨p,_,rfl⟩:=h
    exact s.upon _
   ·split at h
    ·injection h with h;subst h;exact s.upon _
    ·split at h
     ·injection h with h;subst h;exact s.upon _
     ·split at h
      ·injection h with h;subst h;exact s.upon _
      ·split at h
       ·cases h
       ·injection h with h;subst h;exact s.upon _
end
theorem row_upon (n:Nat):∀ (first begun:Bool) (s:RdS) (y:Fr × RdS),rowR n first begun s=some y→Upon s y.2:=by
 induction n with
 | zero=>intro f b s y h;cases h
 | succ n ih =>
  intro f b s y h
  unfold rowR at h
  split at h
  ·injection h with h;subst h;exact Upon.refl _
  ·rw [Option.bind_eq_some_iff] at h
   obtain ⟨a,h1,h⟩:=h
   rw [Option.bind_eq_some_iff] at h
   obtain ⟨c,h2,h⟩:=h
   rw [Option.map_eq_some_iff] at h
   obtain ⟨r,h3,rfl⟩:=h
   exact ((part_upon (fun s y h=>ih true false s y h) h1).trans (more_upon h2)).trans (show Upon c.2 r.2 from ih _ _ _ _ h3)
def Over (r:RdS):Prop:=200 < r.many∨9 < r.groups
theorem Over.upon {r t:RdS} (h:Over r) (k:Upon r t):Over t:=by
 have:=k.many;have:=k.groups
 unfold Over at *
 omega
structure Agree (s:PS) (r:RdS):Prop where
 left:r.left=s.left
 many:r.many=s.parts
 groups:r.groups=s.groups
 refs:r.refs=s.refs
 ended:∀ n,1≤n→n≤9→(r.ended n=true ↔ n≤s.groups∧n ∉ s.op)
 op:∀ n ∈ s.op,n≤s.groups
 nine:s.groups≤9
def Same2 {α:Type} (o:Option (α × PS)) (q:Option (α × RdS)):Prop :=
 match o with
 | some y=>∃ r,q=some (y.1,r)∧Agree y.2 r
 | none=>∀ z,q=some z→Over z.2
theorem Same2.bind {α β:Type} {o:Option (α × PS)} {q:Option (α × RdS)} {f:α × PS→Option (β × PS)} {k:α × RdS→Option (β × RdS)} (h:Same2 o q) (hf:∀ a s r,Agree s r→o=some (a,s)→Same2 (f (a,s)) (k (a,r))) (hk:∀ z y,k z=some y→Upon z.2 y.2) :
  Same2 (o.bind f) (q.bind k):=by
 cases o with
 | none =>
  intro z hz
  rw [Option.bind_eq_some_iff] at hz
  obtain ⟨y,h1,h2⟩:=hz
  exact (h y h1).upon (hk _ _ h2)
 | some y =>
  obtain ⟨r,rfl,hr⟩:=h
  exact hf y.1 y.2 r hr rfl
theorem Same2.none {α:Type} (z:Option (α × RdS)) (h:z=none):Same2 (α:=α) none z:=fun y e=>by rw [h] at e;cases e
theorem over_noneR {α:Type} {q:Option (α × RdS)} {r:RdS} (h:Over r) (hq:∀ z,q=some z→Upon r z.2):Same2 (α:=α) none q:=fun z e=>h.upon (hq z e)
theorem node_same {α:Type} {s:PS} {r:RdS} {x:α} (h:Agree s r) (l:List UInt8) (k:Nat) (hl:r.left.drop k=l):Same2 ((node1 { s with left:=l }).map fun t=>(x,t)) (some (x,r.node k)):=by
 unfold node1
 by_cases hp:s.parts+1≤200
 ·rw [if_pos hp]
  exact ⟨_,rfl,hl,by simp only [RdS.node];rw [h.many],h.groups,h.refs,h.ended,h.op,h.nine⟩
 ·rw [if_neg hp]
  intro z hz
  injection hz with hz
  subst hz
  have:=h.many
  left
  simp only [RdS.node]
  omega
theorem numR_le (l:List UInt8):∀ a:Nat,min (l.foldl (fun n c=>min (10*n+(c.toNat - 48)) 1000) a) 256=l.foldl (fun n c=>min (10*n+(c.toNat - 48)) 256) (min a 256):=by
 induction l with
 | nil=>intro a;rfl
 | cons c l ih =>
  intro a
  simp only [List.foldl_cons]
  rw [ih]
  congr 1
  omega
theorem num_both (l:List UInt8):min (numR l) 256=numV l:=numR_le l 0
theorem most_both (m m':Nat) (l:List UInt8) (h:min m 256=m'):(mostR m l).2=(mostV m' l).2∧((mostR m l).1 < 0∧(mostV m' l).1=(mostR m l).1∨0≤(mostR m l).1∧(mostV m' l).1=min (mostR m l).1 256):=by
 unfold mostR mostV digitsR numberV
 split
 ·have:=num_both ((l.drop 1).takeWhile isDig)
  refine ⟨rfl,?_⟩
  simp only []
  split
  ·right;omega
  ·left;omega
 ·refine ⟨rfl,?_⟩
  right
  simp only []
  omega
theorem bounds_both2 (l:List UInt8):(boundsR l).map (fun b=>(b.1,b.2.1,b.2.2.drop 2))=boundsV l:=by
 have hn:=num_both (l.takeWhile isDig)
 obtain ⟨e1,e2⟩:=most_both (digitsR l).1 (numberV l).1 (digitsR l).2.2 hn
 unfold boundsR boundsV
 simp only []
 have d1:(digitsR l).2.1=(numberV l).2.1:=rfl
 have d2:(digitsR l).2.2=(numberV l).2.2:=rfl
 have d3:min (digitsR l).1 256=(numberV l).1:=hn
 rw [← d1,← d2,← e1]
 generalize (digitsR l).1=a at *
 generalize (numberV l).1=a' at *
 generalize (mostR a (digitsR l).2.2).1=b at *
 generalize (mostV a' (digitsR l).2.2).1=b' at *
 by_cases hc:(digitsR l).2.1=true∧ahead [92,125] (mostR a (digitsR l).2.2).2=true∧a≤255∧b≤255∧(b < 0∨(a:Int)≤b)
 ·obtain ⟨h1,h2,h3,h4,h5⟩:=hc
  have ea:a'=a:=by omega
  have eb:b'=b:=by omega
  rw [ea,eb,if_pos ⟨h1,h2,h3,h4,h5⟩]
  rw [if_pos ⟨h1,h2,h3,h4,h5⟩]
  rfl
 ·rw [if_neg hc,if_neg]
  ·rfl
  ·rintro ⟨h1,h2,h3,h4,h5⟩
   exact hc ⟨h1,h2,by omega,by omega,by omega⟩
theorem bounds_some {l:List UInt8} {b:Nat × Int × List UInt8} (h:boundsR l=some b):boundsV l=some (b.1,b.2.1,b.2.2.drop 2):=by rw [← bounds_both2,h];rfl
theorem bounds_none {l:List UInt8} (h:boundsR l=none):boundsV l=none:=by rw [← bounds_both2,h];rfl
end Go.Proofs.YtnjagecmhdagkaaGreatDoor
namespace Go.Proofs.YtnjagecmhdagkaaGreatDoor
open Go.RowKit
theorem node_bind {β:Type} {s:PS} {r:RdS} (h:Agree s r) (l:List UInt8) (k:Nat) (hl:r.left.drop k=l) {f:PS→Option (β × PS)} {q:RdS→Option (β × RdS)}
  (hf:∀ t,Agree t (r.node k)→t.left=l→Same2 (f t) (q (r.node k))) (hq:∀ z,q (r.node k)=some z→Upon (r.node k) z.2):Same2 ((node1 { s with left:=l }).bind f) (q (r.node k)):=by
 unfold node1
 by_cases hp:s.parts+1≤200
 ·rw [if_pos hp]
  exact hf _ ⟨hl,by simp only [RdS.node];rw [h.many],h.groups,h.refs,h.ended,h.op,h.nine⟩ rfl
 ·rw [if_neg hp]
  have:=h.many
  exact over_noneR (r:=r.node k) (.inl (by simp only [RdS.node];omega)) hq
theorem times_same:∀ (n m:Nat) (x:Nk) (s:PS) (r:RdS),Agree s r→s.left.length < n→s.left.length < m→Same2 (timesV n x s) (timesR m x r):=by
 intro n
 induction n with
 | zero=>intro m x s r _ h;omega
 | succ n ih =>
  intro m x s r h h1 h2
  cases m with
  | zero=>omega
  | succ m =>
   unfold timesV timesR
   rw [h.left]
   split
   ·rename_i ha
    have hl:=ahead_len ha
    simp only [List.length_cons,List.length_nil] at hl
    refine node_bind h (s.left.drop 1) 1 (by rw [h.left]) (f:=fun s=>timesV n (timesN 0 (-1),Fr.one x.1 x.2) s) (q:=fun r=>timesR m (timesN 0 (-1),Fr.one x.1 x.2) r) (fun t ht hl2=>ih m _ _ _ ht ?_ ?_) (fun z hz=>times_upon hz)
    all_goals rw [hl2,List.length_drop];omega
   ·split
    ·rename_i ha
     have hl:=ahead_len ha
     simp only [List.length_cons,List.length_nil] at hl
     cases hb:boundsR (s.left.drop 2) with
     | none=>rw [bounds_none hb];exact Same2.none _ rfl
     | some b =>
      have hv:=bounds_some hb
      have hbl:=boundsV_len hv
      rw [hv]
      simp only [Option.bind_some,List.length_drop] at hbl ⊢
      have h':Agree { s with left:=b.2.2 } { r with left:=b.2.2 }:=⟨rfl,h.many,h.groups,h.refs,h.ended,h.op,h.nine⟩
      refine node_bind h' (b.2.2.drop 2) 2 rfl (f:=fun s=>timesV n (timesN b.1 b.2.1,Fr.one x.1 x.2) s) (q:=fun r=>timesR m (timesN b.1 b.2.1,Fr.one x.1 x.2) r) (fun t ht hl2=>ih m _ _ _ ht ?_ ?_) (fun z hz=>times_upon hz)
      all_goals rw [hl2,List.length_drop];omega
    ·exact ⟨r,rfl,h⟩
theorem more_same (x:Nk) {s:PS} {r:RdS} (h:Agree s r):Same2 (more1 x s) (moreR x r):=by
 unfold more1 moreR
 split
 ·exact ⟨r,rfl,h⟩
 ·unfold timesF
  exact times_same _ _ x s r h (Nat.lt_succ_self _) (by rw [h.left];exact Nat.lt_succ_self _)
section
variable {row1:PS→Option (Fr × PS)} {row2:RdS→Option (Fr × RdS)} {L:Nat} (hk:RowOk row1) (hu:∀ s y,row2 s=some y→Upon s y.2) (hr:∀ s r,Agree s r→s.left.length≤L→Same2 (row1 s) (row2 r))
include hk hu hr
theorem group_same {s:PS} {r:RdS} (h:Agree s r) {l:List UInt8} (hl:s.left.drop 2=l) (hL:l.length≤L):Same2 (groupV row1 { s with left:=l }) (groupR row2 r):=by
 unfold groupV groupR
 simp only []
 by_cases h9:s.groups+1≤9
 ·rw [if_pos h9]
  unfold node1
  simp only []
  by_cases hp:s.parts+1≤200
  ·rw [if_pos hp]
   simp only [Option.bind_some]
   have hg:=h.groups
   have hA:Agree { left:=l,parts:=s.parts+1,groups:=s.groups+1,refs:=s.refs,op:=s.op++[s.groups+1] } { r.node 2 with groups:=r.groups+1 }:=by
    refine ⟨by simp only [RdS.node];rw [h.left,hl],by simp only [RdS.node];rw [h.many],by simp only [];rw [hg],h.refs,fun n n1 n9=>?_,fun n hn=>?_,h9⟩
    ·have:=h.ended n n1 n9
     simp only [RdS.node,List.mem_append,List.mem_singleton]
     rw [this]
     constructor
     ·rintro ⟨a,b⟩;exact ⟨by omega,fun c=>c.elim b (by omega)⟩
     ·rintro ⟨a,b⟩
      have:n≠s.groups+1:=fun e=>b (.inr e)
      exact ⟨by omega,fun c=>b (.inl c)⟩
    ·simp only [List.mem_append,List.mem_singleton] at hn
     simp only []
     rcases hn with hn | rfl
     ·have:=h.op n hn;omega
     ·omega
   refine Same2.bind (hr _ _ hA hL) (fun k t rt ht he=>?_) (fun z y hz=>?_)
   ·have ko:=hk _ _ he
    have kop:=ko.op
    have kg:=ko.groups
    simp only [] at kop kg
    simp only []
    rw [ht.left]
    by_cases ha:ahead [92,41] t.left=true
    ·rw [if_pos ha,if_pos ⟨ha,by omega⟩]
     rw [hg]
     refine ⟨_,rfl,rfl,ht.many,ht.groups,ht.refs,fun n n1 n9=>?_,fun n hn=>?_,ht.nine⟩
     ·have:=ht.ended n n1 n9
      rw [kop] at this
      simp only [List.mem_append,List.mem_singleton] at this
      simp only [orAt_iff,kop,List.dropLast_concat]
      rw [this]
      constructor
      ·rintro (⟨a,b⟩ | rfl)
       ·exact ⟨a,fun c=>b (.inl c)⟩
       ·exact ⟨kg,fun c=>by have:=h.op _ c;omega⟩
      ·rintro ⟨a,b⟩
       by_cases e:n=s.groups+1
       ·exact .inr e
       ·exact .inl ⟨a,fun c=>c.elim b e⟩
     ·simp only [kop,List.dropLast_concat] at hn
      have:=h.op n hn
      simp only []
      omega
    ·rw [if_neg ha,if_neg (fun k=>ha k.1)]
     exact Same2.none _ rfl
   ·split at hz
    ·injection hz with hz
     subst hz
     exact ⟨Nat.le_refl _,Nat.le_refl _⟩
    ·cases hz
  ·rw [if_neg hp]
   simp only [Option.bind_none]
   have:=h.many
   refine over_noneR (r:={ r.node 2 with groups:=r.groups+1 }) (.inl (by simp only [RdS.node];omega)) fun z hz=>?_
   rw [Option.bind_eq_some_iff] at hz
   obtain ⟨y,e1,e2⟩:=hz
   split at e2
   ·injection e2 with e2
    subst e2
    have:=hu _ _ e1
    exact ⟨this.many,this.groups⟩
   ·cases e2
 ·rw [if_neg h9]
  have hg:=h.groups
  intro z hz
  rw [Option.bind_eq_some_iff] at hz
  obtain ⟨y,e1,e2⟩:=hz
  split at e2
  ·rename_i hc
   have:=hc.2
   omega
  ·cases e2
theorem slash_same {s:PS} {r:RdS} (h:Agree s r) {c0:UInt8} {l:List UInt8} (hl:s.left=c0::l) (hL:l.length≤L+1):Same2 (slashV row1 { s with left:=l }) (slashR row2 r):=by
 unfold slashV slashR
 rw [h.left,hl]
 simp only [List.drop_succ_cons,List.drop_zero]
 cases l with
 | nil=>exact Same2.none _ rfl
 | cons c l =>
  simp only [List.length_cons] at hL
  simp only []
  have h2:r.left.drop 2=l:=by rw [h.left,hl];rfl
  split
  ·exact group_same hk hu hr h (by rw [hl];rfl) (by omega)
  ·split
   ·rename_i hd
    have he:=h.ended (c.toNat - 48) (by omega) (by omega)
    by_cases hc:c.toNat - 48≤s.groups∧c.toNat - 48 ∉ s.op
    ·rw [if_pos hc,if_pos (he.2 hc)]
     exact node_same (s:={ s with refs:=true }) (r:={ r with refs:=true }) (x:=(refN (c.toNat - 48),Fr.nil)) ⟨h.left,h.many,h.groups,rfl,h.ended,h.op,h.nine⟩ l 2 h2
    ·rw [if_neg hc,if_neg (fun k=>hc (he.1 k))]
     exact Same2.none _ rfl
   ·split
    ·exact Same2.none _ rfl
    ·exact node_same (x:=(byteN c.toNat,Fr.nil)) h l 2 h2
theorem part_same {first begun:Bool} {s:PS} {r:RdS} (h:Agree s r) (hL:s.left.length≤L+2):Same2 (partW row1 first begun s) (partR row2 first begun r):=by
 unfold partW partR
 rw [h.left]
 cases hl:s.left with
 | nil=>exact Same2.none _ rfl
 | cons c l =>
  rw [hl] at hL
  simp only [List.length_cons] at hL
  simp only []
  have h1:r.left.drop 1=l:=by rw [h.left,hl];rfl
  split
  ·exact slash_same hk hu hr h hl (by omega)
  ·split
   ·cases hp:parseV (c::l) with
    | none=>exact Same2.none _ rfl
    | some y =>
     simp only [Option.bind_some,Option.map_some]
     exact node_same (x:=(setN y.1,Fr.nil)) h _ y.2 (by rw [h.left,hl])
   ·split
    ·exact node_same (x:=(ndK 2,Fr.nil)) h l 1 h1
    ·split
     ·exact node_same (x:=(ndK 4,Fr.nil)) h l 1 h1
     ·split
      ·exact node_same (x:=(ndK 5,Fr.nil)) h l 1 h1
      ·split
       ·exact Same2.none _ rfl
       ·exact node_same (x:=(byteN c.toNat,Fr.nil)) h l 1 h1
end
theorem row_same:∀ (n m:Nat) (first begun:Bool) (s:PS) (r:RdS),Agree s r→s.left.length < n→s.left.length < m→Same2 (rowV n first begun s) (rowR m first begun r):=by
 intro n
 induction n with
 | zero=>intro m f b s r _ h;omega
 | succ n ih =>
  intro m f b s r h h1 h2
  cases m with
  | zero=>omega
  | succ m =>
   unfold rowV rowR
   rw [h.left]
   have hg:=h.groups
   have h9:=h.nine
   by_cases hs:stopV s.left=true
   ·rw [if_pos hs,if_pos (.inl hs)]
    exact ⟨r,rfl,h⟩
   ·rw [if_neg hs,if_neg (by rintro (k | k);exact hs k;omega)]
    cases hlen:s.left with
    | nil=>rw [hlen] at hs;exact absurd rfl hs
    | cons c0 l0 =>
     have hz:s.left.length=l0.length+1:=by rw [hlen];rfl
     refine Same2.bind (part_same (L:=s.left.length - 1) (fun _ _ k=>rowV_kept n k) (fun _ _ k=>row_upon m _ _ _ _ k) (fun s2 r2 k2 kl=>ih m true false s2 r2 k2 (by omega) (by omega)) h (by omega)) (fun a t rt ht he=>?_) (fun z y hz=>?_)
     ·have k1:=(partW_kept (fun _ _ k=>rowV_kept n k) he).2
      simp only [] at k1
      refine Same2.bind (more_same a ht) (fun a2 t2 rt2 ht2 he2=>?_) (fun z y hz=>?_)
      ·have k2:=(more1_kept he2).le
       simp only [] at k2
       have hrow:=ih m false (a.1.kind == 4) t2 rt2 ht2 (by omega) (by omega)
       simp only []
       cases hv:rowV n false (a.1.kind == 4) t2 with
       | none =>
        rw [hv] at hrow
        intro z hz
        rw [Option.map_eq_some_iff] at hz
        obtain ⟨y,e,rfl⟩:=hz
        exact hrow y e
       | some y =>
        rw [hv] at hrow
        obtain ⟨r3,e3,h3⟩:=hrow
        rw [e3]
        exact ⟨r3,rfl,h3⟩
      ·rw [Option.map_eq_some_iff] at hz
       obtain ⟨w,e,rfl⟩:=hz
       exact (show Upon z.2 w.2 from row_upon m _ _ _ _ e)
     ·rw [Option.bind_eq_some_iff] at hz
      obtain ⟨w,e1,e2⟩:=hz
      rw [Option.map_eq_some_iff] at e2
      obtain ⟨u,e3,rfl⟩:=e2
      exact (more_upon e1).trans (show Upon w.2 u.2 from row_upon m _ _ _ _ e3)
theorem doc_some {l:List UInt8} {y:Fr × PS} (h:patV l=some y):∃ r,docV l=some (y.1,r)∧r.many=y.2.parts∧r.groups=y.2.groups∧r.refs=y.2.refs:=by
 have h2:=patV_size h
 unfold patV at h
 rw [Option.bind_eq_some_iff] at h
 obtain ⟨z,h1,h⟩:=h
 split at h
 ·rename_i hz
  injection h with h
  subst h
  have hs:=row_same (l.length+1) (l.length+1) true false (ps0 l) (rd0 l) ⟨rfl,rfl,rfl,rfl,fun n n1 _=>by simp [rd0,ps0];omega,by simp [ps0],by simp [ps0]⟩ (by simp [ps0]) (by simp [ps0])
  rw [show rowV (l.length+1) true false (ps0 l)=some z from h1] at hs
  obtain ⟨r,e,ha⟩:=hs
  refine ⟨r,?_,ha.many,ha.groups,ha.refs⟩
  unfold docV
  rw [e]
  simp only [Option.bind_some]
  rw [if_pos ⟨by rw [ha.left];simpa using hz,by rw [ha.groups];exact ha.nine,by rw [ha.many];exact h2.2⟩]
 ·cases h
theorem doc_none {l:List UInt8} (h:patV l=none):docV l=none:=by
 unfold docV
 cases hd:rowR (l.length+1) true false (rd0 l) with
 | none=>rfl
 | some q =>
  simp only [Option.bind_some]
  rw [if_neg]
  rintro ⟨q1,q2,q3⟩
  have hs:=row_same (l.length+1) (l.length+1) true false (ps0 l) (rd0 l) ⟨rfl,rfl,rfl,rfl,fun n n1 _=>by simp [rd0,ps0];omega,by simp [ps0],by simp [ps0]⟩ (by simp [ps0]) (by simp [ps0])
  rw [hd] at hs
  unfold patV at h
  cases hv:rowV (l.length+1) true false (ps0 l) with
  | none =>
   rw [hv] at hs
   have:=hs q rfl
   unfold Over at this
   omega
  | some z =>
   rw [hv] at hs
   obtain ⟨r,e,ha⟩:=hs
   rw [show rowF true false (ps0 l)=some z from hv] at h
   simp only [Option.bind_some] at h
   injection e with e
   subst e
   rw [if_pos (by rw [← ha.left,q1];rfl)] at h
   cases h
end Go.Proofs.YtnjagecmhdagkaaGreatDoor
