/-
 Several texts of the proof: BreSize, BreZero, BreCell, BreNodesP.
-/
import Derived.Test.YtnjagecmhdagkaaGreatDoorPk15
set_option linter.unusedSimpArgs false
set_option linter.unusedVariables false
set_option maxRecDepth 3000
/-
  Patterns: as many nodes as parts were counted.
-/
namespace Go.Proofs.YtnjagecmhdagkaaGreatDoor
open Go.RowKit
theorem node1_parts {s t:PS} (h:node1 s=some t):t.parts=s.parts+1∧t.parts≤200:=by
 obtain ⟨h1,rfl⟩:=node1_eq h
 exact ⟨rfl,h1⟩
theorem one_size (x:NdV) (k:Fr):(Fr.one x k).size=k.size+1:=by simp [Fr.one,Fr.size]
theorem timesV_size {n:Nat}:∀ {x:Nk} {s:PS} {y:Nk × PS},timesV n x s=some y→y.1.2.size+s.parts=x.2.size+y.2.parts∧(s.parts≤200→y.2.parts≤200):=by
 induction n with
 | zero=>intro x s y h;cases h
 | succ n ih =>
  intro x s y h
  unfold timesV at h
  split at h
  ·rw [Option.bind_eq_some_iff] at h
   obtain ⟨t,h1,h2⟩:=h
   have k1:=node1_parts h1
   have k2:=ih h2
   simp only [one_size] at k1 k2
   omega
  ·split at h
   ·rw [Option.bind_eq_some_iff] at h
    obtain ⟨b,hb,h⟩:=h
    rw [Option.bind_eq_some_iff] at h
    obtain ⟨t,h1,h2⟩:=h
    have k1:=node1_parts h1
    have k2:=ih h2
    simp only [one_size] at k1 k2
    omega
   ·injection h with h;subst h;exact ⟨rfl,fun h=>h⟩
theorem more1_size {x:Nk} {s:PS} {y:Nk × PS} (h:more1 x s=some y):y.1.2.size+s.parts=x.2.size+y.2.parts∧(s.parts≤200→y.2.parts≤200):=by
 unfold more1 at h
 split at h
 ·injection h with h;subst h;exact ⟨rfl,fun h=>h⟩
 ·exact timesV_size h
def RowSz (row:PS→Option (Fr × PS)):Prop:=∀ s y,row s=some y→y.1.size+s.parts=y.2.parts∧(s.parts≤200→y.2.parts≤200)
section
variable {row:PS→Option (Fr × PS)}
theorem selfV_size {c:Nat} {s:PS} {y:Nk × PS} (h:selfV c s=some y):y.1.2.size+s.parts+1=y.2.parts∧y.2.parts≤200:=by
 unfold selfV at h
 rw [Option.map_eq_some_iff] at h
 obtain ⟨t,h1,rfl⟩:=h
 have:=node1_parts h1
 simp [Fr.size];omega
theorem leaf_size {s:PS} {x:NdV} {y:Nk × PS} (h:(node1 s).map (fun s=>((x,Fr.nil),s))=some y):y.1.2.size+s.parts+1=y.2.parts∧y.2.parts≤200:=by
 rw [Option.map_eq_some_iff] at h
 obtain ⟨t,h1,rfl⟩:=h
 have:=node1_parts h1
 simp [Fr.size];omega
theorem groupV_size (hr:RowSz row) {s:PS} {y:Nk × PS} (h:groupV row s=some y):y.1.2.size+s.parts+1=y.2.parts∧y.2.parts≤200:=by
 unfold groupV at h
 split at h
 ·rw [Option.bind_eq_some_iff] at h
  obtain ⟨t,h1,h⟩:=h
  rw [Option.bind_eq_some_iff] at h
  obtain ⟨z,h2,h⟩:=h
  split at h
  ·injection h with h
   subst h
   have k1:=node1_parts h1
   have k:=hr _ _ h2
   simp only [] at k k1 ⊢
   omega
  ·cases h
 ·cases h
theorem slashV_size (hr:RowSz row) {s:PS} {y:Nk × PS} (h:slashV row s=some y):y.1.2.size+s.parts+1=y.2.parts∧y.2.parts≤200:=by
 obtain ⟨left,parts,groups,refs,op⟩:=s
 cases left with
 | nil=>cases h
 | cons c l =>
  unfold slashV at h
  simp only [] at h
  split at h
  ·(have k:=groupV_size hr h;exact k)
  ·split at h
   ·split at h
    ·(have k:=leaf_size h;exact k)
    ·cases h
   ·split at h
    ·cases h
    ·(have k:=selfV_size h;exact k)
theorem partW_size (hr:RowSz row) {first begun:Bool} {s:PS} {y:Nk × PS} (h:partW row first begun s=some y):y.1.2.size+s.parts+1=y.2.parts∧y.2.parts≤200:=by
 obtain ⟨left,parts,groups,refs,op⟩:=s
 cases left with
 | nil=>cases h
 | cons c l =>
  unfold partW at h
  simp only [] at h
  split at h
  ·(have k:=slashV_size hr h;exact k)
  ·split at h
   ·rw [Option.bind_eq_some_iff] at h
    obtain ⟨p,hp,h⟩:=h
    (have k:=leaf_size h;exact k)
   ·split at h
    ·(have k:=leaf_size h;exact k)
    ·split at h
     ·(have k:=leaf_size h;exact k)
     ·split at h
      ·(have k:=leaf_size h;exact k)
      ·split at h
       ·cases h
       ·(have k:=selfV_size h;exact k)
end
theorem rowV_size (n:Nat):∀ {first begun:Bool} {s:PS} {y:Fr × PS},rowV n first begun s=some y→y.1.size+s.parts=y.2.parts∧(s.parts≤200→y.2.parts≤200):=by
 induction n with
 | zero=>intro f b s y h;cases h
 | succ n ih =>
  intro f b s y h
  unfold rowV at h
  split at h
  ·injection h with h;subst h;exact ⟨by simp [Fr.size],fun h=>h⟩
  ·rw [Option.bind_eq_some_iff] at h
   obtain ⟨a,h1,h⟩:=h
   rw [Option.bind_eq_some_iff] at h
   obtain ⟨c,h2,h⟩:=h
   rw [Option.map_eq_some_iff] at h
   obtain ⟨r,h3,rfl⟩:=h
   have k1:=partW_size (fun s y h=>ih h) h1
   have k2:=more1_size h2
   have k3:r.1.size+c.2.parts=r.2.parts∧(c.2.parts≤200→r.2.parts≤200):=ih h3
   simp only [Fr.size]
   omega
theorem patV_size {l:List UInt8} {y:Fr × PS} (h:patV l=some y):y.1.size=y.2.parts∧y.2.parts≤200:=by
 unfold patV at h
 rw [Option.bind_eq_some_iff] at h
 obtain ⟨z,h1,h2⟩:=h
 have:=rowV_size _ h1
 split at h2
 ·injection h2 with h2;subst h2;simpa [ps0] using this
 ·cases h2
end Go.Proofs.YtnjagecmhdagkaaGreatDoor
namespace Go.Proofs.YtnjagecmhdagkaaGreatDoor
open Go.RowKit
structure ReZ (w:World) (g:Nat):Prop where
 tree:w.cell? ⟨g,0,none⟩=some (.slice none 0 0)
 groups:w.cell? ⟨g,1,none⟩=some (.int .i64 0)
 parts:w.cell? ⟨g,2,none⟩=some (.int .i64 0)
 refs:w.cell? ⟨g,3,none⟩=some (.bool false)
section
variable {w:World} {g:Nat}
theorem ReZ.grows {w':World} (h:ReZ w g) (hg:Grows w w'):ReZ w' g:=by
 have hc:∀ {i v},w.cell? ⟨g,i,none⟩=some v→w'.cell? ⟨g,i,none⟩=some v:=fun {i v} h=>by
  obtain ⟨m,rfl⟩:=hg
  rw [cell_more _ _ _ (World.block_lt_of_cell? w _ h)]
  exact h
 exact ⟨hc h.tree,hc h.groups,hc h.parts,hc h.refs⟩
end
end Go.Proofs.YtnjagecmhdagkaaGreatDoor
namespace Go.Proofs.YtnjagecmhdagkaaGreatDoor
open Go.RowKit
theorem FrRow.node {ok:Nat→Prop} {w:World} {x:NdV} {kids rest:Fr}:∀ {a:Fr} {xs:List Value},FrRow ok w (a.app (.cons x kids rest)) xs →
  ∃ K capk,FrAt ok w K capk kids∧∀ j u,(ndC x (.slice K kids.len capk))[j]?=some u→xs[a.len*262+j]?=some u:=by
 intro a
 induction a with
 | nil =>
  intro xs h
  obtain ⟨K,capk,ys,zs,e,h1,h2,h3⟩:=FrRow.head h
  refine ⟨K,capk,⟨ys,h1,h2⟩,fun j u hu=>?_⟩
  have hj:=(Array.getElem?_eq_some_iff.1 hu).1
  rw [e,Fr.len,Nat.zero_mul,Nat.zero_add,List.getElem?_append_left (by simpa using hj),Array.getElem?_toList]
  exact hu
 | cons z k r _ ihr =>
  intro xs h
  obtain ⟨K0,cap0,ys,zs,e,h1,h2,h3⟩:=FrRow.head h
  obtain ⟨K,capk,h4,h5⟩:=ihr h3
  refine ⟨K,capk,h4,fun j u hu=>?_⟩
  have hz:(ndC z (.slice K0 k.len cap0)).toList.length=262:=by simp [ndA_size]
  have hu2:=h5 j u hu
  rw [e]
  generalize (ndC z (.slice K0 k.len cap0)).toList=zl at hz
  have hi:(Fr.cons z k r).len*262+j=zl.length+(r.len*262+j):=by rw [hz,Fr.len];omega
  rw [hi,List.getElem?_append_right (Nat.le_add_right _ _),Nat.add_sub_cancel_left]
  exact hu2
theorem FrAt.node {ok:Nat→Prop} {w:World} {A:Option Addr} {cap:Nat} {x:NdV} {kids rest a f:Fr} (h:FrAt ok w A cap f) (e:f=a.app (.cons x kids rest)) {b o:Nat} (hA:A=some ⟨b,o,none⟩) :
  ∃ K capk,FrAt ok w K capk kids∧∀ j u,(ndC x (.slice K kids.len capk))[j]?=some u→w.cell? ⟨b,o+(a.len*262+j),none⟩=some u:=by
 subst e
 obtain ⟨xs,h1,h2⟩:=h
 obtain ⟨K,capk,h3,h4⟩:=h2.node
 refine ⟨K,capk,h3,fun j u hu=>?_⟩
 have hlt:0 < (a.app (.cons x kids rest)).len:=by rw [Fr.len_app,Fr.len];omega
 obtain ⟨b',o',e,_,hc⟩:=h1.rd.2 hlt
 have hu2:=h4 j u hu
 clear h4 hu h1 h2
 have e2:(⟨b,o,none⟩:Addr)=⟨b',o',none⟩:=Option.some.inj (hA.symm.trans e)
 have e3:b=b':=congrArg Addr.block e2
 have e4:o=o':=congrArg Addr.off e2
 rw [e3,e4]
 exact hc (a.len*262+j) u hu2
theorem FrAt.some {ok:Nat→Prop} {w:World} {A:Option Addr} {cap:Nat} {f:Fr} (h:FrAt ok w A cap f) (hp:0 < f.len):∃ b o,A=some ⟨b,o,none⟩∧InHeap b w:=by
 obtain ⟨xs,h1,h2⟩:=h
 obtain ⟨b,o,e,hb,_⟩:=h1.rd.2 hp
 exact ⟨b,o,e,hb⟩
end Go.Proofs.YtnjagecmhdagkaaGreatDoor
namespace Go.Proofs.YtnjagecmhdagkaaGreatDoor
open Go.RowKit
structure WS where
 groups:Nat
 ended:Nat→Bool
 refs:Bool
def orAt (p:Nat→Bool) (n:Nat):Nat→Bool:=fun i=>p i || decide (i=n)
theorem orAt_iff (p:Nat→Bool) (n i:Nat):orAt p n i=true ↔ p i=true∨i=n:=by simp [orAt]
def GoodF:Fr→WS→WS→Prop
 | .nil,s,t=>t=s
 | .cons x k r,s,t=>∃ m,((x.kind=7∧x.n=s.groups+1∧x.n≤9∧∃ m1,GoodF k { s with groups:=s.groups+1 } m1∧m={ m1 with ended:=orAt m1.ended x.n }) ∨
   (x.kind=6∧1≤x.n∧x.n≤9∧s.ended x.n=true∧k=.nil∧m={ s with refs:=true }) ∨
   (x.kind=8∧k.len=1∧x.mn≤255∧-1≤x.mx∧x.mx≤255∧(x.mx < 0∨(x.mn:Int)≤x.mx)∧GoodF k s m) ∨
   (1≤x.kind∧x.kind≤5∧k=.nil∧m=s))∧GoodF r m t
def GoodN (x:Nk) (s t:WS):Prop:=GoodF (Fr.one x.1 x.2) s t
theorem GoodF.one {x:NdV} {k:Fr} {s t:WS} (h:GoodF (Fr.one x k) s t):(x.kind=7∧x.n=s.groups+1∧x.n≤9∧∃ m1,GoodF k { s with groups:=s.groups+1 } m1∧t={ m1 with ended:=orAt m1.ended x.n }) ∨
   (x.kind=6∧1≤x.n∧x.n≤9∧s.ended x.n=true∧k=.nil∧t={ s with refs:=true }) ∨
   (x.kind=8∧k.len=1∧x.mn≤255∧-1≤x.mx∧x.mx≤255∧(x.mx < 0∨(x.mn:Int)≤x.mx)∧GoodF k s t) ∨
   (1≤x.kind∧x.kind≤5∧k=.nil∧t=s):=by
 obtain ⟨m,h,e⟩:=h
 have e:t=m:=e
 subst e
 exact h
theorem GoodF.cons {x:NdV} {k r:Fr} {s m t:WS} (h:GoodN (x,k) s m) (hr:GoodF r m t):GoodF (.cons x k r) s t:=⟨m,h.one,hr⟩
theorem GoodF.leaf {x:NdV} (h1:1≤x.kind) (h2:x.kind≤5) (s:WS):GoodN (x,.nil) s s:=⟨s,.inr (.inr (.inr ⟨h1,h2,rfl,rfl⟩)),rfl⟩
structure Meet (s:PS) (v:WS):Prop where
 groups:v.groups=s.groups
 refs:v.refs=s.refs
 ended:∀ n,1≤n→n≤9→(v.ended n=true ↔ n≤s.groups∧n ∉ s.op)
 op:∀ n ∈ s.op,n≤s.groups
theorem Meet.same {s t:PS} {v:WS} (h:Meet s v) (h1:t.groups=s.groups) (h2:t.refs=s.refs) (h3:t.op=s.op):Meet t v :=
 ⟨h.groups.trans h1.symm,h.refs.trans h2.symm,by rw [h1,h3];exact h.ended,by rw [h1,h3];exact h.op⟩
theorem node1_same {s t:PS} (h:node1 s=some t):t.groups=s.groups∧t.refs=s.refs∧t.op=s.op:=by
 obtain ⟨_,rfl⟩:=node1_eq h
 exact ⟨rfl,rfl,rfl⟩
def RowGood (row:PS→Option (Fr × PS)):Prop:=∀ s y,row s=some y→∀ v,Meet s v→∃ v',GoodF y.1 v v'∧Meet y.2 v'
theorem bounds_good {l:List UInt8} {b:Nat × Int × List UInt8} (h:boundsV l=some b):b.1≤255∧-1≤b.2.1∧b.2.1≤255∧(b.2.1 < 0∨(b.1:Int)≤b.2.1):=by
 unfold boundsV at h
 simp only [] at h
 split at h
 ·rename_i hc
  injection h with h
  subst h
  refine ⟨hc.2.2.1,?_,hc.2.2.2.1,hc.2.2.2.2⟩
  simp only []
  unfold mostV
  split
  ·split <;> simp only [] <;> omega
  ·simp only [];omega
 ·cases h
theorem times_good {n:Nat}:∀ {x:Nk} {s:PS} {y:Nk × PS},timesV n x s=some y→∀ {v v':WS},GoodN x v v'→Meet s v'→GoodN y.1 v v'∧Meet y.2 v':=by
 induction n with
 | zero=>intro x s y h;cases h
 | succ n ih =>
  intro x s y h v v' hx hm
  unfold timesV at h
  split at h
  ·rw [Option.bind_eq_some_iff] at h
   obtain ⟨t,h1,h2⟩:=h
   obtain ⟨q1,q2,q3⟩:=node1_same h1
   exact ih h2 ⟨v',.inr (.inr (.inl ⟨rfl,rfl,Nat.zero_le _,Int.le_refl _,(by decide:(-1:Int)≤255),.inl (by decide:(-1:Int) < 0),hx⟩)),rfl⟩ (hm.same q1 q2 q3)
  ·split at h
   ·rw [Option.bind_eq_some_iff] at h
    obtain ⟨b,hb,h⟩:=h
    rw [Option.bind_eq_some_iff] at h
    obtain ⟨t,h1,h2⟩:=h
    obtain ⟨q1,q2,q3⟩:=node1_same h1
    obtain ⟨b1,b2,b3,b4⟩:=bounds_good hb
    exact ih h2 ⟨v',.inr (.inr (.inl ⟨rfl,rfl,b1,b2,b3,b4,hx⟩)),rfl⟩ (hm.same q1 q2 q3)
   ·injection h with h;subst h;exact ⟨hx,hm⟩
theorem more1_good {x:Nk} {s:PS} {y:Nk × PS} (h:more1 x s=some y) {v v':WS} (hx:GoodN x v v') (hm:Meet s v'):GoodN y.1 v v'∧Meet y.2 v':=by
 unfold more1 at h
 split at h
 ·injection h with h;subst h;exact ⟨hx,hm⟩
 ·exact times_good h hx hm
theorem leaf_good {s:PS} {x:NdV} {y:Nk × PS} (h1:1≤x.kind) (h2:x.kind≤5) (h:(node1 s).map (fun s=>((x,Fr.nil),s))=some y) {v:WS} (hm:Meet s v):∃ v',GoodN y.1 v v'∧Meet y.2 v':=by
 rw [Option.map_eq_some_iff] at h
 obtain ⟨t,h3,rfl⟩:=h
 obtain ⟨q1,q2,q3⟩:=node1_same h3
 exact ⟨v,GoodF.leaf h1 h2 v,hm.same q1 q2 q3⟩
section
variable {row:PS→Option (Fr × PS)}
theorem groupV_good (hk:RowOk row) (hr:RowGood row) {s:PS} {y:Nk × PS} (h:groupV row s=some y) {v:WS} (hm:Meet s v):∃ v',GoodN y.1 v v'∧Meet y.2 v':=by
 unfold groupV at h
 split at h
 ·rename_i h9
  rw [Option.bind_eq_some_iff] at h
  obtain ⟨t,h1,h⟩:=h
  rw [Option.bind_eq_some_iff] at h
  obtain ⟨z,h2,h⟩:=h
  split at h
  ·injection h with h
   subst h
   obtain ⟨_,rfl⟩:=node1_eq h1
   have k:=hk _ _ h2
   have kop:=k.op
   have kg:=k.groups
   simp only [] at kop kg
   obtain ⟨v1,g1,m1⟩:=hr _ _ h2 { v with groups:=v.groups+1 } ⟨by simp only [];rw [hm.groups],hm.refs,fun n n1 n9=>by
    simp only [List.mem_append,List.mem_singleton]
    rw [hm.ended n n1 n9]
    constructor
    ·rintro ⟨a,b⟩;exact ⟨by omega,fun c=>c.elim b (by omega)⟩
    ·rintro ⟨a,b⟩
     have:n≠s.groups+1:=fun e=>b (.inr e)
     exact ⟨by omega,fun c=>b (.inl c)⟩,fun n hn=>by
    simp only [List.mem_append,List.mem_singleton] at hn
    simp only []
    rcases hn with hn | rfl
    ·have:=hm.op n hn;omega
    ·omega⟩
   have hg:=hm.groups
   refine ⟨{ v1 with ended:=orAt v1.ended (groupN (s.groups+1)).n },⟨_,.inl ⟨rfl,by simp only [groupN,ndK];omega,h9,v1,g1,rfl⟩,rfl⟩,m1.groups,m1.refs,fun n n1 n9=>?_,fun n hn=>?_⟩
   ·simp only [orAt_iff,groupN,kop,List.dropLast_concat]
    have:=m1.ended n n1 n9
    rw [kop] at this
    simp only [List.mem_append,List.mem_singleton] at this
    rw [this]
    constructor
    ·rintro (⟨a,b⟩ | rfl)
     ·exact ⟨a,fun c=>b (.inl c)⟩
     ·exact ⟨kg,fun c=>by have:=hm.op _ c;omega⟩
    ·rintro ⟨a,b⟩
     by_cases e:n=s.groups+1
     ·exact .inr e
     ·exact .inl ⟨a,fun c=>c.elim b e⟩
   ·simp only [kop,List.dropLast_concat] at hn
    have:=hm.op n hn
    simp only []
    omega
  ·cases h
 ·cases h
theorem slashV_good (hk:RowOk row) (hr:RowGood row) {s:PS} {y:Nk × PS} (h:slashV row s=some y) {v:WS} (hm:Meet s v):∃ v',GoodN y.1 v v'∧Meet y.2 v':=by
 obtain ⟨left,parts,groups,refs,op⟩:=s
 cases left with
 | nil=>cases h
 | cons c l =>
  unfold slashV at h
  simp only [] at h
  split at h
  ·exact groupV_good hk hr h (hm.same rfl rfl rfl)
  ·split at h
   ·rename_i hd
    split at h
    ·rename_i hc
     rw [Option.map_eq_some_iff] at h
     obtain ⟨t,h1,rfl⟩:=h
     obtain ⟨_,rfl⟩:=node1_eq h1
     have he:=(hm.ended (c.toNat - 48) (by omega) (by omega)).2 hc
     exact ⟨{ v with refs:=true },⟨_,.inr (.inl ⟨rfl,by simp only [refN,ndK];omega,by simp only [refN,ndK];omega,he,rfl,rfl⟩),rfl⟩,⟨hm.groups,rfl,hm.ended,hm.op⟩⟩
    ·cases h
   ·split at h
    ·cases h
    ·exact leaf_good (x:=byteN c.toNat) (Nat.le_refl 1) (by decide:(1:Nat)≤5) h (hm.same rfl rfl rfl)
theorem partW_good (hk:RowOk row) (hr:RowGood row) {first begun:Bool} {s:PS} {y:Nk × PS} (h:partW row first begun s=some y) {v:WS} (hm:Meet s v):∃ v',GoodN y.1 v v'∧Meet y.2 v':=by
 obtain ⟨left,parts,groups,refs,op⟩:=s
 cases left with
 | nil=>cases h
 | cons c l =>
  unfold partW at h
  simp only [] at h
  split at h
  ·exact slashV_good hk hr h (hm.same rfl rfl rfl)
  ·split at h
   ·rw [Option.bind_eq_some_iff] at h
    obtain ⟨p,hp,h⟩:=h
    exact leaf_good (x:=setN p.1) (by decide:(1:Nat)≤3) (by decide:(3:Nat)≤5) h (hm.same rfl rfl rfl)
   ·split at h
    ·exact leaf_good (x:=ndK 2) (by decide) (by decide) h (hm.same rfl rfl rfl)
    ·split at h
     ·exact leaf_good (x:=ndK 4) (by decide) (by decide) h (hm.same rfl rfl rfl)
     ·split at h
      ·exact leaf_good (x:=ndK 5) (by decide) (by decide) h (hm.same rfl rfl rfl)
      ·split at h
       ·cases h
       ·exact leaf_good (x:=byteN c.toNat) (Nat.le_refl 1) (by decide:(1:Nat)≤5) h (hm.same rfl rfl rfl)
end
theorem rowV_good (n:Nat):∀ (first begun:Bool) (s:PS) (y:Fr × PS),rowV n first begun s=some y→∀ v,Meet s v→∃ v',GoodF y.1 v v'∧Meet y.2 v':=by
 induction n with
 | zero=>intro f b s y h;cases h
 | succ n ih =>
  intro f b s y h v hm
  unfold rowV at h
  split at h
  ·injection h with h;subst h;exact ⟨v,rfl,hm⟩
  ·rw [Option.bind_eq_some_iff] at h
   obtain ⟨a,h1,h⟩:=h
   rw [Option.bind_eq_some_iff] at h
   obtain ⟨c,h2,h⟩:=h
   rw [Option.map_eq_some_iff] at h
   obtain ⟨r,h3,rfl⟩:=h
   obtain ⟨v1,g1,m1⟩:=partW_good (fun _ _ h=>rowV_kept n h) (fun s y h=>ih true false s y h) h1 hm
   obtain ⟨g2,m2⟩:=more1_good h2 g1 m1
   obtain ⟨v3,g3,m3⟩:=ih _ _ _ _ h3 v1 m2
   exact ⟨v3,GoodF.cons g2 g3,m3⟩
def ws0:WS:=⟨0,fun _=>false,false⟩
theorem patV_good {l:List UInt8} {y:Fr × PS} (h:patV l=some y):∃ v,GoodF y.1 ws0 v∧v.groups=y.2.groups∧v.refs=y.2.refs:=by
 unfold patV at h
 rw [Option.bind_eq_some_iff] at h
 obtain ⟨z,h1,h⟩:=h
 split at h
 ·injection h with h
  subst h
  obtain ⟨v,g,m⟩:=rowV_good _ _ _ _ _ h1 ws0 ⟨rfl,rfl,fun n n1 _=>by simp [ws0,ps0];omega,by simp [ps0]⟩
  exact ⟨v,g,m.groups,m.refs⟩
 ·cases h
end Go.Proofs.YtnjagecmhdagkaaGreatDoor
