/-
 Several texts of the proof: MatFitP, MatFitV, MatRfS, MatRfT.
-/
import Derived.Test.YtnjagecmhdagkaaGreatDoorPk15
import Derived.Test.YtnjagecmhdagkaaGreatDoorPk25
import Derived.Test.YtnjagecmhdagkaaGreatDoorPk39
import Derived.Test.YtnjagecmhdagkaaGreatDoorPk40
set_option linter.unusedSimpArgs false
set_option linter.unusedVariables false
/-
  Matches: rows of letters and dots, starred or not, in plain words.
-/
namespace Go.Proofs.YtnjagecmhdagkaaGreatDoor
open Go.RowKit
structure Atm where
 c:UInt8
 any:Bool
 star:Bool
def fitB (x:Atm) (s:List UInt8) (k:Nat):Prop:=k < s.length∧(x.any=true∨x.c.toNat=ch s k)
def stepP (x:Atm) (s:List UInt8) (a i:Nat):Prop:=if x.star=true then a≤i∧∀ k,a≤k→k < i→fitB x s k else i=a+1∧fitB x s a
def FitP (s:List UInt8):List Atm→Nat→Nat→Prop
 | [],a,b=>b=a
 | x::l,a,b=>∃ i,stepP x s a i∧FitP s l i b
set_option maxRecDepth 3000 in
theorem stepP.le {x:Atm} {s:List UInt8} {a i:Nat} (h:stepP x s a i):a≤i∧(a≤s.length→i≤s.length):=by
 unfold stepP at h
 split at h
 ·refine ⟨h.1,fun ha=>?_⟩
  rcases Nat.lt_or_ge a i with h2 | h2
  ·have:=(h.2 (i - 1) (by omega) (by omega)).1;omega
  ·omega
 ·have:=h.2.1;exact ⟨by omega,fun _=>by omega⟩
set_option maxRecDepth 3000 in
theorem FitP.le {s:List UInt8}:∀ {l:List Atm} {a b:Nat},FitP s l a b→a≤b∧(a≤s.length→b≤s.length):=by
 intro l
 induction l with
 | nil=>intro a b h;rw [show b=a from h];exact ⟨Nat.le_refl _,id⟩
 | cons x l ih =>
  rintro a b ⟨i,h1,h2⟩
  have:=h1.le
  have:=ih h2
  exact ⟨by omega,fun h=>by omega⟩
end Go.Proofs.YtnjagecmhdagkaaGreatDoor
namespace Go.Proofs.YtnjagecmhdagkaaGreatDoor
open Go.RowKit
set_option maxRecDepth 3000 in
theorem spSet_0 {g:Spn} (hg:g.length=20) (a b:Int):(spSet g 0 a b).getD 0 0=a∧(spSet g 0 a b).getD 1 0=b∧∀ i,2≤i→(spSet g 0 a b).getD i 0=g.getD i 0:=by
 unfold spSet
 refine ⟨?_,?_,fun i hi=>?_⟩
 ·rw [List.getD_eq_getElem?_getD,List.getElem?_set_ne (by omega),List.getElem?_set_self (by omega)];rfl
 ·rw [List.getD_eq_getElem?_getD,List.getElem?_set_self (by rw [List.length_set];omega)];rfl
 ·rw [List.getD_eq_getElem?_getD,List.getElem?_set_ne (by omega),List.getElem?_set_ne (by omega),← List.getD_eq_getElem?_getD]
end Go.Proofs.YtnjagecmhdagkaaGreatDoor
namespace Go.Proofs.YtnjagecmhdagkaaGreatDoor
open Go.RowKit
def betS (t b:St):Bool:=decide (b.1 < t.1) || (decide (t.1=b.1) && decide (0 < betterV t.2.2 b.2.2))
def bestS:St→List St→St
 | b,[]=>b
 | b,t::l=>bestS (if betS t b then t else b) l
def allR (s:List UInt8) (f:Fr) (most:Int):Nat→Nat→Nat→Spn × Bool × Nat
 | 0,_,n=>(spZero,false,n)
 | m+1,a,n =>
  if ovN most n then (spZero,false,n)
  else match (rowR10 s most f a spNone n).1 with
   | []=>allR s f most m (a+1) (rowR10 s most f a spNone n).2
   | t::l=>if ovN most (rowR10 s most f a spNone n).2 then allR s f most m (a+1) (rowR10 s most f a spNone n).2
    else (spSet (bestS t l).2.1 0 a (bestS t l).1,true,(rowR10 s most f a spNone n).2)
set_option maxRecDepth 3000 in
theorem unset_len2:∀ {f:Fr} {g:Spn},(unsetV f g).length=g.length:=by
 intro f
 induction f with
 | nil=>intro g;rfl
 | cons x k r ihk ihr =>
  intro g
  unfold unsetV
  rw [ihr,ihk]
  split
  ·rw [spSet_len]
  ·rfl
set_option maxRecDepth 3000 in
theorem evT_len {x:NdV} {R:Nat→Spn→List Ev} {U:Spn→Spn} (hR:∀ a g,∀ t ∈ outsE (R a g),t.2.1.length=g.length) (hU:∀ g,(U g).length=g.length):∀ (F d a:Nat) (g:Spn) (ws:Wy),∀ t ∈ outsE (evT x R U F d a g ws),t.2.1.length=g.length:=by
 intro F
 induction F with
 | zero=>intro d a g ws t ht;cases ht
 | succ F ih =>
  intro d a g ws t ht
  unfold evT at ht
  rw [outsE_app,List.mem_append] at ht
  rcases ht with ht | ht
  ·split at ht
   ·simp [outsE] at ht;rw [ht]
   ·cases ht
  ·split at ht
   ·cases ht
   ·obtain ⟨u,hu,hv⟩:=bind_mem ht
    have h1:=hR a (U g) u hu
    split at hv
    ·rw [ih (d+1) u.1 u.2.1 _ t hv,h1,hU]
    ·cases hv
set_option maxRecDepth 3000 in
theorem evR_len {s:List UInt8}:∀ {f:Fr} {a:Nat} {g:Spn} {ws:Wy},∀ t ∈ outsE (evR s f a g ws),t.2.1.length=g.length:=by
 intro f
 induction f with
 | nil=>intro a g ws t ht;simp [evR,outsE] at ht;rw [ht]
 | cons x k r ihk ihr =>
  intro a g ws t ht
  simp only [evR] at ht
  split at ht
  ·obtain ⟨u,hu,hv⟩:=bind_mem ht
   rw [ihr t hv,spSet_len,ihk u hu]
  ·split at ht
   ·obtain ⟨u,hu,hv⟩:=bind_mem ht
    rw [ihr t hv]
    exact evT_len (fun a g t ht=>ihk t ht) (fun g=>unset_len2) _ _ _ _ _ u hu
   ·split at ht
    ·simp [outsE] at ht
    ·exact ihr t (by simpa [outsE] using ht)
def foldK (a:Nat) (l:List St) (σ:Sg):Sg:=l.foldl (fun σ t=>allK a t.1 t.2.1 t.2.2 σ) σ
set_option maxRecDepth 3000 in
theorem allK_sp (a e:Nat) (g:Spn) (ws:Wy) (σ:Sg):(allK a e g ws σ).spent=σ.spent∧∀ n,(allK a e g ws { σ with spent:=n })={ (allK a e g ws σ) with spent:=n }:=by
 unfold allK
 have:∀ n,allT { σ with spent:=n } e ws=allT σ e ws:=fun n=>rfl
 constructor
 ·split <;> rfl
 ·intro n
  rw [this]
  split <;> rfl
set_option maxRecDepth 3000 in
theorem foldK_sp (a:Nat):∀ (l:List St) (σ:Sg),(foldK a l σ).spent=σ.spent∧∀ n,foldK a l { σ with spent:=n }={ foldK a l σ with spent:=n }
 | [],σ=>⟨rfl,fun n=>rfl⟩
 | t::l,σ=>by
  obtain ⟨h1,h2⟩:=foldK_sp a l (allK a t.1 t.2.1 t.2.2 σ)
  obtain ⟨k1,k2⟩:=allK_sp a t.1 t.2.1 t.2.2 σ
  exact ⟨h1.trans k1,fun n=>by show foldK a l (allK a t.1 t.2.1 t.2.2 { σ with spent:=n })=_;rw [k2];exact h2 n⟩
set_option maxRecDepth 3000 in
theorem run_fold {fuel:Int} {a:Nat}:∀ (l:List Ev) (σ:Sg),(σ.spent:Int)≤fuel →
  ((σ.spent:Int)+tickE l≤fuel→runE (allK a) fuel l σ={ foldK a (outsE l) σ with spent:=σ.spent+tickE l }) ∧
  (fuel < (σ.spent:Int)+tickE l→overB fuel (runE (allK a) fuel l σ)=true)
 | [],σ,h=>⟨fun _=>rfl,fun h2=>by simp [tickE] at h2;omega⟩
 | .tick::l,σ,h=>by
  have hov:overB fuel σ=false:=by unfold overB;rw [decide_eq_false_iff_not];omega
  have e1:runE (allK a) fuel (.tick::l) σ=runE (allK a) fuel l { σ with spent:=σ.spent+1 }:=by
   rw [run_cons]
   congr 1
   unfold stepE
   rw [if_neg (by rw [hov];decide)]
  rw [e1]
  simp only [tickE]
  rcases Int.lt_or_le fuel ((σ.spent:Int)+1) with h3 | h3
  ·refine ⟨fun h2=>by omega,fun _=>?_⟩
   rw [run_over _ (by unfold overB;rw [decide_eq_true_eq];simp only [];omega)]
   unfold overB
   rw [decide_eq_true_eq]
   simp only []
   omega
  ·obtain ⟨r1,r2⟩:=run_fold (fuel:=fuel) (a:=a) l { σ with spent:=σ.spent+1 } (by simp only [];omega)
   simp only [] at r1 r2
   refine ⟨fun h2=>?_,fun h2=>r2 (by omega)⟩
   rw [r1 (by omega),(foldK_sp a (outsE l) σ).2]
   simp only [outsE]
   congr 1
   omega
 | .out e g ws::l,σ,h=>by
  have hov:overB fuel σ=false:=by unfold overB;rw [decide_eq_false_iff_not];omega
  have e1:runE (allK a) fuel (.out e g ws::l) σ=runE (allK a) fuel l (allK a e g ws σ):=by
   rw [run_cons]
   congr 1
   unfold stepE
   rw [if_neg (by rw [hov];decide)]
  have hs:=(allK_sp a e g ws σ).1
  obtain ⟨r1,r2⟩:=run_fold (fuel:=fuel) (a:=a) l (allK a e g ws σ) (by rw [hs];exact h)
  rw [hs] at r1 r2
  rw [e1]
  exact ⟨fun h2=>by rw [r1 h2];rfl,r2⟩
set_option maxRecDepth 3000 in
theorem fold_best (a:Nat):∀ (l:List St) (b:St) (n:Nat),b.2.1.length=20→(∀ t ∈ l,t.2.1.length=20)→(foldK a l ⟨n,some (spSet b.2.1 0 a b.1,b.2.2)⟩).best=some (spSet (bestS b l).2.1 0 a (bestS b l).1,(bestS b l).2.2)
 | [],b,n,_,_=>rfl
 | t::l,b,n,hb,hl=>by
  have hsp:spB (spSet b.2.1 0 a b.1) 0=(b.1:Int):=(spSet_0 hb (a:Int) (b.1:Int)).2.1
  have ht:allT ⟨n,some (spSet b.2.1 0 a b.1,b.2.2)⟩ t.1 t.2.2=betS t b:=by
   unfold allT betS
   simp only [hsp]
   congr 1
   ·rw [Bool.eq_iff_iff];simp
   ·congr 1
    rw [Bool.eq_iff_iff]
    simp
    omega
  show (foldK a l (allK a t.1 t.2.1 t.2.2 ⟨n,some (spSet b.2.1 0 a b.1,b.2.2)⟩)).best=_
  unfold allK
  rw [ht]
  simp only [bestS]
  cases betS t b with
  | true =>
   simp only [if_true]
   exact fold_best a l t n (hl t (by simp)) fun u hu=>hl u (by simp [hu])
  | false =>
   simp only [Bool.false_eq_true,if_false]
   exact fold_best a l b n hb fun u hu=>hl u (by simp [hu])
set_option maxRecDepth 3000 in
theorem all_eq {s:List UInt8} {f:Fr} {fuel:Int} (hf:0≤fuel):∀ (m a n:Nat),(n:Int)≤fuel →
  (match allF s f fuel m a ⟨n,none⟩ with
   | none=>fuel < ((allR s f fuel m a n).2.2:Int)
   | some σ=>((allR s f fuel m a n).2.2:Int)≤fuel∧(match σ.best with | none=>((allR s f fuel m a n).1,(allR s f fuel m a n).2.1)=(spZero,false) | some y=>((allR s f fuel m a n).1,(allR s f fuel m a n).2.1)=(y.1,true))):=by
 intro m
 induction m with
 | zero=>intro a n hn;exact ⟨hn,rfl⟩
 | succ m ih =>
  intro a n hn
  have hov:∀ k:Nat,ovN fuel k=decide (fuel < (k:Int)):=fun k=>by
   unfold ovN
   rw [decide_eq_true hf,Bool.true_and]
  have hsay:=row_says (most:=fuel) (s:=s) f a spNone
  obtain ⟨r1,r2⟩:=run_fold (fuel:=fuel) (a:=a) (evR s f a spNone .nil) ⟨n,none⟩ hn
  simp only [] at r1 r2
  have hup:∀ (m a k:Nat),fuel < (k:Int)→allR s f fuel m a k=(spZero,false,k):=by
   intro m a k hk
   cases m with
   | zero=>rfl
   | succ m=>unfold allR;rw [if_pos (by rw [hov];exact decide_eq_true hk)]
  have eF:allF s f fuel (m+1) a ⟨n,none⟩=if overB fuel (runE (allK a) fuel (evR s f a spNone .nil) ⟨n,none⟩) then none else allF s f fuel m (a+1) (runE (allK a) fuel (evR s f a spNone .nil) ⟨n,none⟩):=by
   conv=>lhs;unfold allF
   rw [if_neg (by simp)]
  have eR:allR s f fuel (m+1) a n=match (rowR10 s fuel f a spNone n).1 with
    | []=>allR s f fuel m (a+1) (rowR10 s fuel f a spNone n).2
    | t::l=>if ovN fuel (rowR10 s fuel f a spNone n).2 then allR s f fuel m (a+1) (rowR10 s fuel f a spNone n).2
     else (spSet (bestS t l).2.1 0 a (bestS t l).1,true,(rowR10 s fuel f a spNone n).2):=by
   conv=>lhs;unfold allR
   rw [if_neg (by rw [hov,decide_eq_true_eq];omega)]
  rw [eF,eR]
  clear eF eR
  rcases Int.lt_or_le fuel ((n:Int)+tickE (evR s f a spNone .nil)) with h | h
  ·rw [if_pos (r2 h)]
   have h1:=hsay.no n (by rw [hov,decide_eq_false_iff_not];omega) (by rw [hov,decide_eq_true_eq];omega)
   rw [hov,decide_eq_true_eq] at h1
   dsimp only
   cases (rowR10 s fuel f a spNone n).1 with
   | nil=>dsimp only;rw [hup _ _ _ h1];exact h1
   | cons t l=>dsimp only;rw [if_pos (by rw [hov];exact decide_eq_true h1),hup _ _ _ h1];exact h1
  ·have hy:=hsay.yes n (by rw [hov,decide_eq_false_iff_not];omega)
   rw [r1 h,hy]
   have hno:overB fuel ⟨n+tickE (evR s f a spNone .nil),(foldK a (outsE (evR s f a spNone .nil)) ⟨n,none⟩).best⟩=false:=by
    unfold overB
    rw [decide_eq_false_iff_not]
    simp only []
    omega
   rw [if_neg (by rw [hno];decide)]
   have hlen:=evR_len (s:=s) (f:=f) (a:=a) (g:=spNone) (ws:=.nil)
   generalize tickE (evR s f a spNone .nil)=T at *
   generalize outsE (evR s f a spNone .nil)=L at *
   cases L with
   | nil =>
    dsimp only
    exact ih (a+1) (n+T) (by omega)
   | cons t l =>
    dsimp only
    rw [if_neg (by rw [hov,decide_eq_true_eq];omega)]
    have hb:(foldK a (t::l) ⟨n,none⟩).best=some (spSet (bestS t l).2.1 0 a (bestS t l).1,(bestS t l).2.2):=by
     show (foldK a l (allK a t.1 t.2.1 t.2.2 ⟨n,none⟩)).best=_
     unfold allK
     rw [if_pos (show allT ⟨n,none⟩ t.1 t.2.2=true from rfl)]
     exact fold_best a l t n (hlen t (by simp)) fun u hu=>hlen u (by simp [hu])
    have hall:allF s f fuel m (a+1) { foldK a (t::l) ⟨n,none⟩ with spent:=n+T }=some { foldK a (t::l) ⟨n,none⟩ with spent:=n+T }:=by
     cases m with
     | zero=>rfl
     | succ m=>unfold allF;rw [if_pos (by simp only [];rw [hb];rfl)]
    rw [hall]
    dsimp only
    rw [hb]
    exact ⟨by omega,rfl⟩
end Go.Proofs.YtnjagecmhdagkaaGreatDoor
namespace Go.Proofs.YtnjagecmhdagkaaGreatDoor
open Go.RowKit
def nodeR10 (s:List UInt8) (most:Int) (x:NdV) (k:Fr) (a:Nat) (g:Spn) (n:Nat):List St × Nat :=
 if x.kind=7 then (((rowR10 s most k a g n).1.map fun t=>(t.1,spSet t.2.1 x.n a t.1,.cons (t.1 - a) t.2.2 .nil)),(rowR10 s most k a g n).2)
 else if x.kind=8 then (((turnR most x (fun a g n=>rowR10 s most k a g n) (unsetV k) (fuelK s.length x a 0) 0 a g n).1.map fun t=>(t.1,t.2.1,.cons (t.1 - a) t.2.2 .nil)),(turnR most x (fun a g n=>rowR10 s most k a g n) (unsetV k) (fuelK s.length x a 0) 0 a g n).2)
 else match oneV x s a g with
  | none=>([],n+1)
  | some m=>([(a+m,g,.cons m .nil .nil)],n+1)
set_option maxRecDepth 3000 in
theorem rowR10_cons {s:List UInt8} {most:Int} {x:NdV} {k r:Fr} {a:Nat} {g:Spn} {n:Nat}:rowR10 s most (.cons x k r) a g n=if ovN most n then ([(a,g,.nil)],n) else eachR (fun e g2 n=>rowR10 s most r e g2 n) (fun t=>t.2.2) (nodeR10 s most x k a g n).1 (nodeR10 s most x k a g n).2:=by
 rw [rowR10]
 rfl
set_option maxRecDepth 3000 in
theorem each_mem {K:Nat→Spn→Nat→List St × Nat} {f:St→Wy}:∀ {l:List St} {n:Nat} {u:St},u ∈ (eachR K f l n).1→∃ t ∈ l,∃ (m:Nat) (v:St),v ∈ (K t.1 t.2.1 m).1∧u=(v.1,v.2.1,(f t).app v.2.2)
 | [],n,u,h=>by cases h
 | t::l,n,u,h=>by
  simp only [eachR,List.mem_append] at h
  rcases h with h | h
  ·simp only [addW,List.mem_map] at h
   obtain ⟨v,hv,rfl⟩:=h
   exact ⟨t,by simp,n,v,hv,rfl⟩
  ·obtain ⟨t2,h1,m,v,h2,h3⟩:=each_mem h
   exact ⟨t2,by simp [h1],m,v,h2,h3⟩
set_option maxRecDepth 3000 in
theorem Wy.len_app:∀ a b:Wy,(a.app b).len=a.len+b.len
 | .nil,b=>by simp [Wy.app,Wy.len]
 | .cons l k r,b=>by simp only [Wy.app,Wy.len,Wy.len_app r b];omega
def InS (n a m:Nat) (L:List St):Prop:=∀ t ∈ L,a≤t.1∧t.1≤n∧SpIn n t.2.1∧t.2.2.len≤m
set_option maxRecDepth 3000 in
theorem unset_inS {n:Nat}:∀ {f:Fr} {g:Spn},AllNd f→SpIn n g→SpIn n (unsetV f g):=by
 intro f
 induction f with
 | nil=>intro g _ h;exact h
 | cons x k r ihk ihr =>
  intro g hf h
  obtain ⟨hx,hk,hr⟩:=hf
  simp only [unsetV]
  refine ihr hr (ihk hk ?_)
  split
  ·rename_i h7
   exact h.set hx.n (by omega) (by omega) (by omega)
  ·exact h
set_option maxRecDepth 3000 in
theorem turn_in {n:Nat} {most:Int} {x:NdV} {R:Nat→Spn→Nat→List St × Nat} {U:Spn→Spn} {M:Nat} (hR:∀ a g m,a≤n→SpIn n g→InS n a M (R a g m).1) (hU:∀ g,SpIn n g→SpIn n (U g)):∀ (F d a:Nat) (g:Spn) (m:Nat),a≤n→SpIn n g→InS n a F (turnR most x R U F d a g m).1:=by
 intro F
 induction F with
 | zero=>intro d a g m _ _ t ht;cases ht
 | succ F ih =>
  intro d a g m ha hg t ht
  have hself:∀ t,t ∈ (if x.mn≤d then [(a,g,Wy.nil)] else [])→a≤t.1∧t.1≤n∧SpIn n t.2.1∧t.2.2.len≤F+1:=fun t ht=>by
   split at ht
   ·rw [List.mem_singleton] at ht;subst ht;exact ⟨Nat.le_refl _,ha,hg,Nat.zero_le _⟩
   ·cases ht
  unfold turnR at ht
  split at ht
  ·exact hself t ht
  ·rcases List.mem_append.1 ht with ht | ht
   ·exact hself t ht
   ·obtain ⟨t2,h1,m2,v,h2,rfl⟩:=each_mem ht
    obtain ⟨q1,q2,q3,_⟩:=hR a (U g) m ha (hU g hg) t2 ((List.mem_filter.1 h1).1)
    obtain ⟨p1,p2,p3,p4⟩:=ih (d+1) t2.1 t2.2.1 m2 q2 q3 v h2
    exact ⟨by dsimp only;omega,p2,p3,by dsimp only;simp only [Wy.app,Wy.len];omega⟩
set_option maxRecDepth 3000 in
theorem row_in {s:List UInt8} {most:Int}:∀ (f:Fr) (a:Nat) (g:Spn) (m:Nat),AllNd f→a≤s.length→SpIn s.length g→InS s.length a f.len (rowR10 s most f a g m).1:=by
 intro f
 induction f with
 | nil=>intro a g m _ ha hg t ht;simp only [rowR10,List.mem_singleton] at ht;subst ht;exact ⟨Nat.le_refl _,ha,hg,Nat.zero_le _⟩
 | cons x k r ihk ihr =>
  intro a g m hf ha hg t ht
  obtain ⟨hx,hk,hr⟩:=hf
  rw [rowR10_cons] at ht
  split at ht
  ·rw [List.mem_singleton] at ht;subst ht;exact ⟨Nat.le_refl _,ha,hg,Nat.zero_le _⟩
  ·obtain ⟨t2,h1,m2,v,h2,rfl⟩:=each_mem ht
   have hn:a≤t2.1∧t2.1≤s.length∧SpIn s.length t2.2.1∧t2.2.2.len≤1:=by
    unfold nodeR10 at h1
    split at h1
    ·rename_i h7
     rw [List.mem_map] at h1
     obtain ⟨u,hu,rfl⟩:=h1
     obtain ⟨q1,q2,q3,_⟩:=ihk a g m hk ha hg u hu
     exact ⟨q1,q2,q3.set hx.n (by omega) (by omega) (by omega),by simp [Wy.len]⟩
    ·split at h1
     ·rw [List.mem_map] at h1
      obtain ⟨u,hu,rfl⟩:=h1
      obtain ⟨q1,q2,q3,_⟩:=turn_in (M:=k.len) (fun a g m ha hg=>ihk a g m hk ha hg) (fun g hg=>unset_inS hk hg) _ _ a g m ha hg u hu
      exact ⟨q1,q2,q3,by simp [Wy.len]⟩
     ·split at h1
      ·cases h1
      ·rename_i j hj
       rw [List.mem_singleton] at h1
       subst h1
       exact ⟨by dsimp only;omega,oneV_le hj ha,hg,by simp [Wy.len]⟩
   obtain ⟨q1,q2,q3,q4⟩:=hn
   obtain ⟨p1,p2,p3,p4⟩:=ihr t2.1 t2.2.1 m2 hr q2 q3 v h2
   exact ⟨by dsimp only;omega,p2,p3,by dsimp only;rw [Wy.len_app];simp only [Fr.len];omega⟩
def awayS (a:Nat) (L:List St):List St:=L.filter fun t=>!decide (t.1=a)
set_option maxRecDepth 3000 in
theorem away_app (a:Nat) (L M:List St):awayS a (L++M)=awayS a L++awayS a M:=by simp [awayS]
set_option maxRecDepth 3000 in
theorem away_le (a:Nat) (L:List St):(awayS a L).length≤L.length:=List.length_filter_le _ _
def CntS (a n:Nat) (R:List St × Nat):Prop:=R.1.length+n≤1+R.2∧(awayS a R.1).length+n≤R.2
set_option maxRecDepth 3000 in
theorem away_addW (a:Nat) (w:Wy) (L:List St):(awayS a (addW w L)).length=(awayS a L).length:=by
 induction L with
 | nil=>rfl
 | cons t L ih =>
  simp only [addW,List.map_cons,awayS,List.filter_cons] at ih ⊢
  split
  ·simp only [List.length_cons];omega
  ·exact ih
set_option maxRecDepth 3000 in
theorem away_map (a:Nat) (φ:St→St) (hφ:∀ t,(φ t).1=t.1) (L:List St):(awayS a (L.map φ)).length=(awayS a L).length:=by
 induction L with
 | nil=>rfl
 | cons t L ih =>
  simp only [List.map_cons,awayS,List.filter_cons,hφ] at ih ⊢
  split
  ·simp only [List.length_cons];omega
  ·exact ih
set_option maxRecDepth 3000 in
theorem each_cnt {K:Nat→Spn→Nat→List St × Nat} {f:St→Wy} (hK:∀ a g n,CntS a n (K a g n)) (a:Nat):∀ (l:List St) (n:Nat),(eachR K f l n).1.length+n≤l.length+(eachR K f l n).2∧(awayS a (eachR K f l n).1).length+n≤(awayS a l).length+(eachR K f l n).2
 | [],n=>by simp [eachR,awayS]
 | t::l,n=>by
  obtain ⟨h1,h2⟩:=hK t.1 t.2.1 n
  obtain ⟨r1,r2⟩:=each_cnt (f:=f) hK a l (K t.1 t.2.1 n).2
  simp only [eachR,List.length_append,away_app,away_addW]
  have e1:(addW (f t) (K t.1 t.2.1 n).1).length=(K t.1 t.2.1 n).1.length:=by simp [addW]
  rw [e1]
  refine ⟨by simp only [List.length_cons];omega,?_⟩
  by_cases ht:t.1=a
  ·rw [ht] at h2 r2 ⊢
   have e2:awayS a (t::l)=awayS a l:=by simp [awayS,ht]
   rw [e2]
   omega
  ·have e2:awayS a (t::l)=t::awayS a l:=by simp [awayS,ht]
   rw [e2,List.length_cons]
   have:=away_le a (K t.1 t.2.1 n).1
   omega
set_option maxRecDepth 3000 in
theorem turn_cnt {most:Int} {x:NdV} {R:Nat→Spn→Nat→List St × Nat} {U:Spn→Spn} (hR:∀ a g n,CntS a n (R a g n)):∀ (F d a:Nat) (g:Spn) (n:Nat),CntS a n (turnR most x R U F d a g n):=by
 intro F
 induction F with
 | zero=>intro d a g n;simp [CntS,turnR,awayS]
 | succ F ih =>
  intro d a g n
  unfold turnR
  by_cases hd:x.mn≤d
  ·rw [if_pos hd]
   split
   ·simp [CntS,awayS];try omega
   ·obtain ⟨h1,h2⟩:=hR a (U g) n
    have ef:((R a (U g) n).1.filter fun t=>!(decide (x.mn≤d) && decide (t.1=a)))=awayS a (R a (U g) n).1:=by simp [awayS,hd]
    rw [ef]
    obtain ⟨r1,r2⟩:=each_cnt (f:=fun t=>Wy.cons (t.1 - a) t.2.2 .nil) (fun e g2 n=>ih (d+1) e g2 n) a (awayS a (R a (U g) n).1) (R a (U g) n).2
    unfold CntS
    simp only [away_app,List.length_append]
    have e3:awayS a [(a,g,Wy.nil)]=[]:=by simp [awayS]
    rw [e3]
    have:=away_le a (eachR (fun e g2 n=>turnR most x R U F (d+1) e g2 n) (fun t=>Wy.cons (t.1 - a) t.2.2 .nil) (awayS a (R a (U g) n).1) (R a (U g) n).2).1
    simp only [List.length_cons,List.length_nil]
    omega
  ·rw [if_neg hd]
   split
   ·simp [CntS,awayS]
   ·obtain ⟨h1,h2⟩:=hR a (U g) n
    have ef:((R a (U g) n).1.filter fun t=>!(decide (x.mn≤d) && decide (t.1=a)))=(R a (U g) n).1:=by simp [hd]
    rw [ef]
    obtain ⟨r1,r2⟩:=each_cnt (f:=fun t=>Wy.cons (t.1 - a) t.2.2 .nil) (fun e g2 n=>ih (d+1) e g2 n) a (R a (U g) n).1 (R a (U g) n).2
    unfold CntS
    simp only [List.nil_append]
    omega
set_option maxRecDepth 3000 in
theorem row_cnt {s:List UInt8} {most:Int}:∀ (f:Fr) (a:Nat) (g:Spn) (n:Nat),CntS a n (rowR10 s most f a g n):=by
 intro f
 induction f with
 | nil=>intro a g n;simp [CntS,rowR10,awayS];try omega
 | cons x k r ihk ihr =>
  intro a g n
  rw [rowR10_cons]
  split
  ·simp [CntS,awayS];try omega
  ·have hn:CntS a n (nodeR10 s most x k a g n):=by
    unfold nodeR10
    split
    ·obtain ⟨h1,h2⟩:=ihk a g n
     exact ⟨by simpa using h1,by have:=away_map a (fun t:St=>(t.1,spSet t.2.1 x.n a t.1,Wy.cons (t.1 - a) t.2.2 .nil)) (fun t=>rfl) (rowR10 s most k a g n).1;dsimp only at this ⊢;omega⟩
    ·split
     ·obtain ⟨h1,h2⟩:=turn_cnt (most:=most) (x:=x) (U:=unsetV k) (R:=fun a g n=>rowR10 s most k a g n) (fun a g n=>ihk a g n) (fuelK s.length x a 0) 0 a g n
      exact ⟨by simpa using h1,by have:=away_map a (fun t:St=>(t.1,t.2.1,Wy.cons (t.1 - a) t.2.2 .nil)) (fun t=>rfl) (turnR most x (fun a g n=>rowR10 s most k a g n) (unsetV k) (fuelK s.length x a 0) 0 a g n).1;dsimp only at this ⊢;omega⟩
     ·split
      ·simp [CntS,awayS];try omega
      ·rename_i j hj
       have:=away_le a [(a+j,g,Wy.cons j .nil .nil)]
       unfold CntS
       simp only [List.length_cons,List.length_nil] at this ⊢
       omega
   obtain ⟨h1,h2⟩:=hn
   obtain ⟨r1,r2⟩:=each_cnt (f:=fun t=>t.2.2) (K:=fun e g2 n=>rowR10 s most r e g2 n) (fun e g2 n=>ihr e g2 n) a (nodeR10 s most x k a g n).1 (nodeR10 s most x k a g n).2
   unfold CntS
   omega
set_option maxRecDepth 3000 in
theorem each_top {B:Nat} {K:Nat→Spn→Nat→List St × Nat} {f:St→Wy} (hK:∀ a g n,n≤B→(K a g n).2≤B):∀ (l:List St) (n:Nat),n≤B→(eachR K f l n).2≤B
 | [],n,h=>h
 | t::l,n,h=>each_top hK l _ (hK _ _ _ h)
set_option maxRecDepth 3000 in
theorem turn_top {B:Nat} {most:Int} {x:NdV} {R:Nat→Spn→Nat→List St × Nat} {U:Spn→Spn} (hR:∀ a g n,n≤B→(R a g n).2≤B):∀ (F d a:Nat) (g:Spn) (n:Nat),n≤B→(turnR most x R U F d a g n).2≤B:=by
 intro F
 induction F with
 | zero=>intro d a g n h;exact h
 | succ F ih =>
  intro d a g n h
  unfold turnR
  split
  ·exact h
  ·exact each_top (fun e g2 n=>ih (d+1) e g2 n) _ _ (hR _ _ _ h)
set_option maxRecDepth 3000 in
theorem row_top {s:List UInt8} {most:Int} {B:Nat} (hB:∀ n,ovN most n=false→n+1≤B):∀ (f:Fr) (a:Nat) (g:Spn) (n:Nat),n≤B→(rowR10 s most f a g n).2≤B:=by
 intro f
 induction f with
 | nil=>intro a g n h;exact h
 | cons x k r ihk ihr =>
  intro a g n h
  rw [rowR10_cons]
  split
  ·exact h
  ·rename_i ho
   have ho2:n+1≤B:=hB n (by simpa using ho)
   have hn:(nodeR10 s most x k a g n).2≤B:=by
    unfold nodeR10
    split
    ·exact ihk a g n h
    ·split
     ·exact turn_top (fun a g n h=>ihk a g n h) _ _ _ _ _ h
     ·split <;> exact ho2
   exact each_top (fun e g2 n h=>ihr e g2 n h) _ _ hn
set_option maxRecDepth 3000 in
theorem each_app {K:Nat→Spn→Nat→List St × Nat} {f:St→Wy}:∀ (l m:List St) (n:Nat),eachR K f (l++m) n=((eachR K f l n).1++(eachR K f m (eachR K f l n).2).1,(eachR K f m (eachR K f l n).2).2)
 | [],m,n=>rfl
 | t::l,m,n=>by simp only [List.cons_append,eachR,each_app l m,List.append_assoc]
end Go.Proofs.YtnjagecmhdagkaaGreatDoor
