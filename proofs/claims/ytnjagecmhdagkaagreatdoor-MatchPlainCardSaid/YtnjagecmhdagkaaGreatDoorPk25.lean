/-
 Several texts of the proof: MatP, Bits, MatW.
-/
import Derived.Test.YtnjagecmhdagkaaGreatDoorPk07
import Derived.Lib.TrailingZeros
import Derived.Test.YtnjagecmhdagkaaGreatDoorPk00
import Derived.Test.YtnjagecmhdagkaaGreatDoorPk08
import Derived.Test.YtnjagecmhdagkaaGreatDoorPk09
import Derived.Deep.LoopGhost
import Derived.Shelf.Spec.TrailingZeros
import Derived.Laws.Bits64b
set_option linter.unusedSimpArgs false
set_option linter.unusedVariables false
set_option maxRecDepth 3000
/-
  Matches in plain words: where nodes may end, and which stretches groups have.
-/
namespace Go.Proofs.YtnjagecmhdagkaaGreatDoor
abbrev Pl:=Nat→Bool
def one1 (a:Nat):Pl:=fun j=>decide (j=a)
def anyTo (n:Nat) (f:Nat→Bool):Bool:=(List.range (n+1)).any f
theorem anyTo_iff {n:Nat} {f:Nat→Bool}:anyTo n f=true ↔ ∃ i,i≤n∧f i=true:=by
 unfold anyTo
 rw [List.any_eq_true]
 constructor
 ·rintro ⟨i,h1,h2⟩
  rw [List.mem_range] at h1
  exact ⟨i,by omega,h2⟩
 ·rintro ⟨i,h1,h2⟩
  exact ⟨i,by rw [List.mem_range];omega,h2⟩
def stepS (n:Nat) (E:Nat→Pl) (P:Pl):Pl:=fun j=>anyTo n fun i=>P i && E i j
theorem stepS_iff {n:Nat} {E:Nat→Pl} {P:Pl} {j:Nat}:stepS n E P j=true ↔ ∃ i,i≤n∧P i=true∧E i j=true:=by
 unfold stepS
 rw [anyTo_iff]
 simp only [Bool.and_eq_true]
abbrev Spn:=List Int
def spZero:Spn:=List.replicate 20 0
def spNone:Spn:=List.replicate 20 (-1)
def spA (g:Spn) (k:Nat):Int:=g.getD (2*k) 0
def spB (g:Spn) (k:Nat):Int:=g.getD (2*k+1) 0
def spSet (g:Spn) (k:Nat) (a b:Int):Spn:=(g.set (2*k) a).set (2*k+1) b
theorem spSet_len (g:Spn) (k:Nat) (a b:Int):(spSet g k a b).length=g.length:=by simp [spSet]
def ch (s:List UInt8) (k:Nat):Nat:=(s.getD k 0).toNat
def oneV (x:NdV) (s:List UInt8) (a:Nat) (g:Spn):Option Nat :=
 if x.kind=4 then (if a=0 then some 0 else none)
 else if x.kind=5 then (if a=s.length then some 0 else none)
 else if x.kind=6 then
  (if 0≤spA g x.n∧spB g x.n - spA g x.n≤(s.length:Int) - a∧(s.drop (spA g x.n).toNat).take (spB g x.n - spA g x.n).toNat=(s.drop a).take (spB g x.n - spA g x.n).toNat then some (spB g x.n - spA g x.n).toNat else none)
 else if a < s.length∧(x.kind=2∨(x.kind=3∧x.set (ch s a)=true)∨(x.kind=1∧x.byte=ch s a)) then some 1 else none
theorem oneV_le {x:NdV} {s:List UInt8} {a k:Nat} {g:Spn} (h:oneV x s a g=some k) (ha:a≤s.length):a+k≤s.length:=by
 unfold oneV at h
 split at h
 ·split at h
  ·injection h with h;omega
  ·cases h
 ·split at h
  ·split at h
   ·injection h with h;omega
   ·cases h
  ·split at h
   ·split at h
    ·injection h with h;omega
    ·cases h
   ·split at h
    ·injection h with h;omega
    ·cases h
def capD (x:NdV) (d:Nat):Nat:=if x.mx < 0 then min d x.mn else d
theorem capD_cap (x:NdV) (d:Nat):capD x (capD x d)=capD x d:=by
 unfold capD
 split <;> omega
def moreD (x:NdV) (d:Nat):Bool:=decide (x.mx < 0) || decide ((d:Int) < x.mx)
def turnsF (n:Nat) (x:NdV) (R:Nat→Pl):Nat→Nat→Nat→Pl
 | 0,_,_=>fun _=>false
 | f+1,a,d=>fun j=>(decide (x.mn≤capD x d) && decide (j=a)) || (moreD x (capD x d) && anyTo n fun i=>R a i && (decide (a < i) || decide (capD x d < x.mn)) && turnsF n x R f i (capD x d+1) j)
def fuelT (n:Nat) (x:NdV) (a d:Nat):Nat:=(n - a)+(if x.mx < 0 then x.mn - capD x d else x.mx.toNat - capD x d)+1
def turnsS (n:Nat) (x:NdV) (R:Nat→Pl) (a d:Nat):Pl:=turnsF n x R (fuelT n x a d) a d
def Rises (n:Nat) (R:Nat→Pl):Prop:=∀ a i,a≤n→R a i=true→a≤i∧i≤n
theorem fuel_next {n:Nat} {x:NdV} {a i d:Nat} (hm:moreD x (capD x d)=true) (hi:a < i∨(a=i∧capD x d < x.mn)) (hin:i≤n):fuelT n x i (capD x d+1) < fuelT n x a d:=by
 unfold moreD at hm
 simp only [Bool.or_eq_true,decide_eq_true_eq] at hm
 unfold fuelT
 by_cases h:x.mx < 0
 ·rw [if_pos h,if_pos h]
  have e:capD x (capD x d+1)=min (capD x d+1) x.mn:=by unfold capD;rw [if_pos h,if_pos h]
  have e2:capD x d≤x.mn:=by unfold capD;rw [if_pos h];omega
  rw [e]
  omega
 ·rw [if_neg h,if_neg h]
  have h2:=hm.resolve_left h
  have e:capD x (capD x d+1)=capD x d+1:=by unfold capD;rw [if_neg h,if_neg h]
  rw [e]
  omega
theorem turnsF_fuel {n:Nat} {x:NdV} {R:Nat→Pl} (hR:Rises n R):∀ (f g a d:Nat),a≤n→fuelT n x a d≤f→fuelT n x a d≤g→turnsF n x R f a d=turnsF n x R g a d:=by
 intro f
 induction f with
 | zero=>intro g a d ha h;unfold fuelT at h;omega
 | succ f ih =>
  intro g a d ha h1 h2
  cases g with
  | zero=>unfold fuelT at h2;omega
  | succ g =>
   funext j
   unfold turnsF
   congr 1
   cases hm:moreD x (capD x d) with
   | false=>rfl
   | true =>
    simp only [Bool.true_and]
    rw [Bool.eq_iff_iff,anyTo_iff,anyTo_iff]
    refine exists_congr fun i=>and_congr_right fun hin=>?_
    simp only [Bool.and_eq_true,Bool.or_eq_true,decide_eq_true_eq]
    refine and_congr_right fun ⟨h3,h4⟩=>?_
    obtain ⟨h5,h6⟩:=hR a i ha h3
    have hl:=fuel_next (x:=x) (d:=d) hm (by rcases h4 with h4 | h4;exact .inl h4;by_cases e:a=i;exact .inr ⟨e,h4⟩;exact .inl (by omega)) h6
    rw [ih g i (capD x d+1) h6 (by omega) (by omega)]
theorem turnsS_eq {n:Nat} {x:NdV} {R:Nat→Pl} (hR:Rises n R) {a d:Nat} (ha:a≤n) (j:Nat):turnsS n x R a d j =
  ((decide (x.mn≤capD x d) && decide (j=a)) || (moreD x (capD x d) && anyTo n fun i=>R a i && (decide (a < i) || decide (capD x d < x.mn)) && turnsS n x R i (capD x d+1) j)):=by
 have e:∃ f,fuelT n x a d=f+1:=⟨_,rfl⟩
 obtain ⟨f,e⟩:=e
 unfold turnsS
 rw [e]
 conv=>lhs;unfold turnsF
 congr 1
 cases hm:moreD x (capD x d) with
 | false=>rfl
 | true =>
  simp only [Bool.true_and]
  rw [Bool.eq_iff_iff,anyTo_iff,anyTo_iff]
  refine exists_congr fun i=>and_congr_right fun hin=>?_
  simp only [Bool.and_eq_true,Bool.or_eq_true,decide_eq_true_eq]
  refine and_congr_right fun ⟨h3,h4⟩=>?_
  obtain ⟨h5,h6⟩:=hR a i ha h3
  have hl:=fuel_next (x:=x) (d:=d) hm (by rcases h4 with h4 | h4;exact .inl h4;by_cases e:a=i;exact .inr ⟨e,h4⟩;exact .inl (by omega)) h6
  rw [turnsF_fuel hR f _ i (capD x d+1) h6 (by omega) (Nat.le_refl _)]
theorem turnsS_cap (n:Nat) (x:NdV) (R:Nat→Pl) (a d:Nat):turnsS n x R a (capD x d)=turnsS n x R a d:=by
 unfold turnsS
 have e:fuelT n x a (capD x d)=fuelT n x a d:=by unfold fuelT;rw [capD_cap]
 rw [e]
 obtain ⟨f,hf⟩:∃ f,fuelT n x a d=f+1:=⟨_,rfl⟩
 rw [hf]
 funext j
 unfold turnsF
 rw [capD_cap]
theorem turnsS_rises {n:Nat} {x:NdV} {R:Nat→Pl} (hR:Rises n R):∀ (f a d j:Nat),a≤n→turnsF n x R f a d j=true→a≤j∧j≤n:=by
 intro f
 induction f with
 | zero=>intro a d j _ h;cases h
 | succ f ih =>
  intro a d j ha h
  unfold turnsF at h
  simp only [Bool.or_eq_true,Bool.and_eq_true,decide_eq_true_eq] at h
  rcases h with ⟨_,rfl⟩ | ⟨_,h⟩
  ·exact ⟨Nat.le_refl _,ha⟩
  ·rw [anyTo_iff] at h
   obtain ⟨i,_,h⟩:=h
   simp only [Bool.and_eq_true] at h
   obtain ⟨h1,h2⟩:=hR a i ha h.1.1
   obtain ⟨h3,h4⟩:=ih i _ j h2 h.2
   exact ⟨by omega,h4⟩
def nodeS (s:List UInt8) (x:NdV) (R:Nat→Pl) (a:Nat):Pl :=
 if x.kind=7 then R a
 else if x.kind=8 then turnsS s.length x R a 0
 else match oneV x s a spZero with
  | none=>fun _=>false
  | some k=>one1 (a+k)
def endsR (s:List UInt8):Fr→Pl→Pl
 | .nil,P=>P
 | .cons x k r,P=>endsR s r (stepS s.length (nodeS s x fun a=>endsR s k (one1 a)) P)
def endsF (s:List UInt8) (l:Fr) (a:Nat):Pl:=endsR s l (one1 a)
theorem nodeS_rises {s:List UInt8} {x:NdV} {R:Nat→Pl} (hR:Rises s.length R):Rises s.length (nodeS s x R):=by
 intro a i ha h
 unfold nodeS at h
 split at h
 ·exact hR a i ha h
 ·split at h
  ·exact turnsS_rises hR _ a 0 i ha h
  ·cases hk:oneV x s a spZero with
   | none=>rw [hk] at h;cases h
   | some k =>
    rw [hk] at h
    have e:i=a+k:=by simpa [one1] using h
    subst e
    exact ⟨by omega,oneV_le hk ha⟩
theorem one1_iff {a i:Nat}:one1 a i=true ↔ i=a:=by simp [one1]
theorem endsR_low {s:List UInt8}:∀ (l:Fr) (P:Pl) (b:Nat),(∀ i,P i=true→b≤i∧i≤s.length)→∀ i,endsR s l P i=true→b≤i∧i≤s.length:=by
 intro l
 induction l with
 | nil=>intro P b hP i h;exact hP i h
 | cons x k r ihk ihr =>
  intro P b hP i h
  unfold endsR at h
  refine ihr _ b (fun j hj=>?_) i h
  rw [stepS_iff] at hj
  obtain ⟨a,ha,h1,h2⟩:=hj
  have hk:Rises s.length (fun a=>endsR s k (one1 a)):=fun c i hc h=>ihk (one1 c) c (fun i hi=>by rw [one1_iff] at hi;omega) i h
  have h3:=nodeS_rises hk a j ha h2
  have:=(hP a h1).1
  omega
theorem endsR_rises (s:List UInt8) (l:Fr):Rises s.length (fun a=>endsR s l (one1 a)):=fun a i ha h=>endsR_low l (one1 a) a (fun i hi=>by rw [one1_iff] at hi;omega) i h
theorem endsR_iff {s:List UInt8}:∀ (l:Fr) (P:Pl),(∀ i,P i=true→i≤s.length)→∀ j,endsR s l P j=true ↔ ∃ i,i≤s.length∧P i=true∧endsR s l (one1 i) j=true:=by
 intro l
 induction l with
 | nil =>
  intro P hP j
  unfold endsR
  constructor
  ·intro h;exact ⟨j,hP j h,h,by simp [one1]⟩
  ·rintro ⟨i,_,h1,h2⟩
   have e:j=i:=by simpa [one1] using h2
   rw [e];exact h1
 | cons x k r _ ih =>
  intro P hP j
  have hb:∀ (Q:Pl) (i:Nat),stepS s.length (nodeS s x fun a=>endsR s k (one1 a)) Q i=true→i≤s.length:=by
   intro Q i h
   rw [stepS_iff] at h
   obtain ⟨a,ha,_,h2⟩:=h
   exact (nodeS_rises (endsR_rises s k) a i ha h2).2
  unfold endsR
  rw [ih _ (hb P)]
  constructor
  ·rintro ⟨i,h1,h2,h3⟩
   rw [stepS_iff] at h2
   obtain ⟨a,ha,h4,h5⟩:=h2
   refine ⟨a,ha,h4,?_⟩
   rw [ih _ (hb _)]
   exact ⟨i,h1,by rw [stepS_iff];exact ⟨a,ha,by simp [one1],h5⟩,h3⟩
  ·rintro ⟨a,ha,h4,h⟩
   rw [ih _ (hb _)] at h
   obtain ⟨i,h1,h2,h3⟩:=h
   rw [stepS_iff] at h2
   obtain ⟨a2,_,h6,h5⟩:=h2
   have e:a2=a:=by simpa [one1] using h6
   subst e
   exact ⟨i,h1,by rw [stepS_iff];exact ⟨a2,ha,h4,h5⟩,h3⟩
theorem endsF_rises (s:List UInt8) (l:Fr):Rises s.length (endsF s l):=endsR_rises s l
theorem endsF_cons {s:List UInt8} {x:NdV} {k r:Fr} {a j:Nat} (ha:a≤s.length):endsF s (.cons x k r) a j=true ↔ ∃ i,i≤s.length∧nodeS s x (endsF s k) a i=true∧endsF s r i j=true:=by
 unfold endsF
 rw [endsR.eq_def]
 simp only []
 have hb:∀ i,stepS s.length (nodeS s x fun a=>endsR s k (one1 a)) (one1 a) i=true→i≤s.length:=by
  intro i h
  rw [stepS_iff] at h
  obtain ⟨b,hb,_,h2⟩:=h
  exact (nodeS_rises (endsF_rises s k) b i hb h2).2
 rw [endsR_iff r _ hb]
 refine exists_congr fun i=>and_congr_right fun hi=>?_
 rw [stepS_iff]
 constructor
 ·rintro ⟨⟨b,_,h1,h2⟩,h3⟩
  have e:b=a:=by simpa [one1] using h1
  subst e
  exact ⟨h2,h3⟩
 ·rintro ⟨h2,h3⟩
  exact ⟨⟨a,ha,by simp [one1],h2⟩,h3⟩
def longF (p on:Nat→Bool) (a:Nat):Nat→Nat
 | 0=>a
 | e+1=>if e+1≤a then a else if p (e+1) && on (e+1) then e+1 else longF p on a e
theorem longF_spec (p on:Nat→Bool) (a:Nat):∀ e,(∃ i,a≤i∧i≤e∧p i=true∧on i=true)→p (longF p on a e)=true∧on (longF p on a e)=true∧a≤longF p on a e∧longF p on a e≤e∧∀ i,i≤e→p i=true→on i=true→i≤longF p on a e∨i < a:=by
 intro e
 induction e with
 | zero =>
  rintro ⟨i,h1,h2,h3,h4⟩
  obtain rfl:i=0:=by omega
  obtain rfl:a=0:=by omega
  exact ⟨h3,h4,Nat.le_refl _,Nat.le_refl _,fun i h _ _=>.inl h⟩
 | succ e ih =>
  rintro ⟨i,h1,h2,h3,h4⟩
  unfold longF
  split
  ·rename_i hle
   obtain rfl:i=a:=by omega
   exact ⟨h3,h4,Nat.le_refl _,h2,fun j hj _ _=>by omega⟩
  ·rename_i hle
   split
   ·rename_i hp
    rw [Bool.and_eq_true] at hp
    exact ⟨hp.1,hp.2,by omega,Nat.le_refl _,fun j hj _ _=>.inl hj⟩
   ·rename_i hp
    have hie:i≠e+1:=by
     rintro rfl
     rw [h3,h4] at hp
     exact hp rfl
    obtain ⟨r1,r2,r3,r4,r5⟩:=ih ⟨i,h1,by omega,h3,h4⟩
    refine ⟨r1,r2,r3,by omega,fun j hj h5 h6=>?_⟩
    by_cases e2:j=e+1
    ·subst e2
     rw [h5,h6] at hp
     exact absurd rfl hp
    ·exact r5 j (by omega) h5 h6
def unsetV:Fr→Spn→Spn
 | .nil,g=>g
 | .cons x k r,g=>unsetV r (unsetV k (if x.kind=7 then spSet g x.n (-1) (-1) else g))
def turnLoop (n:Nat) (x:NdV) (R:Nat→Pl) (G:Nat→Nat→Spn→Spn) (U:Spn→Spn):Nat→Nat→Nat→Nat→Spn→Spn
 | 0,_,_,_,g=>g
 | f+1,a,e,d,g=>if a < e∨d < x.mn then turnLoop n x R G U f (longF (R a) (fun q=>turnsS n x R q (d+1) e) a e) e (d+1) (G a (longF (R a) (fun q=>turnsS n x R q (d+1) e) a e) (U g)) else g
def withinV (s:List UInt8) (x:NdV) (k:Fr) (G:Nat→Nat→Spn→Spn) (a e:Nat) (g:Spn):Spn :=
 if x.kind=7 then spSet (G a e g) x.n a e
 else if x.kind=8 then turnLoop s.length x (endsF s k) G (unsetV k) ((e - a)+x.mn+1) a e 0 g
 else g
def giveV (s:List UInt8):Fr→Nat→Nat→Spn→Spn
 | .nil,_,_,g=>g
 | .cons x k r,a,e,g=>giveV s r (longF (nodeS s x (endsF s k) a) (fun q=>endsF s r q e) a e) e (withinV s x k (giveV s k) a (longF (nodeS s x (endsF s k) a) (fun q=>endsF s r q e) a e) g)
def maxOf (P:Pl):Nat→Option Nat
 | 0=>if P 0 then some 0 else none
 | n+1=>if P (n+1) then some (n+1) else maxOf P n
def plainV (s:List UInt8) (l:Fr):Nat→Nat→Option Spn
 | 0,_=>none
 | m+1,a=>match maxOf (endsF s l a) s.length with
  | some e=>some (spSet (giveV s l a e spNone) 0 a e)
  | none=>plainV s l m (a+1)
end Go.Proofs.YtnjagecmhdagkaaGreatDoor
namespace Go.Proofs.YtnjagecmhdagkaaGreatDoor
def wordF (P:Pl) (o:Nat):Nat→Nat
 | 0=>0
 | k+1=>2 ^ k*(if P (o+k) then 1 else 0)+wordF P o k
theorem wordF_lt (P:Pl) (o:Nat):∀ k,wordF P o k < 2 ^ k
 | 0=>by simp [wordF]
 | k+1=>by
  have:=wordF_lt P o k
  unfold wordF
  rw [Nat.pow_succ]
  split <;> omega
theorem wordF_bit (P:Pl) (o:Nat):∀ k i,(wordF P o k).testBit i=(decide (i < k) && P (o+i))
 | 0,i=>by simp [wordF]
 | k+1,i=>by
  have ih:=wordF_bit P o k i
  have hl:=wordF_lt P o k
  unfold wordF
  rw [Nat.testBit_two_pow_mul_add _ hl]
  by_cases h:i < k
  ·rw [if_pos h,ih]
   simp [h,Nat.lt_succ_of_lt h]
  ·rw [if_neg h]
   by_cases h2:i=k
   ·subst h2
    rw [Nat.sub_self]
    cases P (o+i) <;> simp
   ·have h3:¬ i < k+1:=by omega
    have h4:i - k≠0:=by omega
    obtain ⟨d,hd⟩:∃ d,i - k=d+1:=⟨i - k - 1,by omega⟩
    rw [hd,decide_eq_false h3,Bool.false_and]
    cases P (o+k) <;> simp [Nat.testBit_succ]
def wordN (P:Pl) (j:Nat):Nat:=wordF P (64*j) 64
theorem wordN_lt (P:Pl) (j:Nat):wordN P j < 18446744073709551616:=wordF_lt P (64*j) 64
theorem wordN_bit (P:Pl) (j i:Nat):(wordN P j).testBit i=(decide (i < 64) && P (64*j+i)):=wordF_bit P _ 64 i
theorem wordN_ext {x:Nat} {P:Pl} {j:Nat} (h:∀ i,x.testBit i=(decide (i < 64) && P (64*j+i))):x=wordN P j :=
 Nat.eq_of_testBit_eq fun i=>by rw [h,wordN_bit]
theorem wordN_congr {P Q:Pl} {j:Nat} (h:∀ i,i < 64→P (64*j+i)=Q (64*j+i)):wordN P j=wordN Q j :=
 wordN_ext fun i=>by
  rw [wordN_bit]
  by_cases hi:i < 64
  ·rw [h i hi]
  ·simp [hi]
def orP (P Q:Pl):Pl:=fun i=>P i || Q i
def addP (P:Pl) (a:Nat):Pl:=fun i=>P i || decide (i=a)
theorem word_or (P Q:Pl) (j:Nat):wordN P j ||| wordN Q j=wordN (orP P Q) j :=
 wordN_ext fun i=>by
  rw [Nat.testBit_or,wordN_bit,wordN_bit]
  unfold orP
  cases decide (i < 64) <;> rfl
theorem word_add (P:Pl) (a:Nat):wordN P (a / 64) ||| 2 ^ (a % 64)=wordN (addP P a) (a / 64) :=
 wordN_ext fun i=>by
  rw [Nat.testBit_or,wordN_bit,Nat.testBit_two_pow]
  unfold addP
  by_cases hi:i < 64
  ·rw [decide_eq_true hi,Bool.true_and,Bool.true_and]
   congr 1
   rw [decide_eq_decide]
   omega
  ·have h2:¬ a % 64=i:=by omega
   rw [decide_eq_false hi,decide_eq_false h2]
   rfl
theorem word_add_ne (P:Pl) (a:Nat) {j:Nat} (h:j≠a / 64):wordN (addP P a) j=wordN P j :=
 wordN_congr fun i hi=>by
  unfold addP
  have h2:¬ 64*j+i=a:=by omega
  rw [decide_eq_false h2,Bool.or_false]
theorem word_none (j:Nat):wordN (fun _=>false) j=0:=by
 refine (wordN_ext (P:=fun _=>false) (j:=j) (x:=0) fun i=>?_).symm
 simp
theorem word_has (P:Pl) (a:Nat):(wordN P (a / 64) >>> (a % 64)) &&& 1=if P a then 1 else 0:=by
 have h:=wordN_bit P (a / 64) (a % 64)
 have hlt:a % 64 < 64:=Nat.mod_lt _ (by decide)
 rw [decide_eq_true hlt,Bool.true_and,show 64*(a / 64)+a % 64=a from Nat.div_add_mod a 64] at h
 rw [Nat.and_one_is_mod,Nat.shiftRight_eq_div_pow]
 rw [Nat.testBit_eq_decide_div_mod_eq] at h
 cases hp:P a with
 | true =>
  rw [hp] at h
  exact of_decide_eq_true h
 | false =>
  rw [hp] at h
  have:=of_decide_eq_false h
  simp only [Bool.false_eq_true,if_false]
  omega
def fromP (P:Pl) (b:Nat):Pl:=fun i=>P i && decide (b≤i)
theorem fromP_zero (P:Pl) (j:Nat):wordN (fromP P (64*j)) j=wordN P j:=wordN_congr fun i _=>by
 unfold fromP
 rw [decide_eq_true (by omega),Bool.and_true]
theorem word_zero {P:Pl} {j b:Nat} (h:wordN (fromP P b) j=0):∀ i,b≤i→64*j≤i→i < 64*j+64→P i=false:=by
 intro i hb h1 h2
 have hb2:=wordN_bit (fromP P b) j (i - 64*j)
 rw [h,Nat.zero_testBit,decide_eq_true (by omega),Bool.true_and,show 64*j+(i - 64*j)=i by omega] at hb2
 unfold fromP at hb2
 rw [decide_eq_true hb,Bool.and_true] at hb2
 exact hb2.symm
theorem low_bit {x:Nat} (h0:x≠0) (hx:x < 18446744073709551616):Lib.ctz 64 x < 64∧x.testBit (Lib.ctz 64 x)=true∧(∀ i,i < Lib.ctz 64 x→x.testBit i=false)∧∀ i,(x &&& (x - 1)).testBit i=(x.testBit i && !decide (i=Lib.ctz 64 x)):=by
 unfold Lib.ctz
 rw [if_neg h0]
 obtain ⟨m,hm,hk⟩:=Lib.ctzFrom_spec 64 x (by omega) hx
 generalize Lib.ctzFrom 64 x=k at hm hk ⊢
 have hp:0 < 2 ^ k:=Nat.two_pow_pos k
 have e1:x - 1=2 ^ k*(2*m)+(2 ^ k - 1):=by
  rw [hm,Nat.mul_add]
  omega
 have e0:x=2 ^ k*(2*m+1)+0:=hm
 have b0:∀ i,x.testBit i=if i < k then false else (2*m+1).testBit (i - k):=fun i=>by
  rw [e0,Nat.testBit_two_pow_mul_add _ hp]
  simp
 have b1:∀ i,(x - 1).testBit i=if i < k then true else (2*m).testBit (i - k):=fun i=>by
  rw [e1,Nat.testBit_two_pow_mul_add _ (by omega)]
  by_cases hi:i < k
  ·simp [hi,Nat.testBit_two_pow_sub_one]
  ·simp [hi]
 refine ⟨hk,?_,?_,fun i=>?_⟩
 ·rw [b0,if_neg (Nat.lt_irrefl _),Nat.sub_self,Nat.testBit_zero]
  simp
 ·intro i hi
  rw [b0,if_pos hi]
 ·rw [Nat.testBit_and,b0,b1]
  by_cases hi:i < k
  ·simp [hi]
  ·rw [if_neg hi,if_neg hi]
   by_cases e:i=k
   ·subst e
    rw [Nat.sub_self,Nat.testBit_zero,Nat.testBit_zero]
    simp
   ·obtain ⟨d,hd⟩:∃ d,i - k=d+1:=⟨i - k - 1,by omega⟩
    rw [hd,Nat.testBit_succ,Nat.testBit_succ,decide_eq_false e]
    have h1:(2*m+1) / 2=m:=by omega
    have h2:2*m / 2=m:=by omega
    rw [h1,h2]
    simp
theorem word_next {P:Pl} {j b:Nat} (h0:wordN (fromP P b) j≠0) (hb:64*j≤b) :
  ∃ a,a=64*j+Lib.ctz 64 (wordN (fromP P b) j)∧P a=true∧b≤a∧a < 64*j+64∧(∀ i,b≤i→i < a→P i=false)∧wordN (fromP P b) j &&& (wordN (fromP P b) j - 1)=wordN (fromP P (a+1)) j:=by
 obtain ⟨h1,h2,h3,h4⟩:=low_bit h0 (wordN_lt _ _)
 generalize Lib.ctz 64 (wordN (fromP P b) j)=t at h1 h2 h3 h4 ⊢
 rw [wordN_bit,decide_eq_true h1,Bool.true_and] at h2
 unfold fromP at h2
 rw [Bool.and_eq_true,decide_eq_true_eq] at h2
 refine ⟨64*j+t,rfl,h2.1,h2.2,by omega,fun i hbi hi=>?_,?_⟩
 ·have h5:=h3 (i - 64*j) (by omega)
  rw [wordN_bit,decide_eq_true (by omega),Bool.true_and,show 64*j+(i - 64*j)=i by omega] at h5
  unfold fromP at h5
  rw [decide_eq_true hbi,Bool.and_true] at h5
  exact h5
 ·refine wordN_ext fun i=>?_
  rw [h4,wordN_bit]
  by_cases hi:i < 64
  ·rw [decide_eq_true hi,Bool.true_and,Bool.true_and]
   unfold fromP
   by_cases e:i=t
   ·subst e
    rw [decide_eq_true (rfl:i=i),decide_eq_false (by omega:¬ 64*j+i+1≤64*j+i)]
    simp
   ·rw [decide_eq_false e]
    simp only [Bool.not_false,Bool.and_true]
    by_cases hlt:t < i
    ·rw [decide_eq_true (by omega:b≤64*j+i),decide_eq_true (by omega:64*j+t+1≤64*j+i)]
    ·have h5:=h3 i (by omega)
     rw [wordN_bit,decide_eq_true hi,Bool.true_and] at h5
     unfold fromP at h5
     rw [h5,decide_eq_false (by omega:¬ 64*j+t+1≤64*j+i),Bool.and_false]
  ·simp [hi]
end Go.Proofs.YtnjagecmhdagkaaGreatDoor
namespace Go.Proofs.YtnjagecmhdagkaaGreatDoor
open Go.RowKit
def wordsA (W:Nat) (P:Pl):Array Value:=(Array.range W).map fun j=>.int .u64 (wordN P j:Nat)
theorem wordsA_size (W:Nat) (P:Pl):(wordsA W P).size=W:=by simp [wordsA]
theorem wordsA_get {W j:Nat} (P:Pl) (h:j < W):(wordsA W P)[j]?=some (.int .u64 (wordN P j:Nat)):=by simp [wordsA,h]
theorem wordsA_set {W a:Nat} (P:Pl):(wordsA W P).setIfInBounds (a / 64) (.int .u64 (wordN (addP P a) (a / 64):Nat))=wordsA W (addP P a):=by
 apply Array.ext_getElem?
 intro j
 rw [Array.getElem?_setIfInBounds,wordsA_size]
 by_cases hj:j < W
 ·by_cases e:a / 64=j
  ·subst e
   rw [if_pos rfl,if_pos hj,wordsA_get _ hj]
  ·rw [if_neg e,wordsA_get _ hj,wordsA_get _ hj,word_add_ne P a (fun h=>e h.symm)]
 ·have e1:(wordsA W P)[j]?=none:=Array.getElem?_eq_none (by rw [wordsA_size];omega)
  have e2:(wordsA W (addP P a))[j]?=none:=Array.getElem?_eq_none (by rw [wordsA_size];omega)
  rw [e1,e2]
  split
  ·rename_i h;rw [if_neg (by omega)]
  ·rfl
structure PlAt (w:World) (b W:Nat) (P:Pl):Prop where
 eq:blk w b=wordsA W P
 pos:0 < W
section
variable {w w':World} {b W:Nat} {P:Pl}
theorem PlAt.zpos (h:PlAt w b W P):0 < (wordsA W P).size:=by rw [wordsA_size];exact h.pos
theorem PlAt.inh (h:PlAt w b W P):InHeap b w:=Blk.inHeap h.eq h.zpos
theorem PlAt.cell (h:PlAt w b W P) {j:Nat} (hj:j < W):w.cell? ⟨b,j,none⟩=some (.int .u64 (wordN P j:Nat)):=(Blk.cell h.eq h.zpos j).trans (wordsA_get P hj)
theorem PlAt.free (h:PlAt w b W P) (k:Nat):w.frozen? ⟨b,k,none⟩=false:=Blk.free h.eq h.zpos k
theorem PlAt.grows (h:PlAt w b W P) (hg:Grows w w'):PlAt w' b W P:=by
 have:=h.inh
 obtain ⟨m,rfl⟩:=hg
 exact ⟨(blk_more _ _ _ this).trans h.eq,h.pos⟩
theorem PlAt.chg (h:PlAt w b W P) {q:Nat→Prop} (hc:Chg q w w') (hq:¬ q b):PlAt w' b W P:=⟨(chg_blk hc h.inh hq).trans h.eq,h.pos⟩
theorem PlAt.add (h:PlAt w b W P) (a:Nat):PlAt (w.setCell ⟨b,a / 64,none⟩ (.int .u64 (wordN (addP P a) (a / 64):Nat))) b W (addP P a) :=
 ⟨(pa_put h.eq h.zpos _ _).trans (wordsA_set P),h.pos⟩
end
abbrev plV (b W:Nat):Value:=.slice (some ⟨b,0,none⟩) W W
theorem place_word {a W:Nat} (h:a < 64*W):a / 64 < W:=by omega
theorem wrap_small {n:Int} (h0:0≤n) (h1:n≤9223372036854775807):IntKind.i64.wrap n=n:=by
 simp [IntKind.wrap,IntKind.signed,IntKind.bits]
 omega
set_option maxHeartbeats 1000000 in
theorem set_any {w:World} {b W:Nat} {P:Pl} (h:PlAt w b W P) (a:Nat) (ha:a < 64*W) (hW:W≤1000) :
  Calls Tryz.prog 71 #[plV b W,.int .i64 a] w fun e w'=>e=.returned (.tuple #[])∧PlAt w' b W (addP P a)∧Chg (fun x=>x=b) w w':=by
 have hj:=place_word ha
 have c0:=h.cell hj
 have hfr:=h.free
 have hd:(a:Int) / 64=((a / 64:Nat):Int):=by omega
 have hm:(a:Int) % 64=((a % 64:Nat):Int):=by omega
 have hm2:(a:Int).tmod 64=((a % 64:Nat):Int):=by rw [Int.tmod_eq_emod_of_nonneg (by omega)];omega
 obtain ⟨j,hjj⟩:∃ j,a / 64=j:=⟨_,rfl⟩
 obtain ⟨t,htt⟩:∃ t,a % 64=t:=⟨_,rfl⟩
 have ht64:t < 64:=by omega
 rw [hjj] at hj c0 hd
 rw [htt] at hm hm2
 have hwj:IntKind.i64.wrap (j:Int)=(j:Int):=wrap_small (by omega) (by omega)
 have H:=Lib.hid h
 have HJ:=Lib.hid hjj
 have HT:=Lib.hid htt
 clear h hjj htt
 go_enter Tryz.func71,Tryz.ntmps71
 have hp64:2 ^ t < 18446744073709551616:=Nat.pow_lt_pow_right (by decide) ht64
 obtain ⟨Y,hY⟩:∃ Y,2 ^ t=Y:=⟨_,rfl⟩
 have hYI:(2:Int) ^ t=(Y:Int):=by rw [← hY];simp
 rw [hY] at hp64
 have hw1:IntKind.u64.wrap (Y:Int)=(Y:Int):=by rw [IntKind.wrap_u64];omega
 have hbit:bits .or .u64 (wordN P j:Int) (Y:Int)=((wordN (addP P a) j:Nat):Int):=by
  rw [bits_or_u64_nat _ _ (wordN_lt _ _) hp64,← hY,← HJ.out,← HT.out,word_add]
 have HP:=Lib.hid (HJ.out ▸ H.out.add a:PlAt (w.setCell ⟨b,j,none⟩ (.int .u64 (wordN (addP P a) j:Nat))) b W (addP P a))
 have hsame:Chg (fun x=>x=b) w (w.setCell ⟨b,j,none⟩ (.int .u64 (wordN (addP P a) j:Nat))):=chg_cell _ _ _ _
 have HC:=Lib.hid hsame
 clear hsame hp64 hY
 generalize wordN (addP P a) j=X at hbit HP HC
 go_region_law (fail)
 all_goals
  refine ⟨rfl,.tuple #[],results_none rfl _ _ _,rfl,?_,?_⟩
  ·exact HP.out.grows (by repeat' first | exact Grows.refl _ | refine Grows.drewN ?_ _ | refine Grows.drew ?_)
  ·exact HC.out.trans (Chg.of_grows (by repeat' first | exact Grows.refl _ | refine Grows.drewN ?_ _ | refine Grows.drew ?_))
set_option maxHeartbeats 1000000 in
theorem has_any {w:World} {b W:Nat} {P:Pl} (h:PlAt w b W P) (a:Nat) (ha:a < 64*W) (hW:W≤1000) :
  Calls Tryz.prog 77 #[plV b W,.int .i64 a] w fun e w'=>e=.returned (.bool (P a))∧w'=w:=by
 have hj:=place_word ha
 have c0:=h.cell hj
 have hd:(a:Int) / 64=((a / 64:Nat):Int):=by omega
 have hm:(a:Int) % 64=((a % 64:Nat):Int):=by omega
 have hm2:(a:Int).tmod 64=((a % 64:Nat):Int):=by rw [Int.tmod_eq_emod_of_nonneg (by omega)];omega
 have hwj:IntKind.i64.wrap ((a / 64:Nat):Int)=((a / 64:Nat):Int):=wrap_small (by omega) (by omega)
 have hlt:=wordN_lt P (a / 64)
 have hsh:=word_has P a
 rw [Nat.shiftRight_eq_div_pow] at hsh
 have ht64:a % 64 < 64:=Nat.mod_lt _ (by decide)
 generalize a / 64=j at *
 generalize a % 64=t at *
 have hq:(wordN P j:Int) / 2 ^ t=((wordN P j / 2 ^ t:Nat):Int):=by simp
 have hqlt:wordN P j / 2 ^ t < 18446744073709551616:=Nat.lt_of_le_of_lt (Nat.div_le_self _ _) hlt
 generalize wordN P j / 2 ^ t=Q at hq hsh hqlt
 have hbit0:bits .and .u64 (Q:Int) 1=((Q &&& 1:Nat):Int):=bits_and_u64_nat Q 1 hqlt (by decide)
 rw [hsh] at hbit0
 have HB:=Lib.hid hbit0
 clear hsh h hlt hqlt hbit0
 cases hp:P a with
 | true =>
  have hbit:bits .and .u64 (Q:Int) 1=1:=by rw [HB.out,hp];rfl
  clear hp HB
  go_enter Tryz.func77,Tryz.ntmps77
  go_wp2_with fail
  go_ret
  exact ⟨rfl,rfl⟩
 | false =>
  have hbit:bits .and .u64 (Q:Int) 1=0:=by rw [HB.out,hp];rfl
  clear hp HB
  go_enter Tryz.func77,Tryz.ntmps77
  go_wp2_with fail
  go_ret
  exact ⟨rfl,rfl⟩
theorem PlAt.put {w:World} {b W j:Nat} {P Q:Pl} (h:PlAt w b W P) (hj:j < W) (hq:∀ k,k < W→k≠j→wordN Q k=wordN P k):PlAt (w.setCell ⟨b,j,none⟩ (.int .u64 (wordN Q j:Nat))) b W Q:=by
 refine ⟨(pa_put h.eq h.zpos _ _).trans ?_,h.pos⟩
 apply Array.ext_getElem?
 intro k
 rw [Array.getElem?_setIfInBounds,wordsA_size]
 by_cases hk:k < W
 ·by_cases e:j=k
  ·subst e
   rw [if_pos rfl,if_pos hk,wordsA_get _ hk]
  ·rw [if_neg e,wordsA_get _ hk,wordsA_get _ hk,hq k hk (fun h=>e h.symm)]
 ·have e1:(wordsA W P)[k]?=none:=Array.getElem?_eq_none (by rw [wordsA_size];omega)
  have e2:(wordsA W Q)[k]?=none:=Array.getElem?_eq_none (by rw [wordsA_size];omega)
  rw [e1,e2]
  split
  ·omega
  ·rfl
def mixP (P Q:Pl) (i:Nat):Pl:=fun a=>P a || (Q a && decide (a < 64*i))
theorem mix_zero (P Q:Pl):mixP P Q 0=P:=by funext a;simp [mixP]
theorem mix_at (P Q:Pl) (i:Nat):wordN (mixP P Q i) i=wordN P i:=wordN_congr fun k _=>by
 unfold mixP
 rw [decide_eq_false (by omega:¬ 64*i+k < 64*i),Bool.and_false,Bool.or_false]
theorem mix_next (P Q:Pl) (i:Nat):wordN (mixP P Q (i+1)) i=wordN P i ||| wordN Q i:=by
 rw [word_or]
 refine wordN_congr fun k hk=>?_
 unfold mixP orP
 rw [decide_eq_true (by omega:64*i+k < 64*(i+1)),Bool.and_true]
theorem mix_ne (P Q:Pl) {i j:Nat} (h:j≠i):wordN (mixP P Q (i+1)) j=wordN (mixP P Q i) j:=wordN_congr fun k hk=>by
 unfold mixP
 congr 2
 rw [decide_eq_decide]
 omega
theorem wordsA_congr {W:Nat} {P Q:Pl} (h:∀ j,j < W→wordN P j=wordN Q j):wordsA W P=wordsA W Q:=by
 apply Array.ext_getElem?
 intro j
 by_cases hj:j < W
 ·rw [wordsA_get _ hj,wordsA_get _ hj,h j hj]
 ·rw [Array.getElem?_eq_none (by rw [wordsA_size];omega),Array.getElem?_eq_none (by rw [wordsA_size];omega)]
theorem PlAt.congr {w:World} {b W:Nat} {P Q:Pl} (h:PlAt w b W P) (hq:∀ a,a < 64*W→P a=Q a):PlAt w b W Q :=
 ⟨h.eq.trans (wordsA_congr fun j hj=>wordN_congr fun k hk=>hq _ (by omega)),h.pos⟩
theorem PlAt.all {w:World} {b W:Nat} {P Q:Pl} (h:PlAt w b W (mixP P Q W)):PlAt w b W (orP P Q):=h.congr fun a ha=>by
 unfold mixP orP
 rw [decide_eq_true ha,Bool.and_true]
set_option maxHeartbeats 1000000 in
theorem join_any {w:World} {b c W:Nat} {P Q:Pl} (h:PlAt w b W P) (k:PlAt w c W Q) (hne:c≠b) (hW:W≤1000) :
  Calls Tryz.prog 94 #[plV b W,plV c W] w fun e w'=>e=.returned (.tuple #[])∧PlAt w' b W (orP P Q)∧Chg (fun x=>x=b) w w':=by
 have H:=Lib.hid h
 have K:=Lib.hid k
 clear h k
 go_enter Tryz.func94,Tryz.ntmps94
 go_wp2_with fail
 go_loopg [4,5,8] W (fun q _ _ v8 wr=>∃ i:Nat,q+i=W∧v8=.int .i64 i∧PlAt wr b W (mixP P Q i)∧Chg (fun x=>x=b) w wr)
 case atStart=>exact ⟨0,by omega,rfl,by rw [mix_zero];exact H.out,Chg.refl _ _⟩
 case round =>
  obtain ⟨i,hq,rfl,hM,hC⟩:=hrel
  have HQ:=Lib.hid hq
  have hiW:i≤W:=by omega
  have HM:=Lib.hid hM
  have HC:=Lib.hid hC
  clear hq hM hC
  by_cases hi:i < W
  ·have hix:(i:Int) < (W:Int):=by omega
   have c0:=HM.out.cell hi
   rw [mix_at] at c0
   have d0:=(K.out.chg HC.out hne).cell hi
   have hfr:=HM.out.free
   have hbit:bits .or .u64 (wordN P i:Int) (wordN Q i:Int)=((wordN (mixP P Q (i+1)) i:Nat):Int):=by
    rw [bits_or_u64_nat _ _ (wordN_lt _ _) (wordN_lt _ _),mix_next]
   go_wp2_with fail
   go_roundg (gk - 1)
   case measure=>have:=HQ.out;omega
   case rel=>exact ⟨i+1,by have:=HQ.out;omega,by simp,HM.out.put hi fun k _ hk=>mix_ne P Q hk,HC.out.trans (chg_cell _ _ _ _)⟩
  ·have hix:¬ (i:Int) < (W:Int):=by omega
   have hin:decide (i < W)=false:=decide_eq_false hi
   obtain rfl:i=W:=by omega
   go_wp2_with fail
   exact ⟨rfl,.tuple #[],results_none rfl _ _ _,rfl,HM.out.all,HC.out⟩
def TzAt (w:World):Prop:=TabAt 0 Lib.deBruijn64tab w
theorem TzAt.lt {w:World} (h:TzAt w):0 < w.heap.size:=World.block_lt_of_cell? _ _ (h 0 (by decide))
theorem TzAt.chg {w w':World} (h:TzAt w) {q:Nat→Prop} (hc:Chg q w w') (hq:¬ q 0):TzAt w':=fun j hj=>(hc.cell (a:=⟨0,j,none⟩) h.lt hq).trans (h j hj)
theorem TzAt.grows {w w':World} (h:TzAt w) (hg:Grows w w'):TzAt w':=h.chg (Chg.of_grows (p:=fun _=>False) hg) (fun h=>h)
section
set_option maxHeartbeats 1000000
theorem tz_core (x k idx:Nat) (w:World) (hx0:((x:Int) == 0)=false)
  (key:IntKind.u64.wrap (bits BinOp.and IntKind.u64 (x:Int) (IntKind.u64.wrap (-(x:Int)))*285870213051353865) / 288230376151711744=(idx:Int))
  (hi:idx < 64) (hk:k < 64) (hcell:w.cell? ⟨0,idx,none⟩=some (.int .u8 k)) :
  Calls Tryz.prog 74 #[.int .u64 x] w fun e w'=>e=.returned (.int .i64 k)∧w'=w:=by
 go_enter Tryz.func74,Tryz.ntmps74
 go_wp2_with (simp only [key])
 go_ret
 exact ⟨rfl,rfl⟩
end
end Go.Proofs.YtnjagecmhdagkaaGreatDoor
