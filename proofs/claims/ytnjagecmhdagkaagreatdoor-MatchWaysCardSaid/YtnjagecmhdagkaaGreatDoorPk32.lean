/-
 Matches, in plain words: what a pattern without references matches is the best of all its ways.
-/
import Derived.Test.YtnjagecmhdagkaaGreatDoorPk31
import Derived.Test.YtnjagecmhdagkaaGreatDoorPk27
import Derived.Test.YtnjagecmhdagkaaGreatDoorPk16
set_option linter.unusedSimpArgs false
set_option linter.unusedVariables false
set_option maxRecDepth 3000
namespace Go.Proofs.YtnjagecmhdagkaaGreatDoor
open Go.RowKit
def NoRf:Fr→Prop
 | .nil=>True
 | .cons x k r=>x.kind≠6∧NoRf k∧NoRf r
theorem GoodF.noRf:∀ {f:Fr} {s t:WS},GoodF f s t→t.refs=false→s.refs=false∧NoRf f:=by
 intro f
 induction f with
 | nil =>
  intro s t h ht
  obtain rfl:t=s:=h
  exact ⟨ht,trivial⟩
 | cons x k r ihk ihr =>
  rintro s t ⟨m,h,hr⟩ ht
  obtain ⟨r1,r2⟩:=ihr hr ht
  rcases h with ⟨h1,h2,h3,m1,h4,rfl⟩ | ⟨h1,h2,h3,h4,rfl,rfl⟩ | ⟨h1,h2,h3,h4,h5,h6,h7⟩ | ⟨h1,h2,rfl,rfl⟩
  ·obtain ⟨q1,q2⟩:=ihk h4 r1
   exact ⟨q1,by omega,q2,r2⟩
  ·cases r1
  ·obtain ⟨q1,q2⟩:=ihk h7 r1
   exact ⟨q1,by omega,q2,r2⟩
  ·exact ⟨r1,by omega,trivial,r2⟩
theorem patV_noRf {l:List UInt8} {y:Fr × PS} (h:patV l=some y) (hr:y.2.refs=false):NoRf y.1:=by
 obtain ⟨v,h1,_,h3⟩:=patV_good h
 exact (h1.noRf (h3.trans hr)).2
theorem oneV_any {x:NdV} (h:x.kind≠6) (s:List UInt8) (a:Nat) (g:Spn):oneV x s a g=oneV x s a spZero:=by
 unfold oneV
 rw [if_neg h,if_neg h]
def WayT (x:NdV) (P:Nat→Nat→Wy→Prop):Nat→Nat→Nat→Wy→Prop
 | d,a,e,.nil=>x.mn≤d∧e=a
 | d,a,e,.cons l t r=>¬ (0≤x.mx∧x.mx≤d)∧P a (a+l) t∧(0 < l∨d < x.mn)∧WayT x P (d+1) (a+l) e r
def WayF (s:List UInt8):Fr→Nat→Nat→Wy→Prop
 | .nil,a,e,w=>w=.nil∧e=a
 | .cons x k r,a,e,w=>∃ l t u,w=.cons l t u∧(if x.kind=7 then WayF s k a (a+l) t else if x.kind=8 then WayT x (fun a e w=>WayF s k a e w) 0 a (a+l) t else t=.nil∧oneV x s a spZero=some l)∧WayF s r (a+l) e u
def spT (S:Nat→Wy→Spn→Spn):Nat→Wy→Spn→Spn
 | _,.nil,g=>g
 | a,.cons l t r,g=>spT S (a+l) r (S a t g)
def Wy.hd:Wy→Nat × Wy × Wy
 | .nil=>(0,.nil,.nil)
 | .cons l t u=>(l,t,u)
def spW:Fr→Nat→Wy→Spn→Spn
 | .nil,_,_,g=>g
 | .cons x k r,a,w,g=>spW r (a+w.hd.1) w.hd.2.2 (if x.kind=7 then spSet (spW k a w.hd.2.1 g) x.n a ((a+w.hd.1:Nat):Int) else if x.kind=8 then spT (fun a t g=>spW k a t (unsetV k g)) a w.hd.2.1 g else g)
theorem wayT_le {n:Nat} {x:NdV} {P:Nat→Nat→Wy→Prop} (hP:∀ a e v,a≤n→P a e v→a≤e∧e≤n):∀ (w:Wy) (d a e:Nat),a≤n→WayT x P d a e w→a≤e∧e≤n:=by
 intro w
 induction w with
 | nil =>
  rintro d a e ha ⟨_,rfl⟩
  exact ⟨Nat.le_refl _,ha⟩
 | cons l t r _ ih =>
  rintro d a e ha ⟨_,h2,_,h4⟩
  obtain ⟨q1,q2⟩:=hP a _ t ha h2
  obtain ⟨q3,q4⟩:=ih (d+1) (a+l) e q2 h4
  exact ⟨by omega,q4⟩
theorem wayF_le {s:List UInt8}:∀ {f:Fr} (a e:Nat) (w:Wy),a≤s.length→WayF s f a e w→a≤e∧e≤s.length:=by
 intro f
 induction f with
 | nil =>
  rintro a e w ha ⟨_,rfl⟩
  exact ⟨Nat.le_refl _,ha⟩
 | cons x k r ihk ihr =>
  rintro a e w ha ⟨l,t,u,rfl,h1,h2⟩
  have h3:a+l≤s.length:=by
   split at h1
   ·exact (ihk a _ t ha h1).2
   ·split at h1
    ·exact (wayT_le (fun a e v ha h=>ihk a e v ha h) t 0 a _ ha h1).2
    ·exact oneV_le h1.2 ha
  obtain ⟨q1,q2⟩:=ihr (a+l) e u h3 h2
  exact ⟨by omega,q2⟩
theorem app_snoc (ws:Wy) (l:Nat) (k b:Wy):(ws.snoc l k).app b=ws.app (.cons l k b):=Wy.snoc_app ws l k b
theorem evT_outs {n:Nat} {x:NdV} {R:Nat→Spn→List Ev} {U:Spn→Spn} {P:Nat→Nat→Wy→Prop} {S:Nat→Wy→Spn→Spn}
  (hR:∀ a g e g2 v,a≤n→((e,g2,v) ∈ outsE (R a (U g)) ↔ P a e v∧g2=S a v g)) (hP:∀ a e v,a≤n→P a e v→a≤e∧e≤n) :
  ∀ (F d a:Nat) (g:Spn) (ws:Wy) (e:Nat) (g2:Spn) (v:Wy),a≤n→fuelK n x a d≤F→((e,g2,v) ∈ outsE (evT x R U F d a g ws) ↔ ∃ w,WayT x P d a e w∧g2=spT S a w g∧v=ws.app w):=by
 intro F
 induction F with
 | zero=>intro d a g ws e g2 v _ h;unfold fuelK at h;omega
 | succ F ih =>
  intro d a g ws e g2 v ha hF
  have next:∀ e1,a≤e1→e1≤n→¬ (0≤x.mx∧x.mx≤d)→(a < e1∨d < x.mn)→fuelK n x e1 (d+1)≤F:=by
   intro e1 h1 h2 h3 h4
   unfold fuelK at hF ⊢
   split at hF
   ·rw [if_pos (by assumption)];omega
   ·rw [if_neg (by assumption)];omega
  unfold evT
  rw [outsE_app,List.mem_append]
  constructor
  ·rintro (h | h)
   ·split at h
    ·rename_i hd
     simp only [outsE,List.mem_singleton,Prod.mk.injEq] at h
     obtain ⟨rfl,rfl,rfl⟩:=h
     exact ⟨.nil,⟨hd,rfl⟩,rfl,(Wy.app_nil _).symm⟩
    ·simp [outsE] at h
   ·split at h
    ·simp [outsE] at h
    ·rename_i hm
     rw [(outs_bind _ _).1,List.mem_flatMap] at h
     obtain ⟨⟨e1,g1,v1⟩,h1,h2⟩:=h
     rw [hR a g e1 g1 v1 ha] at h1
     obtain ⟨h1,rfl⟩:=h1
     obtain ⟨p1,p2⟩:=hP a e1 v1 ha h1
     dsimp only at h2
     split at h2
     ·rename_i hc
      rw [ih (d+1) e1 _ _ e g2 v p2 (next e1 p1 p2 hm hc)] at h2
      obtain ⟨w2,k1,rfl,rfl⟩:=h2
      have e1e:a+(e1 - a)=e1:=by omega
      refine ⟨.cons (e1 - a) v1 w2,⟨hm,by rw [e1e];exact h1,by omega,by rw [e1e];exact k1⟩,?_,app_snoc _ _ _ _⟩
      simp only [spT,e1e]
     ·simp [outsE] at h2
  ·rintro ⟨w,h1,rfl,rfl⟩
   cases w with
   | nil =>
    obtain ⟨hd,rfl⟩:=h1
    refine .inl ?_
    rw [if_pos hd]
    simp [outsE,spT,Wy.app_nil]
   | cons l t r =>
    obtain ⟨hm,h2,h3,h4⟩:=h1
    refine .inr ?_
    rw [if_neg hm,(outs_bind _ _).1,List.mem_flatMap]
    obtain ⟨p1,p2⟩:=hP a _ t ha h2
    refine ⟨(a+l,S a t g,t),(hR a g _ _ _ ha).2 ⟨h2,rfl⟩,?_⟩
    dsimp only
    have hc:a < a+l∨d < x.mn:=by omega
    rw [if_pos hc,ih (d+1) (a+l) _ _ e _ _ p2 (next _ p1 p2 hm hc)]
    exact ⟨r,h4,rfl,by rw [app_snoc,show a+l - a=l by omega]⟩
theorem evR_outs {s:List UInt8}:∀ {f:Fr},NoRf f→∀ (a:Nat) (g:Spn) (ws:Wy) (e:Nat) (g2:Spn) (v:Wy),a≤s.length→((e,g2,v) ∈ outsE (evR s f a g ws) ↔ ∃ w,WayF s f a e w∧g2=spW f a w g∧v=ws.app w):=by
 intro f
 induction f with
 | nil =>
  intro _ a g ws e g2 v _
  simp only [evR,outsE,List.mem_singleton,Prod.mk.injEq]
  constructor
  ·rintro ⟨rfl,rfl,rfl⟩
   exact ⟨.nil,⟨rfl,rfl⟩,rfl,(Wy.app_nil _).symm⟩
  ·rintro ⟨w,⟨rfl,rfl⟩,rfl,rfl⟩
   exact ⟨rfl,rfl,Wy.app_nil _⟩
 | cons x k r ihk ihr =>
  rintro ⟨h6,hk,hr⟩ a g ws e g2 v ha
  unfold evR
  by_cases h7:x.kind=7
  ·rw [if_pos h7,(outs_bind _ _).1,List.mem_flatMap]
   constructor
   ·rintro ⟨⟨e1,g1,v1⟩,h1,h2⟩
    rw [ihk hk a g .nil e1 g1 v1 ha] at h1
    obtain ⟨w1,q1,rfl,hw1⟩:=h1
    obtain rfl:v1=w1:=hw1
    obtain ⟨p1,p2⟩:=wayF_le a e1 v1 ha q1
    dsimp only at h2
    rw [ihr hr e1 _ _ e g2 v p2] at h2
    obtain ⟨w2,k1,rfl,rfl⟩:=h2
    have e1e:a+(e1 - a)=e1:=by omega
    refine ⟨.cons (e1 - a) v1 w2,⟨e1 - a,v1,w2,rfl,by rw [if_pos h7,e1e];exact q1,by rw [e1e];exact k1⟩,?_,by rw [app_snoc]⟩
    simp only [spW,Wy.hd,e1e,if_pos h7]
   ·rintro ⟨w,⟨l,t,u,rfl,h1,h2⟩,rfl,rfl⟩
    rw [if_pos h7] at h1
    obtain ⟨p1,p2⟩:=wayF_le a _ t ha h1
    refine ⟨(a+l,spW k a t g,t),(ihk hk a g .nil _ _ _ ha).2 ⟨t,h1,rfl,rfl⟩,?_⟩
    dsimp only
    rw [ihr hr (a+l) _ _ e _ _ p2]
    refine ⟨u,h2,?_,by rw [app_snoc,show a+l - a=l by omega]⟩
    simp only [spW,Wy.hd,if_pos h7]
  ·rw [if_neg h7]
   by_cases h8:x.kind=8
   ·rw [if_pos h8,(outs_bind _ _).1,List.mem_flatMap]
    have hT:=evT_outs (n:=s.length) (x:=x) (R:=fun a g=>evR s k a g .nil) (U:=unsetV k) (P:=fun a e w=>WayF s k a e w) (S:=fun a t g=>spW k a t (unsetV k g))
     (fun a g e g2 v ha=>by
      rw [ihk hk a _ .nil e g2 v ha]
      constructor
      ·rintro ⟨w,q1,rfl,rfl⟩;exact ⟨q1,rfl⟩
      ·rintro ⟨q1,rfl⟩;exact ⟨v,q1,rfl,rfl⟩) (fun a e v ha h=>wayF_le a e v ha h)
    constructor
    ·rintro ⟨⟨e1,g1,v1⟩,h1,h2⟩
     rw [hT _ 0 a g .nil e1 g1 v1 ha (Nat.le_refl _)] at h1
     obtain ⟨w1,q1,rfl,hw1⟩:=h1
     obtain rfl:v1=w1:=hw1
     obtain ⟨p1,p2⟩:=wayT_le (fun a e v ha h=>wayF_le a e v ha h) v1 0 a e1 ha q1
     dsimp only at h2
     rw [ihr hr e1 _ _ e g2 v p2] at h2
     obtain ⟨w2,k1,rfl,rfl⟩:=h2
     have e1e:a+(e1 - a)=e1:=by omega
     refine ⟨.cons (e1 - a) v1 w2,⟨e1 - a,v1,w2,rfl,by rw [if_neg h7,if_pos h8,e1e];exact q1,by rw [e1e];exact k1⟩,?_,by rw [app_snoc]⟩
     simp only [spW,Wy.hd,e1e,if_neg h7,if_pos h8]
    ·rintro ⟨w,⟨l,t,u,rfl,h1,h2⟩,rfl,rfl⟩
     rw [if_neg h7,if_pos h8] at h1
     obtain ⟨p1,p2⟩:=wayT_le (fun a e v ha h=>wayF_le a e v ha h) t 0 a _ ha h1
     refine ⟨(a+l,_,t),(hT _ 0 a g .nil _ _ _ ha (Nat.le_refl _)).2 ⟨t,h1,rfl,rfl⟩,?_⟩
     dsimp only
     rw [ihr hr (a+l) _ _ e _ _ p2]
     refine ⟨u,h2,?_,by rw [app_snoc,show a+l - a=l by omega]⟩
     simp only [spW,Wy.hd,if_neg h7,if_pos h8]
   ·rw [if_neg h8,oneV_any h6]
    simp only [outsE]
    cases ho:oneV x s a spZero with
    | none =>
     simp only [outsE,List.not_mem_nil,false_iff]
     rintro ⟨w,⟨l,t,u,rfl,h1,h2⟩,_,_⟩
     rw [if_neg h7,if_neg h8,ho] at h1
     cases h1.2
    | some m =>
     dsimp only
     have hm:=oneV_le ho ha
     rw [ihr hr (a+m) _ _ e g2 v hm]
     constructor
     ·rintro ⟨w2,k1,rfl,rfl⟩
      refine ⟨.cons m .nil w2,⟨m,.nil,w2,rfl,by rw [if_neg h7,if_neg h8];exact ⟨rfl,ho⟩,k1⟩,?_,by rw [app_snoc]⟩
      simp only [spW,Wy.hd,if_neg h7,if_neg h8]
     ·rintro ⟨w,⟨l,t,u,rfl,h1,h2⟩,rfl,rfl⟩
      rw [if_neg h7,if_neg h8,ho] at h1
      obtain ⟨rfl,h1⟩:=h1
      injection h1 with h1
      subst h1
      refine ⟨u,h2,?_,by rw [app_snoc]⟩
      simp only [spW,Wy.hd,if_neg h7,if_neg h8]
theorem longsV_self:∀ a:Wy,longsV a a=0
 | .nil=>rfl
 | .cons l k r=>by simp [longsV,longsV_self r]
theorem withB_self:∀ a:Wy,withB a a=0
 | .nil=>rfl
 | .cons l k r=>by
  rw [withB_cons,betterV,longsV_self,withB_self k,withB_self r]
  simp
theorem betterV_self (a:Wy):betterV a a=0:=by rw [betterV,longsV_self,withB_self];simp
theorem longsV_neg:∀ a b:Wy,longsV a b=- longsV b a
 | .nil,.nil=>rfl
 | .nil,.cons _ _ _=>rfl
 | .cons _ _ _,.nil=>rfl
 | .cons l k r,.cons l2 k2 r2=>by
  have ih:=longsV_neg r r2
  simp only [longsV]
  split <;> split <;> omega
theorem withB_neg:∀ a b:Wy,withB a b=- withB b a
 | .nil,.nil=>rfl
 | .nil,.cons _ _ _=>rfl
 | .cons _ _ _,.nil=>rfl
 | .cons l k r,.cons l2 k2 r2=>by
  have ih:=withB_neg r r2
  have ik:=withB_neg k k2
  have il:=longsV_neg k k2
  have hb:betterV k k2=- betterV k2 k:=by
   unfold betterV
   split <;> split <;> omega
  rw [withB_cons,withB_cons]
  split <;> split <;> omega
theorem betterV_neg (a b:Wy):betterV a b=- betterV b a:=by
 have h1:=longsV_neg a b
 have h2:=withB_neg a b
 unfold betterV
 split <;> split <;> omega
theorem better_lt {l l2:Nat} (t r t2 r2:Wy) (h:l2 < l):0 < betterV (.cons l t r) (.cons l2 t2 r2):=by
 have e:longsV (.cons l t r) (.cons l2 t2 r2)=(l:Int) - l2:=by
  rw [longsV,if_pos (show (l:Int) - l2≠0 by omega)]
 rw [betterV,e,if_pos (by omega)]
 omega
theorem better_eq {l:Nat} {t r t2 r2:Wy} (ht:t2=t∨0 < betterV t t2) (hr:r2=r∨0 < betterV r r2):Wy.cons l t2 r2=.cons l t r∨0 < betterV (.cons l t r) (.cons l t2 r2):=by
 have e1:longsV (.cons l t r) (.cons l t2 r2)=longsV r r2:=by simp [longsV]
 have e2:betterV (.cons l t r) (.cons l t2 r2)=if longsV r r2≠0 then longsV r r2 else if betterV t t2≠0 then betterV t t2 else withB r r2:=by
  rw [betterV,e1,withB_cons]
 rw [e2]
 rcases hr with rfl | hr
 ·rw [longsV_self,withB_self]
  rcases ht with rfl | ht
  ·exact .inl rfl
  ·refine .inr ?_
   rw [if_neg (by omega),if_pos (by omega)]
   exact ht
 ·refine .inr ?_
  unfold betterV at hr
  split at hr
  ·rw [if_pos (by assumption)];exact hr
  ·rw [if_neg (by assumption)]
   rcases ht with rfl | ht
   ·rw [betterV_self,if_neg (by omega)];exact hr
   ·rw [if_pos (by omega)];exact ht
theorem turns_iff {n:Nat} {x:NdV} {R:Nat→Pl} (hR:Rises n R) {a d j:Nat} (ha:a≤n):turnsS n x R a d j=true ↔ (x.mn≤d∧j=a)∨(¬ (0≤x.mx∧x.mx≤d)∧∃ i,i≤n∧R a i=true∧(a < i∨d < x.mn)∧turnsS n x R i (d+1) j=true):=by
 have c1:x.mn≤capD x d ↔ x.mn≤d:=by unfold capD;split <;> omega
 have c2:capD x d < x.mn ↔ d < x.mn:=by unfold capD;split <;> omega
 have c3:moreD x (capD x d)=true ↔ ¬ (0≤x.mx∧x.mx≤d):=by
  unfold moreD capD
  simp only [Bool.or_eq_true,decide_eq_true_eq]
  split <;> omega
 rw [turnsS_eq hR ha]
 simp only [Bool.or_eq_true,Bool.and_eq_true,decide_eq_true_eq,anyTo_iff,c1,c2,c3]
 refine or_congr Iff.rfl (and_congr Iff.rfl (exists_congr fun i=>?_))
 rw [turnsS_more,and_assoc]
theorem wayT_turns {n:Nat} {x:NdV} {R:Nat→Pl} {P:Nat→Nat→Wy→Prop} (hR:Rises n R) (hPR:∀ a e v,a≤n→P a e v→R a e=true):∀ (w:Wy) (d a e:Nat),a≤n→WayT x P d a e w→turnsS n x R a d e=true:=by
 intro w
 induction w with
 | nil =>
  rintro d a e ha ⟨h1,rfl⟩
  exact (turns_iff hR ha).2 (.inl ⟨h1,rfl⟩)
 | cons l t r _ ih =>
  rintro d a e ha ⟨h1,h2,h3,h4⟩
  have h5:=hPR a _ t ha h2
  have h6:=(hR a _ ha h5).2
  exact (turns_iff hR ha).2 (.inr ⟨h1,a+l,h6,h5,by omega,ih (d+1) _ e h6 h4⟩)
theorem wayF_ends {s:List UInt8}:∀ {f:Fr} (a e:Nat) (w:Wy),a≤s.length→WayF s f a e w→endsF s f a e=true:=by
 intro f
 induction f with
 | nil =>
  rintro a e w ha ⟨_,rfl⟩
  show one1 e e=true
  simp [one1]
 | cons x k r ihk ihr =>
  rintro a e w ha ⟨l,t,u,rfl,h1,h2⟩
  have h3:nodeS s x (endsF s k) a (a+l)=true:=by
   unfold nodeS
   split at h1
   ·rename_i h7
    rw [if_pos h7]
    exact ihk a _ t ha h1
   ·rename_i h7
    rw [if_neg h7]
    split at h1
    ·rename_i h8
     rw [if_pos h8]
     exact wayT_turns (endsF_rises s k) (fun a e v ha h=>ihk a e v ha h) t 0 a _ ha h1
    ·rename_i h8
     rw [if_neg h8,h1.2]
     simp [one1]
  have h4:=(nodeS_rises (endsF_rises s k) a _ ha h3).2
  exact (endsF_cons ha).2 ⟨a+l,h4,h3,ihr _ e u h4 h2⟩
theorem best_turns {n:Nat} {x:NdV} {R:Nat→Pl} {P:Nat→Nat→Wy→Prop} {S:Nat→Wy→Spn→Spn} {G:Nat→Nat→Spn→Spn} {U:Spn→Spn} (hR:Rises n R) (hPR:∀ a e v,a≤n→P a e v→R a e=true)
  (hB:∀ a e,a≤e→e≤n→R a e=true→∃ w,P a e w∧(∀ g,S a w g=G a e (U g))∧∀ u,P a e u→u=w∨0 < betterV w u) :
  ∀ (F d a e:Nat),a≤e→e≤n→(e - a)+(x.mn - d) < F→turnsS n x R a d e=true→∃ w,WayT x P d a e w∧(∀ g,spT S a w g=turnLoop n x R G U F a e d g)∧∀ u,WayT x P d a e u→u=w∨0 < betterV w u:=by
 have hP:∀ a e v,a≤n→P a e v→a≤e∧e≤n:=fun a e v ha h=>hR a e ha (hPR a e v ha h)
 intro F
 induction F with
 | zero=>intro d a e _ _ h;omega
 | succ F ih =>
  intro d a e hae hen hF ht
  by_cases hgo:a < e∨d < x.mn
  ·obtain ⟨q1,q2,q3,q4,q5⟩:=loop_spec hR hae hen ht hgo
   have hmax:=(longF_spec (R a) (fun p=>turnsS n x R p (d+1) e) a e ⟨_,q3,q4,q1,q2⟩).2.2.2.2
   have hL:∀ g,turnLoop n x R G U (F+1) a e d g=turnLoop n x R G U F (longF (R a) (fun q=>turnsS n x R q (d+1) e) a e) e (d+1) (G a (longF (R a) (fun q=>turnsS n x R q (d+1) e) a e) (U g)):=by
    intro g
    rw [turnLoop,if_pos hgo]
   generalize longF (R a) (fun p=>turnsS n x R p (d+1) e) a e=m at *
   obtain ⟨wt,t1,t2,t3⟩:=hB a m q3 (by omega) q1
   obtain ⟨wr,r1,r2,r3⟩:=ih (d+1) m e q4 hen (by omega) q2
   have hm:a+(m - a)=m:=by omega
   have hmx:¬ (0≤x.mx∧x.mx≤d):=by
    rcases (turns_iff hR (by omega)).1 ht with h | h
    ·omega
    ·exact h.1
   refine ⟨.cons (m - a) wt wr,⟨hmx,by rw [hm];exact t1,by omega,by rw [hm];exact r1⟩,fun g=>?_,fun u hu=>?_⟩
   ·rw [hL,spT,hm,t2,r2]
   ·cases u with
    | nil =>
     obtain ⟨u1,u2⟩:=hu
     omega
    | cons l2 t2' r2' =>
     obtain ⟨u1,u2,u3,u4⟩:=hu
     have u5:=hPR a _ t2' (by omega) u2
     have u6:=(hR a _ (by omega) u5).2
     have u7:=wayT_turns hR hPR r2' (d+1) _ e u6 u4
     have u8:=(wayT_le hP r2' (d+1) _ e u6 u4).1
     have u9:=hmax (a+l2) u8 u5 u7
     rcases Nat.lt_or_ge l2 (m - a) with h | h
     ·exact .inr (better_lt _ _ _ _ h)
     ·have hl:m - a=l2:=by omega
      have hl2:m=a+l2:=by omega
      rw [hl]
      subst hl2
      exact better_eq (t3 _ u2) (r3 _ u4)
  ·have hd:x.mn≤d:=by omega
   have hea:e=a:=by omega
   refine ⟨.nil,⟨hd,hea⟩,fun g=>?_,fun u hu=>?_⟩
   ·rw [turnLoop,if_neg hgo]
    rfl
   ·cases u with
    | nil=>exact .inl rfl
    | cons l2 t2 r2 =>
     obtain ⟨u1,u2,u3,u4⟩:=hu
     have u6:=(hP a _ t2 (by omega) u2).2
     have u8:=(wayT_le hP r2 (d+1) _ e u6 u4).1
     omega
theorem best_row {s:List UInt8}:∀ {f:Fr} (a e:Nat),a≤e→e≤s.length→endsF s f a e=true→∃ w,WayF s f a e w∧(∀ g,spW f a w g=giveV s f a e g)∧∀ u,WayF s f a e u→u=w∨0 < betterV w u:=by
 intro f
 induction f with
 | nil =>
  intro a e _ _ h
  have h2:one1 a e=true:=h
  obtain rfl:e=a:=by simpa [one1] using h2
  exact ⟨.nil,⟨rfl,rfl⟩,fun g=>rfl,fun u hu=>.inl hu.1⟩
 | cons x k r ihk ihr =>
  intro a e hae hen h
  obtain ⟨q1,q2,q3,q4⟩:=give_spec hae hen h
  have hmax:=(longF_spec (nodeS s x (endsF s k) a) (fun q=>endsF s r q e) a e ⟨_,q3,q4,q1,q2⟩).2.2.2.2
  have hL:∀ g,giveV s (.cons x k r) a e g=giveV s r (longF (nodeS s x (endsF s k) a) (fun q=>endsF s r q e) a e) e (withinV s x k (giveV s k) a (longF (nodeS s x (endsF s k) a) (fun q=>endsF s r q e) a e) g):=by
   intro g
   rw [giveV]
  generalize longF (nodeS s x (endsF s k) a) (fun q=>endsF s r q e) a e=m at *
  obtain ⟨wr,r1,r2,r3⟩:=ihr m e q4 hen q2
  have hm:a+(m - a)=m:=by omega
  have hN:∃ wt,(if x.kind=7 then WayF s k a m wt else if x.kind=8 then WayT x (fun a e w=>WayF s k a e w) 0 a m wt else wt=.nil∧oneV x s a spZero=some (m - a)) ∧
    (∀ g,(if x.kind=7 then spSet (spW k a wt g) x.n a ((m:Nat):Int) else if x.kind=8 then spT (fun a t g=>spW k a t (unsetV k g)) a wt g else g)=withinV s x k (giveV s k) a m g) ∧
    ∀ u,(if x.kind=7 then WayF s k a m u else if x.kind=8 then WayT x (fun a e w=>WayF s k a e w) 0 a m u else u=.nil∧oneV x s a spZero=some (m - a))→u=wt∨0 < betterV wt u:=by
   unfold nodeS at q1
   unfold withinV
   by_cases h7:x.kind=7
   ·rw [if_pos h7] at q1
    obtain ⟨wt,t1,t2,t3⟩:=ihk a m q3 (by omega) q1
    simp only [if_pos h7]
    exact ⟨wt,t1,fun g=>by rw [t2],t3⟩
   ·rw [if_neg h7] at q1
    by_cases h8:x.kind=8
    ·rw [if_pos h8] at q1
     simp only [if_neg h7,if_pos h8]
     exact best_turns (S:=fun a t g=>spW k a t (unsetV k g)) (endsF_rises s k) (fun a e v ha h=>wayF_ends a e v ha h) (fun a e h1 h2 h3=>by
      obtain ⟨w,t1,t2,t3⟩:=ihk a e h1 h2 h3
      exact ⟨w,t1,fun g=>t2 _,t3⟩) _ 0 a m q3 (by omega) (by omega) q1
    ·rw [if_neg h8] at q1
     simp only [if_neg h7,if_neg h8]
     cases ho:oneV x s a spZero with
     | none=>rw [ho] at q1;cases q1
     | some l =>
      rw [ho] at q1
      have e1:m=a+l:=by simpa [one1] using q1
      exact ⟨.nil,⟨rfl,by congr 1;omega⟩,fun g=>trivial,fun u hu=>.inl hu.1⟩
  obtain ⟨wt,t1,t2,t3⟩:=hN
  refine ⟨.cons (m - a) wt wr,⟨m - a,wt,wr,rfl,by rw [hm];exact t1,by rw [hm];exact r1⟩,fun g=>?_,fun u hu=>?_⟩
  ·rw [hL,spW]
   simp only [Wy.hd,hm]
   rw [t2,r2]
  ·obtain ⟨l2,t2',r2',rfl,u1,u2⟩:=hu
   have u5:nodeS s x (endsF s k) a (a+l2)=true:=by
    unfold nodeS
    split at u1
    ·rename_i h7
     rw [if_pos h7]
     exact wayF_ends a _ t2' (by omega) u1
    ·rename_i h7
     rw [if_neg h7]
     split at u1
     ·rename_i h8
      rw [if_pos h8]
      exact wayT_turns (endsF_rises s k) (fun a e v ha h=>wayF_ends a e v ha h) t2' 0 a _ (by omega) u1
     ·rename_i h8
      rw [if_neg h8,u1.2]
      simp [one1]
   have u6:=(nodeS_rises (endsF_rises s k) a _ (by omega) u5).2
   have u7:=wayF_ends _ e r2' u6 u2
   have u8:=(endsF_rises s r _ e u6 u7).1
   have u9:=hmax (a+l2) u8 u5 u7
   rcases Nat.lt_or_ge l2 (m - a) with h | h
   ·exact .inr (better_lt _ _ _ _ h)
   ·have hl:m - a=l2:=by omega
    have hl2:m=a+l2:=by omega
    rw [hl]
    subst hl2
    refine better_eq (t3 _ ?_) (r3 _ u2)
    rw [show a+l2 - a=l2 by omega]
    exact u1
theorem bestS_is (M:St):∀ (l:List St) (b:St),M ∈ b::l→(∀ t ∈ b::l,t.1≤M.1∧(t.1=M.1→t=M∨0 < betterV M.2.2 t.2.2))→bestS b l=M
 | [],b,hM,_=>by
  simp only [List.mem_singleton] at hM
  exact hM.symm
 | t::l,b,hM,h=>by
  simp only [bestS]
  have hb:=h b (by simp)
  have ht:=h t (by simp)
  have key:M ∈ (if betS t b then t else b)::l:=by
   rw [List.mem_cons,List.mem_cons] at hM
   rcases hM with rfl | rfl | hM
   ·have:betS t M=false∨t=M:=by
     by_cases e:t=M
     ·exact .inr e
     ·refine .inl ?_
      unfold betS
      rw [Bool.or_eq_false_iff]
      refine ⟨decide_eq_false (by omega),?_⟩
      rw [Bool.and_eq_false_iff]
      by_cases e1:t.1=M.1
      ·rcases ht.2 e1 with h2 | h2
       ·exact absurd h2 e
       ·refine .inr (decide_eq_false ?_)
        rw [betterV_neg]
        omega
      ·exact .inl (decide_eq_false e1)
    rcases this with h2 | h2
    ·rw [h2];simp
    ·subst h2;simp
   ·have:betS M b=true∨b=M:=by
     by_cases e1:b.1=M.1
     ·rcases hb.2 e1 with h2 | h2
      ·exact .inr h2
      ·refine .inl ?_
       unfold betS
       simp [e1,h2]
     ·refine .inl ?_
      unfold betS
      simp only [Bool.or_eq_true,decide_eq_true_eq]
      exact .inl (by omega)
    rcases this with h2 | h2
    ·rw [h2];simp
    ·subst h2;simp
   ·exact List.mem_cons_of_mem _ hM
  refine bestS_is M l _ key fun u hu=>?_
  rw [List.mem_cons] at hu
  rcases hu with rfl | hu
  ·split
   ·exact ht
   ·exact hb
  ·exact h u (by simp [hu])
theorem maxOf_cases (P:Pl):∀ n,(maxOf P n=none∧∀ i,i≤n→P i=false)∨∃ e,maxOf P n=some e∧P e=true∧e≤n∧∀ i,i≤n→P i=true→i≤e:=by
 intro n
 induction n with
 | zero =>
  unfold maxOf
  cases h:P 0 with
  | true=>exact .inr ⟨0,rfl,h,Nat.le_refl _,fun i hi _=>hi⟩
  | false=>exact .inl ⟨rfl,fun i hi=>(show i=0 by omega) ▸ h⟩
 | succ n ih =>
  unfold maxOf
  cases h:P (n+1) with
  | true=>exact .inr ⟨n+1,rfl,h,Nat.le_refl _,fun i hi _=>hi⟩
  | false =>
   rw [if_neg (by decide)]
   rcases ih with ⟨h1,h2⟩ | ⟨e,h1,h2,h3,h4⟩
   ·refine .inl ⟨h1,fun i hi=>?_⟩
    by_cases e:i=n+1
    ·rw [e];exact h
    ·exact h2 i (by omega)
   ·refine .inr ⟨e,h1,h2,by omega,fun i hi hp=>?_⟩
    by_cases e2:i=n+1
    ·rw [e2,h] at hp;cases hp
    ·exact h4 i (by omega) hp
theorem allR_plain {s:List UInt8} {f:Fr} {most:Int} (h0:0≤most) (hf:NoRf f):∀ (m a n:Nat),a+m=s.length+1→((allR s f most m a n).2.2:Int)≤most →
  (match plainV s f m a with | none=>((allR s f most m a n).1,(allR s f most m a n).2.1)=(spZero,false) | some g=>((allR s f most m a n).1,(allR s f most m a n).2.1)=(g,true)):=by
 intro m
 induction m with
 | zero=>intro a n _ _;rfl
 | succ m ih =>
  intro a n ham hle
  have hov:∀ k:Nat,ovN most k=decide (most < (k:Int)):=fun k=>by
   unfold ovN
   rw [decide_eq_true h0,Bool.true_and]
  have hup:∀ (m a k:Nat),ovN most k=true→(allR s f most m a k).2.2=k:=by
   intro m a k hk
   cases m with
   | zero=>rfl
   | succ m=>unfold allR;rw [if_pos hk]
  have hno:ovN most n=false:=by
   cases ho:ovN most n with
   | false=>rfl
   | true =>
    rw [hup _ _ _ ho] at hle
    rw [hov,decide_eq_true_eq] at ho
    omega
  have hsay:=row_says (most:=most) (s:=s) f a spNone
  have eR:allR s f most (m+1) a n=match (rowR10 s most f a spNone n).1 with
    | []=>allR s f most m (a+1) (rowR10 s most f a spNone n).2
    | t::l=>if ovN most (rowR10 s most f a spNone n).2 then allR s f most m (a+1) (rowR10 s most f a spNone n).2
     else (spSet (bestS t l).2.1 0 a (bestS t l).1,true,(rowR10 s most f a spNone n).2):=by
   conv=>lhs;unfold allR
   rw [if_neg (by rw [hno];decide)]
   rfl
  rw [eR] at hle ⊢
  cases hT:ovN most (n+tickE (evR s f a spNone .nil)) with
  | true =>
   exfalso
   have h1:=hsay.no n hno hT
   have h2:=h1
   rw [hov,decide_eq_true_eq] at h2
   cases hl:(rowR10 s most f a spNone n).1 with
   | nil=>rw [hl] at hle;dsimp only at hle;rw [hup _ _ _ h1] at hle;omega
   | cons t l=>rw [hl] at hle;dsimp only at hle;rw [if_pos h1,hup _ _ _ h1] at hle;omega
  | false =>
   have hy:=hsay.yes n hT
   rw [hy] at hle ⊢
   have ha:a≤s.length:=by omega
   have hout:=evR_outs (s:=s) hf a spNone .nil
   generalize tickE (evR s f a spNone .nil)=T at *
   generalize outsE (evR s f a spNone .nil)=L at *
   unfold plainV
   rcases maxOf_cases (endsF s f a) s.length with ⟨h1,h2⟩ | ⟨e,h1,h2,h3,h4⟩
   ·rw [h1]
    dsimp only
    cases L with
    | nil=>exact ih (a+1) (n+T) (by omega) hle
    | cons t l =>
     exfalso
     obtain ⟨e,g,v⟩:=t
     obtain ⟨w,hw,_,_⟩:=(hout e g v ha).1 (by simp)
     have hr:=wayF_le a e w ha hw
     have:=wayF_ends a e w ha hw
     rw [h2 e hr.2] at this
     cases this
   ·rw [h1]
    dsimp only
    have hr:=endsF_rises s f a e ha h2
    obtain ⟨w,b1,b2,b3⟩:=best_row a e hr.1 h3 h2
    have hM:(e,giveV s f a e spNone,w) ∈ L:=(hout e _ w ha).2 ⟨w,b1,(b2 spNone).symm,rfl⟩
    cases L with
    | nil=>cases hM
    | cons t l =>
     have hbest:bestS t l=(e,giveV s f a e spNone,w):=by
      refine bestS_is _ l t hM fun u hu=>?_
      obtain ⟨e2,g2,v2⟩:=u
      obtain ⟨w2,k1,k2,k3⟩:=(hout e2 g2 v2 ha).1 hu
      obtain rfl:v2=w2:=k3
      have hr2:=wayF_le a e2 v2 ha k1
      refine ⟨h4 e2 hr2.2 (wayF_ends a e2 v2 ha k1),fun he=>?_⟩
      have he:e2=e:=he
      subst he
      rcases b3 v2 k1 with h | h
      ·subst h
       exact .inl (by rw [k2,b2])
      ·exact .inr h
     dsimp only
     rw [if_neg (by rw [hT];decide),hbest]
end Go.Proofs.YtnjagecmhdagkaaGreatDoor
