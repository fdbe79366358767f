/-
 Several texts of the proof: MatAt, MatRfP, MatRfQ, MatRfR, MatFitP, MatFitV, MatRfS.
-/
import Derived.Test.YtnjagecmhdagkaaGreatDoorPk30
import Derived.Test.YtnjagecmhdagkaaGreatDoorPk15
import Derived.Test.YtnjagecmhdagkaaGreatDoorPk16
import Derived.Test.YtnjagecmhdagkaaGreatDoorPk17
set_option linter.unusedSimpArgs false
set_option linter.unusedVariables false
set_option maxRecDepth 3000
/-
  Matches: what a pattern matches in a text (at, is), as the laws ask it.
-/
namespace Go.Proofs.YtnjagecmhdagkaaGreatDoor
open Go.RowKit
def atR (p s:List UInt8) (k:Int):Spn × Bool:=match patV p with
 | none=>(spZero,false)
 | some y=>((matchR s y.1 y.2.refs k 200000).1,(matchR s y.1 y.2.refs k 200000).2.1 && decide ((matchR s y.1 y.2.refs k 200000).2.2=0))
attribute [local go_sem ↓] ldSp_eq stSp_eq zeroSp bldSp_eq
attribute [local go_sem] loadSp loadSp_if storeSp storeSp_if spC_one bldSp_run
section
variable {p s:List UInt8} {k:Int}
set_option maxRecDepth 100000 in
set_option maxHeartbeats 4000000 in
theorem at_any (p s:List UInt8) (k:Int) (hp:p.length≤1000000) (hs:s.length≤60000) (w:World) (hw:Sane w) (htz:TzAt w) :
  Calls Tryz.prog 21 #[.string (tx p),.string (tx s),.int .i64 k] w fun e w'=>(e=.returned (.tuple #[spV (atR p s k).1,.bool (atR p s k).2])∧(atR p s k).1.length=20)∧Grows w w':=by
 have h1:=over_zero
 have hz:(spC spZero).size=20:=by rw [spC_size];rfl
 obtain ⟨R,hR⟩:∃ R,atR p s k=R:=⟨_,rfl⟩
 rw [hR]
 have HR:=Lib.hid hR
 have HTZ:=Lib.hid htz
 have hb1:blk (w.alloc (.cells (spC spZero) 35)) w.heap.size=spC spZero:=blk_alloc_at _ _ _ _ rfl
 have hg1:Grows w (w.alloc (.cells (spC spZero) 35)):=(Grows.refl _).alloc _
 have hcall:=bre_parse p (w.alloc (.cells (spC spZero) 35)) hp (hw.grows hg1)
 clear hR htz hw
 go_enter Tryz.func21,Tryz.ntmps21
 go_upto_region 1 with fail
 obtain ⟨rb,hrb⟩:∃ z,z=w.heap.size:=⟨_,rfl⟩
 rw [← hrb] at hb1 ⊢
 have HRB:Hid (w.heap.size≤rb):=Lib.hid (by omega)
 have HB1:=Lib.hid hb1
 have HG1:=Lib.hid hg1
 clear hrb hb1 hg1
 generalize w.alloc (.cells (spC spZero) 35)=w1 at *
 go_wp2_with fail
 (with_reducible refine hcall.mono ?_)
 rintro e9 w2 hpost
 clear hcall
 cases hpv:patV p with
 | none =>
  rw [hpv] at hpost
  obtain ⟨rfl,hg2⟩:=hpost
  have hRR:(spZero,false)=R:=by rw [← HR.out];unfold atR;rw [hpv]
  subst hRR
  have hb2:=blkG HB1.out (by omega) hg2
  have hsame:setBlk w2 rb (spC spZero)=w2:=Blk.same hb2 (by omega)
  have iR:InHeap rb w2:=Blk.inHeap hb2 (by omega)
  have HG2:=Lib.hid (HG1.out.trans hg2)
  clear hpv hg2
  go_wp2_with fail
  exact bodyPost_ret (results_sp2 6 7 rfl rfl rfl hb2 hz) rfl ⟨⟨rfl,rfl⟩,HG2.out⟩
 | some y =>
  rw [hpv] at hpost
  obtain ⟨g,rfl,hre,hgl,hg2⟩:=hpost
  obtain ⟨n1,n2,n3⟩:=patV_nd hpv
  have hRR:((matchR s y.1 y.2.refs k 200000).1,(matchR s y.1 y.2.refs k 200000).2.1 && decide ((matchR s y.1 y.2.refs k 200000).2.2=0))=R:=by rw [← HR.out];unfold atR;rw [hpv]
  have hm:=match_any (k:=k) (fuel:=200000) hs y.1 y.2 n1 (by omega) (fun _=>by decide) _ g w2 hre (HTZ.out.grows (HG1.out.trans hg2))
  have hb2:=blkG HB1.out (by omega) hg2
  have HB2:=Lib.hid hb2
  have HG2:=Lib.hid (HG1.out.trans hg2)
  have HRR:=Lib.hid hRR
  clear hpv hg2 hb2 hre hgl n1 n2 n3 HR hRR
  obtain ⟨M,hM⟩:∃ M,matchR s y.1 y.2.refs k 200000=M:=⟨_,rfl⟩
  rw [hM] at hm HRR
  clear hM
  go_wp2_with fail
  (with_reducible refine hm.mono ?_)
  rintro e9 w3 ⟨⟨rfl,hl⟩,hg3⟩
  obtain ⟨g3,b3,x3⟩:=M
  unfold mtV
  dsimp only at hl HRR ⊢
  have hb3:=blkG HB2.out (by omega) hg3
  have hgs:(spC g3).size=20:=by rw [spC_size];exact hl
  have hspn:span (spC g3) 0 20=spC g3:=span_all hgs
  have hov:over (spC spZero) 0 (spC g3)=spC g3:=over_all (by omega)
  have iR:InHeap rb w3:=Blk.inHeap hb3 (by omega)
  have hF:blk (setBlk w3 rb (spC g3)) rb=spC g3:=Blk.get _ hb3 (by omega)
  have hGF:Grows w (setBlk w3 rb (spC g3)):=Chg.grows (n:=0) (HG2.out.trans hg3) (chg_setBlkM (K:=fun b=>b=rb) rfl) fun b hb=>by have:=HRB.out;omega
  have HF:=Lib.hid (And.intro (blkG hF (by omega) ((Grows.refl _).alloc (.cells (spC g3) 35))) (hGF.trans ((Grows.refl _).alloc (.cells (spC g3) 35))))
  clear hF hGF hm
  obtain ⟨z,hz3⟩:∃ z,decide (x3=0)=z:=⟨_,rfl⟩
  rw [hz3] at HRR
  have hz4:(x3 == (0:Int))=z:=by rw [← hz3,Bool.eq_iff_iff];simp
  clear hz3
  cases b3 with
  | false =>
   go_wp2_with fail
   exact bodyPost_ret (results_sp2 6 7 rfl rfl rfl HF.out.1 hgs) rfl ⟨⟨by rw [← HRR.out];rfl,by rw [← HRR.out];exact hl⟩,HF.out.2⟩
  | true =>
   go_wp2_with fail
   exact bodyPost_ret (results_sp2 6 7 rfl rfl rfl HF.out.1 hgs) rfl ⟨⟨by rw [← HRR.out];rfl,by rw [← HRR.out];exact hl⟩,HF.out.2⟩
end
end Go.Proofs.YtnjagecmhdagkaaGreatDoor
namespace Go.Proofs.YtnjagecmhdagkaaGreatDoor
open Go.RowKit
abbrev St:=Nat × Spn × Wy
def Wy.app:Wy→Wy→Wy
 | .nil,b=>b
 | .cons l k r,b=>.cons l k (r.app b)
theorem Wy.app_nil:∀ a:Wy,a.app .nil=a
 | .nil=>rfl
 | .cons l k r=>by simp [Wy.app,Wy.app_nil r]
theorem Wy.app_assoc:∀ a b c:Wy,(a.app b).app c=a.app (b.app c)
 | .nil,b,c=>rfl
 | .cons l k r,b,c=>by simp [Wy.app,Wy.app_assoc r]
theorem Wy.snoc_app:∀ (a:Wy) (l:Nat) (k b:Wy),(a.snoc l k).app b=a.app (.cons l k b)
 | .nil,l,k,b=>rfl
 | .cons l0 k0 r,l,k,b=>by simp [Wy.snoc,Wy.app,Wy.snoc_app r]
def outsE:List Ev→List St
 | []=>[]
 | .tick::l=>outsE l
 | .out a g ws::l=>(a,g,ws)::outsE l
def tickE:List Ev→Nat
 | []=>0
 | .tick::l=>tickE l+1
 | .out _ _ _::l=>tickE l
theorem outsE_app:∀ l m:List Ev,outsE (l++m)=outsE l++outsE m
 | [],m=>rfl
 | .tick::l,m=>outsE_app l m
 | .out a g ws::l,m=>by simp [outsE,outsE_app l m]
theorem tickE_app:∀ l m:List Ev,tickE (l++m)=tickE l+tickE m
 | [],m=>by simp [tickE]
 | .tick::l,m=>by simp [tickE,tickE_app l m];omega
 | .out a g ws::l,m=>by simp [tickE,tickE_app l m]
def addW (ws:Wy) (l:List St):List St:=l.map fun t=>(t.1,t.2.1,ws.app t.2.2)
theorem addW_app (a b:Wy) (l:List St):addW a (addW b l)=addW (a.app b) l:=by simp [addW,Wy.app_assoc]
theorem addW_cat (a:Wy) (l m:List St):addW a (l++m)=addW a l++addW a m:=by simp [addW]
def ovN (most:Int) (n:Nat):Bool:=decide (0≤most) && decide (most < n)
def eachR (K:Nat→Spn→Nat→List St × Nat) (f:St→Wy):List St→Nat→List St × Nat
 | [],n=>([],n)
 | t::l,n=>(addW (f t) (K t.1 t.2.1 n).1++(eachR K f l (K t.1 t.2.1 n).2).1,(eachR K f l (K t.1 t.2.1 n).2).2)
def turnR (most:Int) (x:NdV) (R:Nat→Spn→Nat→List St × Nat) (U:Spn→Spn):Nat→Nat→Nat→Spn→Nat→List St × Nat
 | 0,_,_,_,n=>([],n)
 | F+1,d,a,g,n =>
  if (0≤x.mx∧x.mx≤d)∨ovN most n=true then ((if x.mn≤d then [(a,g,.nil)] else []),n)
  else ((if x.mn≤d then [(a,g,.nil)] else [])++(eachR (fun e g2 n=>turnR most x R U F (d+1) e g2 n) (fun t=>.cons (t.1 - a) t.2.2 .nil) ((R a (U g) n).1.filter fun t=>!(decide (x.mn≤d) && decide (t.1=a))) (R a (U g) n).2).1,
   (eachR (fun e g2 n=>turnR most x R U F (d+1) e g2 n) (fun t=>.cons (t.1 - a) t.2.2 .nil) ((R a (U g) n).1.filter fun t=>!(decide (x.mn≤d) && decide (t.1=a))) (R a (U g) n).2).2)
def rowR10 (s:List UInt8) (most:Int):Fr→Nat→Spn→Nat→List St × Nat
 | .nil,a,g,n=>([(a,g,.nil)],n)
 | .cons x k r,a,g,n =>
  if ovN most n then ([(a,g,.nil)],n)
  else
   let first:List St × Nat :=
    if x.kind=7 then (((rowR10 s most k a g n).1.map fun t=>(t.1,spSet t.2.1 x.n a t.1,.cons (t.1 - a) t.2.2 .nil)),(rowR10 s most k a g n).2)
    else if x.kind=8 then (((turnR most x (fun a g n=>rowR10 s most k a g n) (unsetV k) (fuelK s.length x a 0) 0 a g n).1.map fun t=>(t.1,t.2.1,.cons (t.1 - a) t.2.2 .nil)),(turnR most x (fun a g n=>rowR10 s most k a g n) (unsetV k) (fuelK s.length x a 0) 0 a g n).2)
    else match oneV x s a g with
     | none=>([],n+1)
     | some m=>([(a+m,g,.cons m .nil .nil)],n+1)
   eachR (fun e g2 n=>rowR10 s most r e g2 n) (fun t=>t.2.2) first.1 first.2
theorem ovN_le {most:Int} {n m:Nat} (h:ovN most m=false) (hnm:n≤m):ovN most n=false:=by
 unfold ovN at h ⊢
 cases h1:decide (0≤most) with
 | false=>rfl
 | true =>
  rw [h1,Bool.true_and] at h
  simp only [Bool.true_and,decide_eq_false_iff_not] at h ⊢
  omega
theorem ovN_ge {most:Int} {n m:Nat} (h:ovN most n=true) (hnm:n≤m):ovN most m=true:=by
 cases hm:ovN most m with
 | true=>rfl
 | false=>rw [ovN_le hm hnm] at h;cases h
end Go.Proofs.YtnjagecmhdagkaaGreatDoor
namespace Go.Proofs.YtnjagecmhdagkaaGreatDoor
open Go.RowKit
def sumT (H:St→List Ev):List St→Nat
 | []=>0
 | t::l=>tickE (H t)+sumT H l
theorem outs_bind (h:Nat→Spn→Wy→List Ev):∀ l:List Ev,outsE (l.flatMap (bindE h))=(outsE l).flatMap (fun t=>outsE (h t.1 t.2.1 t.2.2))∧tickE (l.flatMap (bindE h))=tickE l+sumT (fun t=>h t.1 t.2.1 t.2.2) (outsE l)
 | []=>by simp [outsE,tickE,sumT]
 | .tick::l=>by
  obtain ⟨h1,h2⟩:=outs_bind h l
  rw [List.flatMap_cons]
  refine ⟨by rw [outsE_app];simpa [bindE,outsE] using h1,by rw [tickE_app,h2];simp [bindE,tickE,outsE];omega⟩
 | .out a g ws::l=>by
  obtain ⟨h1,h2⟩:=outs_bind h l
  rw [List.flatMap_cons]
  refine ⟨by rw [outsE_app,h1];simp [bindE,outsE],by rw [tickE_app,h2];simp [bindE,tickE,outsE,sumT];omega⟩
structure Says (most:Int) (K:Nat→List St × Nat) (l:List Ev):Prop where
 up:∀ n,n≤(K n).2
 yes:∀ n,ovN most (n+tickE l)=false→K n=(outsE l,n+tickE l)
 no:∀ n,ovN most n=false→ovN most (n+tickE l)=true→ovN most (K n).2=true
section
variable {most:Int}
theorem each_up {K:Nat→Spn→Nat→List St × Nat} {f:St→Wy}:∀ {ts:List St},(∀ t ∈ ts,∀ n,n≤(K t.1 t.2.1 n).2)→∀ n,n≤(eachR K f ts n).2
 | [],_,n=>Nat.le_refl _
 | t::l,h,n=>Nat.le_trans (h t (by simp) n) (each_up (fun t ht=>h t (by simp [ht])) _)
theorem each_says {K:Nat→Spn→Nat→List St × Nat} {f:St→Wy} {H:St→List Ev}:∀ {ts:List St},(∀ t ∈ ts,Says most (K t.1 t.2.1) (H t)) →
  (∀ n,ovN most (n+sumT H ts)=false→eachR K f ts n=(ts.flatMap (fun t=>addW (f t) (outsE (H t))),n+sumT H ts)) ∧
  (∀ n,ovN most n=false→ovN most (n+sumT H ts)=true→ovN most (eachR K f ts n).2=true)
 | [],_=>⟨fun n _=>rfl,fun n h1 h2=>by simp [sumT] at h2;rw [h1] at h2;cases h2⟩
 | t::l,h=>by
  obtain ⟨ih1,ih2⟩:=each_says (f:=f) (fun t ht=>h t (by simp [ht]):∀ t ∈ l,Says most (K t.1 t.2.1) (H t))
  have ht:=h t (by simp)
  have hup:∀ n,n≤(eachR K f l n).2:=each_up (fun t ht=>(h t (by simp [ht])).up)
  constructor
  ·intro n hn
   simp only [sumT] at hn
   have h1:=ht.yes n (ovN_le hn (by omega))
   have h2:=ih1 (n+tickE (H t)) (by rw [Nat.add_assoc];exact hn)
   simp only [eachR,h1,h2,sumT,List.flatMap_cons]
   rw [Nat.add_assoc]
  ·intro n h0 hn
   simp only [sumT] at hn
   simp only [eachR]
   cases h3:ovN most (n+tickE (H t)) with
   | true=>exact ovN_ge (ht.no n h0 h3) (hup _)
   | false =>
    rw [ht.yes n h3]
    exact ih2 _ h3 (by rw [Nat.add_assoc];exact hn)
theorem says_bind {F:Nat→List St × Nat} {l:List Ev} {K:Nat→Spn→Nat→List St × Nat} {f:St→Wy} {H:St→List Ev} {h:Nat→Spn→Wy→List Ev} (hF:Says most F l) (hK:∀ t ∈ outsE l,Says most (K t.1 t.2.1) (H t))
  (hup:∀ n,∀ t ∈ (F n).1,∀ m,m≤(K t.1 t.2.1 m).2)
  (hh:∀ t ∈ outsE l,outsE (h t.1 t.2.1 t.2.2)=addW (f t) (outsE (H t))∧tickE (h t.1 t.2.1 t.2.2)=tickE (H t)):Says most (fun n=>eachR K f (F n).1 (F n).2) (l.flatMap (bindE h)):=by
 obtain ⟨b1,b2⟩:=outs_bind h l
 have hs:sumT (fun t=>h t.1 t.2.1 t.2.2) (outsE l)=sumT H (outsE l):=by
  have:∀ ts:List St,(∀ t ∈ ts,tickE (h t.1 t.2.1 t.2.2)=tickE (H t))→sumT (fun t=>h t.1 t.2.1 t.2.2) ts=sumT H ts:=by
   intro ts
   induction ts with
   | nil=>intro _;rfl
   | cons t ts ih=>intro hx;simp only [sumT];rw [hx t (by simp),ih fun t ht=>hx t (by simp [ht])]
  exact this _ fun t ht=>(hh t ht).2
 have ho:(outsE l).flatMap (fun t=>outsE (h t.1 t.2.1 t.2.2))=(outsE l).flatMap fun t=>addW (f t) (outsE (H t)):=by
  have:∀ ts:List St,(∀ t ∈ ts,outsE (h t.1 t.2.1 t.2.2)=addW (f t) (outsE (H t)))→ts.flatMap (fun t=>outsE (h t.1 t.2.1 t.2.2))=ts.flatMap fun t=>addW (f t) (outsE (H t)):=by
   intro ts
   induction ts with
   | nil=>intro _;rfl
   | cons t ts ih=>intro hx;rw [List.flatMap_cons,List.flatMap_cons,hx t (by simp),ih fun t ht=>hx t (by simp [ht])]
  exact this _ fun t ht=>(hh t ht).1
 obtain ⟨e1,e2⟩:=each_says (f:=f) hK
 refine ⟨fun n=>Nat.le_trans (hF.up n) (each_up (hup n) _),fun n hn=>?_,fun n h0 hn=>?_⟩
 ·rw [b2,hs] at hn ⊢
  have h1:=hF.yes n (ovN_le hn (by omega))
  rw [h1,b1,ho]
  have:=e1 (n+tickE l) (by rw [Nat.add_assoc];exact hn)
  rw [this,Nat.add_assoc]
 ·rw [b2,hs] at hn
  cases h3:ovN most (n+tickE l) with
  | true=>exact ovN_ge (hF.no n h0 h3) (each_up (hup n) _)
  | false =>
   show ovN most (eachR K f (F n).1 (F n).2).2=true
   rw [hF.yes n h3]
   exact e2 _ h3 (by rw [Nat.add_assoc];exact hn)
end
end Go.Proofs.YtnjagecmhdagkaaGreatDoor
namespace Go.Proofs.YtnjagecmhdagkaaGreatDoor
open Go.RowKit
def mapE (φ:St→St):List Ev→List Ev
 | []=>[]
 | .tick::l=>.tick::mapE φ l
 | .out a g ws::l=>.out (φ (a,g,ws)).1 (φ (a,g,ws)).2.1 (φ (a,g,ws)).2.2::mapE φ l
theorem mapE_outs (φ:St→St):∀ l:List Ev,outsE (mapE φ l)=(outsE l).map φ∧tickE (mapE φ l)=tickE l
 | []=>⟨rfl,rfl⟩
 | .tick::l=>by obtain ⟨h1,h2⟩:=mapE_outs φ l;exact ⟨h1,by simp [mapE,tickE,h2]⟩
 | .out a g ws::l=>by obtain ⟨h1,h2⟩:=mapE_outs φ l;exact ⟨by simp [mapE,outsE,h1],h2⟩
theorem mapE_bind (φ:St→St) (h:Nat→Spn→Wy→List Ev):∀ l:List Ev,(mapE φ l).flatMap (bindE h)=l.flatMap (bindE fun a g ws=>h (φ (a,g,ws)).1 (φ (a,g,ws)).2.1 (φ (a,g,ws)).2.2)
 | []=>rfl
 | .tick::l=>by simp only [mapE,List.flatMap_cons,mapE_bind φ h l];rfl
 | .out a g ws::l=>by simp only [mapE,List.flatMap_cons,mapE_bind φ h l];rfl
def filtE (p:St→Bool):List Ev→List Ev
 | []=>[]
 | .tick::l=>.tick::filtE p l
 | .out a g ws::l=>if p (a,g,ws) then .out a g ws::filtE p l else filtE p l
theorem filtE_outs (p:St→Bool):∀ l:List Ev,outsE (filtE p l)=(outsE l).filter p∧tickE (filtE p l)=tickE l
 | []=>⟨rfl,rfl⟩
 | .tick::l=>by obtain ⟨h1,h2⟩:=filtE_outs p l;exact ⟨h1,by simp [filtE,tickE,h2]⟩
 | .out a g ws::l=>by
  obtain ⟨h1,h2⟩:=filtE_outs p l
  simp only [filtE]
  cases hp:p (a,g,ws) with
  | true=>simp [outsE,tickE,h1,h2,hp]
  | false=>simp [outsE,tickE,h1,h2,hp]
theorem filtE_bind (p:St→Bool) (h:Nat→Spn→Wy→List Ev):∀ l:List Ev,(filtE p l).flatMap (bindE h)=l.flatMap (bindE fun a g ws=>if p (a,g,ws) then h a g ws else [])
 | []=>rfl
 | .tick::l=>by simp only [filtE,List.flatMap_cons,filtE_bind p h l];rfl
 | .out a g ws::l=>by
  simp only [filtE,List.flatMap_cons,bindE]
  cases hp:p (a,g,ws) with
  | true=>simp only [if_true,List.flatMap_cons,filtE_bind p h l,bindE]
  | false=>simp [filtE_bind p h l]
theorem bind_congr {h h2:Nat→Spn→Wy→List Ev}:∀ {l:List Ev},(∀ t ∈ outsE l,h t.1 t.2.1 t.2.2=h2 t.1 t.2.1 t.2.2)→l.flatMap (bindE h)=l.flatMap (bindE h2)
 | [],_=>rfl
 | .tick::l,hx=>by rw [List.flatMap_cons,List.flatMap_cons,bind_congr (l:=l) hx];rfl
 | .out a g ws::l,hx=>by
  rw [List.flatMap_cons,List.flatMap_cons,bind_congr (l:=l) fun t ht=>hx t (by simp [outsE,ht])]
  have:=hx (a,g,ws) (by simp [outsE])
  simp only [bindE]
  rw [this]
theorem bind_ws {ws:Wy} {h h2:Nat→Spn→Wy→List Ev} (l:List Ev) (hh:∀ t ∈ outsE l,outsE (h t.1 t.2.1 t.2.2)=addW ws (outsE (h2 t.1 t.2.1 t.2.2))∧tickE (h t.1 t.2.1 t.2.2)=tickE (h2 t.1 t.2.1 t.2.2)) :
  outsE (l.flatMap (bindE h))=addW ws (outsE (l.flatMap (bindE h2)))∧tickE (l.flatMap (bindE h))=tickE (l.flatMap (bindE h2)):=by
 induction l with
 | nil=>exact ⟨rfl,rfl⟩
 | cons e l ih =>
  cases e with
  | tick =>
   obtain ⟨h1,h3⟩:=ih hh
   rw [List.flatMap_cons,List.flatMap_cons]
   exact ⟨by rw [outsE_app,outsE_app,h1];rfl,by rw [tickE_app,tickE_app,h3];rfl⟩
  | out a g w =>
   obtain ⟨h1,h3⟩:=ih fun t ht=>hh t (by simp [outsE,ht])
   obtain ⟨k1,k2⟩:=hh (a,g,w) (by simp [outsE])
   rw [List.flatMap_cons,List.flatMap_cons]
   exact ⟨by rw [outsE_app,outsE_app,h1];simp only [bindE];rw [k1,addW_cat],by rw [tickE_app,tickE_app,h3];simp only [bindE];rw [k2]⟩
theorem evT_ws {x:NdV} {R:Nat→Spn→List Ev} {U:Spn→Spn}:∀ (F d a:Nat) (g:Spn) (ws ws2:Wy),outsE (evT x R U F d a g (ws.app ws2))=addW ws (outsE (evT x R U F d a g ws2))∧tickE (evT x R U F d a g (ws.app ws2))=tickE (evT x R U F d a g ws2):=by
 intro F
 induction F with
 | zero=>intro d a g ws ws2;exact ⟨rfl,rfl⟩
 | succ F ih =>
  intro d a g ws ws2
  unfold evT
  have key:outsE (if 0≤x.mx∧x.mx≤d then [] else (R a (U g)).flatMap (bindE fun e g2 tw=>if a < e∨d < x.mn then evT x R U F (d+1) e g2 ((ws.app ws2).snoc (e - a) tw) else []))=addW ws (outsE (if 0≤x.mx∧x.mx≤d then [] else (R a (U g)).flatMap (bindE fun e g2 tw=>if a < e∨d < x.mn then evT x R U F (d+1) e g2 (ws2.snoc (e - a) tw) else []))) ∧
    tickE (if 0≤x.mx∧x.mx≤d then [] else (R a (U g)).flatMap (bindE fun e g2 tw=>if a < e∨d < x.mn then evT x R U F (d+1) e g2 ((ws.app ws2).snoc (e - a) tw) else []))=tickE (if 0≤x.mx∧x.mx≤d then [] else (R a (U g)).flatMap (bindE fun e g2 tw=>if a < e∨d < x.mn then evT x R U F (d+1) e g2 (ws2.snoc (e - a) tw) else [])):=by
   split
   ·exact ⟨rfl,rfl⟩
   ·refine bind_ws _ fun t _=>?_
    by_cases hc:a < t.1∨d < x.mn
    ·rw [if_pos hc,if_pos hc]
     have e1:(ws.app ws2).snoc (t.1 - a) t.2.2=ws.app (ws2.snoc (t.1 - a) t.2.2):=by
      have:∀ (u v:Wy) (l:Nat) (k:Wy),(u.app v).snoc l k=u.app (v.snoc l k):=by
       intro u v l k
       induction u with
       | nil=>rfl
       | cons l0 k0 r _ ih=>simp [Wy.app,Wy.snoc,ih]
      exact this _ _ _ _
     rw [e1]
     exact ih (d+1) t.1 t.2.1 ws _
    ·rw [if_neg hc,if_neg hc]
     exact ⟨rfl,rfl⟩
  refine ⟨?_,?_⟩
  ·rw [outsE_app,outsE_app,key.1,addW_cat]
   congr 1
   split <;> rfl
  ·rw [tickE_app,tickE_app,key.2]
   congr 1
   split <;> rfl
theorem snoc_of (ws:Wy) (l:Nat) (k:Wy):ws.snoc l k=ws.app (Wy.nil.snoc l k):=by
 induction ws with
 | nil=>rfl
 | cons l0 k0 r _ ih=>simp only [Wy.snoc,Wy.app,ih]
theorem evR_ws {s:List UInt8}:∀ {f:Fr} {a:Nat} {g:Spn} (ws:Wy),outsE (evR s f a g ws)=addW ws (outsE (evR s f a g .nil))∧tickE (evR s f a g ws)=tickE (evR s f a g .nil):=by
 intro f
 induction f with
 | nil=>intro a g ws;simp [evR,outsE,tickE,addW,Wy.app_nil]
 | cons x k r _ ihr =>
  intro a g ws
  have two:∀ (e:Nat) (g2:Spn) (l:Nat) (i:Wy),outsE (evR s r e g2 (ws.snoc l i))=addW ws (outsE (evR s r e g2 (Wy.nil.snoc l i)))∧tickE (evR s r e g2 (ws.snoc l i))=tickE (evR s r e g2 (Wy.nil.snoc l i)):=by
   intro e g2 l i
   obtain ⟨a1,a2⟩:=ihr (a:=e) (g:=g2) (ws.snoc l i)
   obtain ⟨b1,b2⟩:=ihr (a:=e) (g:=g2) (Wy.nil.snoc l i)
   exact ⟨by rw [a1,b1,addW_app,← snoc_of],by rw [a2,b2]⟩
  simp only [evR]
  split
  ·exact bind_ws _ fun t _=>two _ _ _ _
  ·split
   ·exact bind_ws _ fun t _=>two _ _ _ _
   ·split
    ·exact ⟨rfl,rfl⟩
    ·rename_i m hm
     obtain ⟨a1,a2⟩:=two (a+m) g m .nil
     exact ⟨a1,by simp [tickE,a2]⟩
theorem bind_mem {h:Nat→Spn→Wy→List Ev} {l:List Ev} {t:St} (ht:t ∈ outsE (l.flatMap (bindE h))):∃ u ∈ outsE l,t ∈ outsE (h u.1 u.2.1 u.2.2):=by
 rw [(outs_bind h l).1,List.mem_flatMap] at ht
 exact ht
theorem evT_ge {x:NdV} {R:Nat→Spn→List Ev} {U:Spn→Spn} (hR:∀ a g,∀ t ∈ outsE (R a g),a≤t.1):∀ (F d a:Nat) (g:Spn) (ws:Wy),∀ t ∈ outsE (evT x R U F d a g ws),a≤t.1:=by
 intro F
 induction F with
 | zero=>intro d a g ws t ht;cases ht
 | succ F ih =>
  intro d a g ws t ht
  unfold evT at ht
  rw [outsE_app,List.mem_append] at ht
  rcases ht with ht | ht
  ·split at ht
   ·simp [outsE] at ht;rw [ht];exact Nat.le_refl _
   ·cases ht
  ·split at ht
   ·cases ht
   ·obtain ⟨u,hu,hv⟩:=bind_mem ht
    have h1:=hR a (U g) u hu
    split at hv
    ·have:=ih (d+1) u.1 u.2.1 _ t hv;omega
    ·cases hv
theorem evR_ge {s:List UInt8}:∀ {f:Fr} {a:Nat} {g:Spn} {ws:Wy},∀ t ∈ outsE (evR s f a g ws),a≤t.1:=by
 intro f
 induction f with
 | nil=>intro a g ws t ht;simp [evR,outsE] at ht;rw [ht];exact Nat.le_refl _
 | cons x k r ihk ihr =>
  intro a g ws t ht
  simp only [evR] at ht
  split at ht
  ·obtain ⟨u,hu,hv⟩:=bind_mem ht
   have h1:=ihk u hu
   have:=ihr t hv
   omega
  ·split at ht
   ·obtain ⟨u,hu,hv⟩:=bind_mem ht
    have h1:=evT_ge (fun a g t ht=>ihk t ht) _ _ _ _ _ u hu
    have:=ihr t hv
    omega
   ·split at ht
    ·simp [outsE] at ht
    ·rename_i m hm
     have:=ihr t (by simpa [outsE] using ht)
     omega
section
variable {most:Int} {s:List UInt8}
theorem turn_up {x:NdV} {R:Nat→Spn→Nat→List St × Nat} {U:Spn→Spn} (hR:∀ a g n,n≤(R a g n).2):∀ (F d a:Nat) (g:Spn) (n:Nat),n≤(turnR most x R U F d a g n).2:=by
 intro F
 induction F with
 | zero=>intro d a g n;exact Nat.le_refl _
 | succ F ih =>
  intro d a g n
  unfold turnR
  split
  ·exact Nat.le_refl _
  ·exact Nat.le_trans (hR a (U g) n) (each_up (fun t _ n=>ih _ _ _ _) _)
theorem row_up:∀ (f:Fr) (a:Nat) (g:Spn) (n:Nat),n≤(rowR10 s most f a g n).2:=by
 intro f
 induction f with
 | nil=>intro a g n;exact Nat.le_refl _
 | cons x k r ihk ihr =>
  intro a g n
  unfold rowR10
  split
  ·exact Nat.le_refl _
  ·simp only []
   refine Nat.le_trans ?_ (each_up (fun t _ n=>ihr _ _ _) _)
   split
   ·exact ihk _ _ _
   ·split
    ·exact turn_up (fun a g n=>ihk a g n) _ _ _ _ _
    ·split <;> simp
theorem says_map {F:Nat→List St × Nat} {l:List Ev} (φ:St→St) (h:Says most F l):Says most (fun n=>((F n).1.map φ,(F n).2)) (mapE φ l):=by
 obtain ⟨m1,m2⟩:=mapE_outs φ l
 exact ⟨h.up,fun n hn=>by rw [m2] at hn ⊢;rw [h.yes n hn,m1],fun n h0 hn=>by rw [m2] at hn;exact h.no n h0 hn⟩
theorem says_filt {F:Nat→List St × Nat} {l:List Ev} (p:St→Bool) (h:Says most F l):Says most (fun n=>((F n).1.filter p,(F n).2)) (filtE p l):=by
 obtain ⟨m1,m2⟩:=filtE_outs p l
 exact ⟨h.up,fun n hn=>by rw [m2] at hn ⊢;rw [h.yes n hn,m1],fun n h0 hn=>by rw [m2] at hn;exact h.no n h0 hn⟩
theorem turn_says {x:NdV} {R:Nat→Spn→Nat→List St × Nat} {E:Nat→Spn→List Ev} {U:Spn→Spn} (hR:∀ a g,Says most (R a g) (E a g)) (hE:∀ a g,∀ t ∈ outsE (E a g),a≤t.1):∀ (F d a:Nat) (g:Spn),Says most (turnR most x R U F d a g) (evT x E U F d a g .nil):=by
 intro F
 induction F with
 | zero=>intro d a g;exact ⟨fun n=>Nat.le_refl _,fun n _=>rfl,fun n h0 hn=>by simp [evT,tickE] at hn;rw [h0] at hn;cases hn⟩
 | succ F ih =>
  intro d a g
  have hself:∀ l:List Ev,outsE ((if x.mn≤d then [Ev.out a g Wy.nil] else [])++l)=(if x.mn≤d then [(a,g,Wy.nil)] else [])++outsE l∧tickE ((if x.mn≤d then [Ev.out a g Wy.nil] else [])++l)=tickE l:=by
   intro l
   rw [outsE_app,tickE_app]
   split <;> simp [outsE,tickE]
  by_cases hmx:0≤x.mx∧x.mx≤d
  ·unfold evT
   rw [if_pos hmx]
   obtain ⟨s1,s2⟩:=hself []
   refine ⟨turn_up (fun a g n=>(hR a g).up n) _ _ _ _,fun n hn=>?_,fun n h0 hn=>?_⟩
   ·rw [s1,s2]
    unfold turnR
    rw [if_pos (.inl hmx)]
    simp [outsE,tickE]
   ·rw [s2] at hn
    simp [tickE] at hn
    rw [h0] at hn
    cases hn
  ·have hb:=says_bind (f:=fun t=>Wy.cons (t.1 - a) t.2.2 .nil) (h:=fun e g2 tw=>evT x E U F (d+1) e g2 (Wy.nil.snoc (e - a) tw)) (H:=fun t=>evT x E U F (d+1) t.1 t.2.1 .nil) (K:=fun e g2 n=>turnR most x R U F (d+1) e g2 n)
    (says_filt (fun t=>!(decide (x.mn≤d) && decide (t.1=a))) (hR a (U g))) (fun t _=>ih (d+1) t.1 t.2.1) (fun n t _ m=>turn_up (fun a g n=>(hR a g).up n) _ _ _ _ _)
    (fun t _=>by
     have:=evT_ws (x:=x) (R:=E) (U:=U) F (d+1) t.1 t.2.1 (Wy.nil.snoc (t.1 - a) t.2.2) .nil
     rw [Wy.app_nil] at this
     exact this)
   rw [filtE_bind] at hb
   have he:(E a (U g)).flatMap (bindE fun a_1 g ws=>if (!(decide (x.mn≤d) && decide (a_1=a)))=true then evT x E U F (d+1) a_1 g (Wy.nil.snoc (a_1 - a) ws) else [])=(E a (U g)).flatMap (bindE fun e g2 tw=>if a < e∨d < x.mn then evT x E U F (d+1) e g2 (Wy.nil.snoc (e - a) tw) else []):=by
    refine bind_congr fun t ht=>?_
    have h1:=hE a (U g) t ht
    by_cases hc:a < t.1∨d < x.mn
    ·rw [if_pos hc,if_pos (by simp;omega)]
    ·rw [if_neg hc,if_neg (by simp;omega)]
   rw [he] at hb
   unfold evT
   rw [if_neg hmx]
   generalize (E a (U g)).flatMap (bindE fun e g2 tw=>if a < e∨d < x.mn then evT x E U F (d+1) e g2 (Wy.nil.snoc (e - a) tw) else [])=L at hb
   obtain ⟨s1,s2⟩:=hself L
   refine ⟨turn_up (fun a g n=>(hR a g).up n) _ _ _ _,fun n hn=>?_,fun n h0 hn=>?_⟩
   ·rw [s2] at hn
    rw [s1,s2]
    have:=hb.yes n hn
    have hn0:=ovN_le hn (Nat.le_add_right n _)
    unfold turnR
    rw [if_neg (by rintro (h | h);exact hmx h;rw [hn0] at h;cases h)]
    rw [this]
   ·rw [s2] at hn
    have:=hb.no n h0 hn
    unfold turnR
    rw [if_neg (by rintro (h | h);exact hmx h;rw [h0] at h;cases h)]
    exact this
theorem row_says:∀ (f:Fr) (a:Nat) (g:Spn),Says most (rowR10 s most f a g) (evR s f a g .nil):=by
 intro f
 induction f with
 | nil =>
  intro a g
  exact ⟨fun n=>Nat.le_refl _,fun n _=>rfl,fun n h0 hn=>by simp [evR,tickE] at hn;rw [h0] at hn;cases hn⟩
 | cons x k r ihk ihr =>
  intro a g
  have fin:∀ {F:Nat→List St × Nat} {l:List Ev},Says most F l→(∀ n,ovN most n=false→rowR10 s most (.cons x k r) a g n=eachR (fun e g2 n=>rowR10 s most r e g2 n) (fun t=>t.2.2) (F n).1 (F n).2)→evR s (.cons x k r) a g .nil=l.flatMap (bindE fun e g2 w=>evR s r e g2 w)→Says most (rowR10 s most (.cons x k r) a g) (evR s (.cons x k r) a g .nil):=by
   intro F l hF h1 h2
   have hb:=says_bind (f:=fun t=>t.2.2) (h:=fun e g2 w=>evR s r e g2 w) (H:=fun t=>evR s r t.1 t.2.1 .nil) (K:=fun e g2 n=>rowR10 s most r e g2 n) hF (fun t _=>ihr t.1 t.2.1) (fun n t _ m=>row_up _ _ _ _) (fun t _=>evR_ws t.2.2)
   rw [h2]
   refine ⟨row_up _ _ _,fun n hn=>?_,fun n h0 hn=>?_⟩
   ·rw [h1 n (ovN_le hn (Nat.le_add_right n _))]
    exact hb.yes n hn
   ·rw [h1 n h0]
    exact hb.no n h0 hn
  by_cases h7:x.kind=7
  ·refine fin (says_map (fun t=>(t.1,spSet t.2.1 x.n a t.1,Wy.cons (t.1 - a) t.2.2 .nil)) (ihk a g)) (fun n h0=>?_) ?_
   ·conv=>lhs;unfold rowR10
    rw [if_neg (by rw [h0];decide)]
    simp only [h7,if_true]
   ·rw [mapE_bind]
    simp only [evR,h7,if_true]
    rfl
  ·by_cases h8:x.kind=8
   ·refine fin (says_map (fun t=>(t.1,t.2.1,Wy.cons (t.1 - a) t.2.2 .nil)) (turn_says (x:=x) (U:=unsetV k) (fun a g=>ihk a g) (fun a g t ht=>evR_ge t ht) (fuelK s.length x a 0) 0 a g)) (fun n h0=>?_) ?_
    ·conv=>lhs;unfold rowR10
     rw [if_neg (by rw [h0];decide)]
     simp only [h8,if_true]
     simp
    ·rw [mapE_bind]
     simp only [evR,h8,if_true]
     simp
     rfl
   ·refine fin (F:=fun n=>match oneV x s a g with | none=>([],n+1) | some m=>([(a+m,g,Wy.cons m .nil .nil)],n+1)) (l:=Ev.tick::(match oneV x s a g with | none=>[] | some m=>[Ev.out (a+m) g (Wy.cons m .nil .nil)])) ?_ (fun n h0=>?_) ?_
    ·refine ⟨fun n=>?_,fun n hn=>?_,fun n h0 hn=>?_⟩
     ·cases oneV x s a g <;> simp
     ·cases oneV x s a g <;> simp [outsE,tickE]
     ·cases ho:oneV x s a g with
      | none=>rw [ho] at hn;simpa [tickE] using hn
      | some m=>rw [ho] at hn;simpa [tickE] using hn
    ·conv=>lhs;unfold rowR10
     rw [if_neg (by rw [h0];decide)]
     simp only [h7,h8,if_false]
     all_goals (cases oneV x s a g <;> rfl)
    ·simp only [evR,h7,h8,if_false]
     cases oneV x s a g with
     | none=>rfl
     | some m=>simp [List.flatMap_cons,bindE];rfl
end
end Go.Proofs.YtnjagecmhdagkaaGreatDoor
namespace Go.Proofs.YtnjagecmhdagkaaGreatDoor
open Go.RowKit
structure Atm where
 c:UInt8
 any:Bool
 star:Bool
def fitB (x:Atm) (s:List UInt8) (k:Nat):Prop:=k < s.length∧(x.any=true∨x.c.toNat=ch s k)
def stepP (x:Atm) (s:List UInt8) (a i:Nat):Prop:=if x.star=true then a≤i∧∀ k,a≤k→k < i→fitB x s k else i=a+1∧fitB x s a
def FitP (s:List UInt8):List Atm→Nat→Nat→Prop
 | [],a,b=>b=a
 | x::l,a,b=>∃ i,stepP x s a i∧FitP s l i b
theorem stepP.le {x:Atm} {s:List UInt8} {a i:Nat} (h:stepP x s a i):a≤i∧(a≤s.length→i≤s.length):=by
 unfold stepP at h
 split at h
 ·refine ⟨h.1,fun ha=>?_⟩
  rcases Nat.lt_or_ge a i with h2 | h2
  ·have:=(h.2 (i - 1) (by omega) (by omega)).1;omega
  ·omega
 ·have:=h.2.1;exact ⟨by omega,fun _=>by omega⟩
theorem FitP.le {s:List UInt8}:∀ {l:List Atm} {a b:Nat},FitP s l a b→a≤b∧(a≤s.length→b≤s.length):=by
 intro l
 induction l with
 | nil=>intro a b h;rw [show b=a from h];exact ⟨Nat.le_refl _,id⟩
 | cons x l ih =>
  rintro a b ⟨i,h1,h2⟩
  have:=h1.le
  have:=ih h2
  exact ⟨by omega,fun h=>by omega⟩
end Go.Proofs.YtnjagecmhdagkaaGreatDoor
namespace Go.Proofs.YtnjagecmhdagkaaGreatDoor
open Go.RowKit
theorem spSet_0 {g:Spn} (hg:g.length=20) (a b:Int):(spSet g 0 a b).getD 0 0=a∧(spSet g 0 a b).getD 1 0=b∧∀ i,2≤i→(spSet g 0 a b).getD i 0=g.getD i 0:=by
 unfold spSet
 refine ⟨?_,?_,fun i hi=>?_⟩
 ·rw [List.getD_eq_getElem?_getD,List.getElem?_set_ne (by omega),List.getElem?_set_self (by omega)];rfl
 ·rw [List.getD_eq_getElem?_getD,List.getElem?_set_self (by rw [List.length_set];omega)];rfl
 ·rw [List.getD_eq_getElem?_getD,List.getElem?_set_ne (by omega),List.getElem?_set_ne (by omega),← List.getD_eq_getElem?_getD]
end Go.Proofs.YtnjagecmhdagkaaGreatDoor
namespace Go.Proofs.YtnjagecmhdagkaaGreatDoor
open Go.RowKit
def betS (t b:St):Bool:=decide (b.1 < t.1) || (decide (t.1=b.1) && decide (0 < betterV t.2.2 b.2.2))
def bestS:St→List St→St
 | b,[]=>b
 | b,t::l=>bestS (if betS t b then t else b) l
def allR (s:List UInt8) (f:Fr) (most:Int):Nat→Nat→Nat→Spn × Bool × Nat
 | 0,_,n=>(spZero,false,n)
 | m+1,a,n =>
  if ovN most n then (spZero,false,n)
  else match (rowR10 s most f a spNone n).1 with
   | []=>allR s f most m (a+1) (rowR10 s most f a spNone n).2
   | t::l=>if ovN most (rowR10 s most f a spNone n).2 then allR s f most m (a+1) (rowR10 s most f a spNone n).2
    else (spSet (bestS t l).2.1 0 a (bestS t l).1,true,(rowR10 s most f a spNone n).2)
theorem unset_len2:∀ {f:Fr} {g:Spn},(unsetV f g).length=g.length:=by
 intro f
 induction f with
 | nil=>intro g;rfl
 | cons x k r ihk ihr =>
  intro g
  unfold unsetV
  rw [ihr,ihk]
  split
  ·rw [spSet_len]
  ·rfl
theorem evT_len {x:NdV} {R:Nat→Spn→List Ev} {U:Spn→Spn} (hR:∀ a g,∀ t ∈ outsE (R a g),t.2.1.length=g.length) (hU:∀ g,(U g).length=g.length):∀ (F d a:Nat) (g:Spn) (ws:Wy),∀ t ∈ outsE (evT x R U F d a g ws),t.2.1.length=g.length:=by
 intro F
 induction F with
 | zero=>intro d a g ws t ht;cases ht
 | succ F ih =>
  intro d a g ws t ht
  unfold evT at ht
  rw [outsE_app,List.mem_append] at ht
  rcases ht with ht | ht
  ·split at ht
   ·simp [outsE] at ht;rw [ht]
   ·cases ht
  ·split at ht
   ·cases ht
   ·obtain ⟨u,hu,hv⟩:=bind_mem ht
    have h1:=hR a (U g) u hu
    split at hv
    ·rw [ih (d+1) u.1 u.2.1 _ t hv,h1,hU]
    ·cases hv
theorem evR_len {s:List UInt8}:∀ {f:Fr} {a:Nat} {g:Spn} {ws:Wy},∀ t ∈ outsE (evR s f a g ws),t.2.1.length=g.length:=by
 intro f
 induction f with
 | nil=>intro a g ws t ht;simp [evR,outsE] at ht;rw [ht]
 | cons x k r ihk ihr =>
  intro a g ws t ht
  simp only [evR] at ht
  split at ht
  ·obtain ⟨u,hu,hv⟩:=bind_mem ht
   rw [ihr t hv,spSet_len,ihk u hu]
  ·split at ht
   ·obtain ⟨u,hu,hv⟩:=bind_mem ht
    rw [ihr t hv]
    exact evT_len (fun a g t ht=>ihk t ht) (fun g=>unset_len2) _ _ _ _ _ u hu
   ·split at ht
    ·simp [outsE] at ht
    ·exact ihr t (by simpa [outsE] using ht)
def foldK (a:Nat) (l:List St) (σ:Sg):Sg:=l.foldl (fun σ t=>allK a t.1 t.2.1 t.2.2 σ) σ
theorem allK_sp (a e:Nat) (g:Spn) (ws:Wy) (σ:Sg):(allK a e g ws σ).spent=σ.spent∧∀ n,(allK a e g ws { σ with spent:=n })={ (allK a e g ws σ) with spent:=n }:=by
 unfold allK
 have:∀ n,allT { σ with spent:=n } e ws=allT σ e ws:=fun n=>rfl
 constructor
 ·split <;> rfl
 ·intro n
  rw [this]
  split <;> rfl
theorem foldK_sp (a:Nat):∀ (l:List St) (σ:Sg),(foldK a l σ).spent=σ.spent∧∀ n,foldK a l { σ with spent:=n }={ foldK a l σ with spent:=n }
 | [],σ=>⟨rfl,fun n=>rfl⟩
 | t::l,σ=>by
  obtain ⟨h1,h2⟩:=foldK_sp a l (allK a t.1 t.2.1 t.2.2 σ)
  obtain ⟨k1,k2⟩:=allK_sp a t.1 t.2.1 t.2.2 σ
  exact ⟨h1.trans k1,fun n=>by show foldK a l (allK a t.1 t.2.1 t.2.2 { σ with spent:=n })=_;rw [k2];exact h2 n⟩
theorem run_fold {fuel:Int} {a:Nat}:∀ (l:List Ev) (σ:Sg),(σ.spent:Int)≤fuel →
  ((σ.spent:Int)+tickE l≤fuel→runE (allK a) fuel l σ={ foldK a (outsE l) σ with spent:=σ.spent+tickE l }) ∧
  (fuel < (σ.spent:Int)+tickE l→overB fuel (runE (allK a) fuel l σ)=true)
 | [],σ,h=>⟨fun _=>rfl,fun h2=>by simp [tickE] at h2;omega⟩
 | .tick::l,σ,h=>by
  have hov:overB fuel σ=false:=by unfold overB;rw [decide_eq_false_iff_not];omega
  have e1:runE (allK a) fuel (.tick::l) σ=runE (allK a) fuel l { σ with spent:=σ.spent+1 }:=by
   rw [run_cons]
   congr 1
   unfold stepE
   rw [if_neg (by rw [hov];decide)]
  rw [e1]
  simp only [tickE]
  rcases Int.lt_or_le fuel ((σ.spent:Int)+1) with h3 | h3
  ·refine ⟨fun h2=>by omega,fun _=>?_⟩
   rw [run_over _ (by unfold overB;rw [decide_eq_true_eq];simp only [];omega)]
   unfold overB
   rw [decide_eq_true_eq]
   simp only []
   omega
  ·obtain ⟨r1,r2⟩:=run_fold (fuel:=fuel) (a:=a) l { σ with spent:=σ.spent+1 } (by simp only [];omega)
   simp only [] at r1 r2
   refine ⟨fun h2=>?_,fun h2=>r2 (by omega)⟩
   rw [r1 (by omega),(foldK_sp a (outsE l) σ).2]
   simp only [outsE]
   congr 1
   omega
 | .out e g ws::l,σ,h=>by
  have hov:overB fuel σ=false:=by unfold overB;rw [decide_eq_false_iff_not];omega
  have e1:runE (allK a) fuel (.out e g ws::l) σ=runE (allK a) fuel l (allK a e g ws σ):=by
   rw [run_cons]
   congr 1
   unfold stepE
   rw [if_neg (by rw [hov];decide)]
  have hs:=(allK_sp a e g ws σ).1
  obtain ⟨r1,r2⟩:=run_fold (fuel:=fuel) (a:=a) l (allK a e g ws σ) (by rw [hs];exact h)
  rw [hs] at r1 r2
  rw [e1]
  exact ⟨fun h2=>by rw [r1 h2];rfl,r2⟩
theorem fold_best (a:Nat):∀ (l:List St) (b:St) (n:Nat),b.2.1.length=20→(∀ t ∈ l,t.2.1.length=20)→(foldK a l ⟨n,some (spSet b.2.1 0 a b.1,b.2.2)⟩).best=some (spSet (bestS b l).2.1 0 a (bestS b l).1,(bestS b l).2.2)
 | [],b,n,_,_=>rfl
 | t::l,b,n,hb,hl=>by
  have hsp:spB (spSet b.2.1 0 a b.1) 0=(b.1:Int):=(spSet_0 hb (a:Int) (b.1:Int)).2.1
  have ht:allT ⟨n,some (spSet b.2.1 0 a b.1,b.2.2)⟩ t.1 t.2.2=betS t b:=by
   unfold allT betS
   simp only [hsp]
   congr 1
   ·rw [Bool.eq_iff_iff];simp
   ·congr 1
    rw [Bool.eq_iff_iff]
    simp
    omega
  show (foldK a l (allK a t.1 t.2.1 t.2.2 ⟨n,some (spSet b.2.1 0 a b.1,b.2.2)⟩)).best=_
  unfold allK
  rw [ht]
  simp only [bestS]
  cases betS t b with
  | true =>
   simp only [if_true]
   exact fold_best a l t n (hl t (by simp)) fun u hu=>hl u (by simp [hu])
  | false =>
   simp only [Bool.false_eq_true,if_false]
   exact fold_best a l b n hb fun u hu=>hl u (by simp [hu])
theorem all_eq {s:List UInt8} {f:Fr} {fuel:Int} (hf:0≤fuel):∀ (m a n:Nat),(n:Int)≤fuel →
  (match allF s f fuel m a ⟨n,none⟩ with
   | none=>fuel < ((allR s f fuel m a n).2.2:Int)
   | some σ=>((allR s f fuel m a n).2.2:Int)≤fuel∧(match σ.best with | none=>((allR s f fuel m a n).1,(allR s f fuel m a n).2.1)=(spZero,false) | some y=>((allR s f fuel m a n).1,(allR s f fuel m a n).2.1)=(y.1,true))):=by
 intro m
 induction m with
 | zero=>intro a n hn;exact ⟨hn,rfl⟩
 | succ m ih =>
  intro a n hn
  have hov:∀ k:Nat,ovN fuel k=decide (fuel < (k:Int)):=fun k=>by
   unfold ovN
   rw [decide_eq_true hf,Bool.true_and]
  have hsay:=row_says (most:=fuel) (s:=s) f a spNone
  obtain ⟨r1,r2⟩:=run_fold (fuel:=fuel) (a:=a) (evR s f a spNone .nil) ⟨n,none⟩ hn
  simp only [] at r1 r2
  have hup:∀ (m a k:Nat),fuel < (k:Int)→allR s f fuel m a k=(spZero,false,k):=by
   intro m a k hk
   cases m with
   | zero=>rfl
   | succ m=>unfold allR;rw [if_pos (by rw [hov];exact decide_eq_true hk)]
  have eF:allF s f fuel (m+1) a ⟨n,none⟩=if overB fuel (runE (allK a) fuel (evR s f a spNone .nil) ⟨n,none⟩) then none else allF s f fuel m (a+1) (runE (allK a) fuel (evR s f a spNone .nil) ⟨n,none⟩):=by
   conv=>lhs;unfold allF
   rw [if_neg (by simp)]
  have eR:allR s f fuel (m+1) a n=match (rowR10 s fuel f a spNone n).1 with
    | []=>allR s f fuel m (a+1) (rowR10 s fuel f a spNone n).2
    | t::l=>if ovN fuel (rowR10 s fuel f a spNone n).2 then allR s f fuel m (a+1) (rowR10 s fuel f a spNone n).2
     else (spSet (bestS t l).2.1 0 a (bestS t l).1,true,(rowR10 s fuel f a spNone n).2):=by
   conv=>lhs;unfold allR
   rw [if_neg (by rw [hov,decide_eq_true_eq];omega)]
  rw [eF,eR]
  clear eF eR
  rcases Int.lt_or_le fuel ((n:Int)+tickE (evR s f a spNone .nil)) with h | h
  ·rw [if_pos (r2 h)]
   have h1:=hsay.no n (by rw [hov,decide_eq_false_iff_not];omega) (by rw [hov,decide_eq_true_eq];omega)
   rw [hov,decide_eq_true_eq] at h1
   dsimp only
   cases (rowR10 s fuel f a spNone n).1 with
   | nil=>dsimp only;rw [hup _ _ _ h1];exact h1
   | cons t l=>dsimp only;rw [if_pos (by rw [hov];exact decide_eq_true h1),hup _ _ _ h1];exact h1
  ·have hy:=hsay.yes n (by rw [hov,decide_eq_false_iff_not];omega)
   rw [r1 h,hy]
   have hno:overB fuel ⟨n+tickE (evR s f a spNone .nil),(foldK a (outsE (evR s f a spNone .nil)) ⟨n,none⟩).best⟩=false:=by
    unfold overB
    rw [decide_eq_false_iff_not]
    simp only []
    omega
   rw [if_neg (by rw [hno];decide)]
   have hlen:=evR_len (s:=s) (f:=f) (a:=a) (g:=spNone) (ws:=.nil)
   generalize tickE (evR s f a spNone .nil)=T at *
   generalize outsE (evR s f a spNone .nil)=L at *
   cases L with
   | nil =>
    dsimp only
    exact ih (a+1) (n+T) (by omega)
   | cons t l =>
    dsimp only
    rw [if_neg (by rw [hov,decide_eq_true_eq];omega)]
    have hb:(foldK a (t::l) ⟨n,none⟩).best=some (spSet (bestS t l).2.1 0 a (bestS t l).1,(bestS t l).2.2):=by
     show (foldK a l (allK a t.1 t.2.1 t.2.2 ⟨n,none⟩)).best=_
     unfold allK
     rw [if_pos (show allT ⟨n,none⟩ t.1 t.2.2=true from rfl)]
     exact fold_best a l t n (hlen t (by simp)) fun u hu=>hlen u (by simp [hu])
    have hall:allF s f fuel m (a+1) { foldK a (t::l) ⟨n,none⟩ with spent:=n+T }=some { foldK a (t::l) ⟨n,none⟩ with spent:=n+T }:=by
     cases m with
     | zero=>rfl
     | succ m=>unfold allF;rw [if_pos (by simp only [];rw [hb];rfl)]
    rw [hall]
    dsimp only
    rw [hb]
    exact ⟨by omega,rfl⟩
end Go.Proofs.YtnjagecmhdagkaaGreatDoor
