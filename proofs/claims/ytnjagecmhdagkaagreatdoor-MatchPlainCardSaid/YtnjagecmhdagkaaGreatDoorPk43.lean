/-
 Several texts of the proof: MatPb, MatWaP, MatPd.
-/
import Derived.Test.YtnjagecmhdagkaaGreatDoorPk42
import Derived.Test.YtnjagecmhdagkaaGreatDoorPk40
import Derived.Test.YtnjagecmhdagkaaGreatDoorPk35
import Derived.Test.YtnjagecmhdagkaaGreatDoorPk15
set_option linter.unusedSimpArgs false
set_option linter.unusedVariables false
set_option maxRecDepth 3000
/-
  Matches, the document's table: the ends of one, too (join); where a node without kids may end (plain), walked.
-/
namespace Go.Proofs.YtnjagecmhdagkaaGreatDoor
open Go.RowKit
set_option maxHeartbeats 2000000 in
theorem djoin_any {w:World} {ga gb n ca cb:Nat} {P Q:Nat→Bool} (ha:blk w ga=BA (n+1) P) (hb:blk w gb=BA (n+1) Q) (hne:gb≠ga) (hn:n≤100000) :
  Calls Tryz.prog 49 #[.slice (some ⟨ga,0,none⟩) (n+1) ca,.slice (some ⟨gb,0,none⟩) (n+1) cb] w fun e w'=>e=.returned (.tuple #[])∧blk w' ga=BA (n+1) (fun j=>P j || Q j)∧Chg (fun b=>b=ga) w w':=by
 have HA:=Lib.hid ha
 have HB:=Lib.hid hb
 have HNE:=Lib.hid hne
 clear ha hb hne
 go_enter Tryz.func49,Tryz.ntmps49
 go_wp2_with fail
 go_loopg [4] (n+1) (fun q v4 wr=>∃ i:Nat,q+i=n+1∧v4=.int .i64 i∧blk wr ga=BA (n+1) (fun j=>P j || (decide (j < i) && Q j))∧Chg (fun b=>b=ga) w wr)
 case atStart=>exact ⟨0,by omega,rfl,by rw [HA.out];exact BA_ext fun k _=>by simp,Chg.refl _ _⟩
 case round =>
  obtain ⟨i,hq,rfl,hM,hC⟩:=hrel
  have HQ:=Lib.hid hq
  have hiW:i≤n+1:=by omega
  have HM:=Lib.hid hM
  have HC:=Lib.hid hC
  clear hq hM hC
  by_cases hi:i < n+1
  ·have hix:(i:Int) < (n:Int)+1:=by omega
   have c0:=(Blk.cell HM.out (ba_pos _ _) i).trans (BA_get hi)
   have c1:=(Blk.cell ((chg_blk HC.out (Blk.inHeap HB.out (ba_pos _ _)) HNE.out).trans HB.out) (ba_pos _ _) i).trans (BA_get hi)
   have hfr:=fun k=>Blk.free HM.out (ba_pos _ _) k
   have ia:=Blk.inHeap HM.out (ba_pos _ _)
   rw [show (P i || (decide (i < i) && Q i))=P i by simp] at c0
   obtain ⟨pv,hpv⟩:∃ z,P i=z:=⟨_,rfl⟩
   obtain ⟨qv,hqv⟩:∃ z,Q i=z:=⟨_,rfl⟩
   rw [hpv] at c0
   rw [hqv] at c1
   have hput:=put_bool HM.out (by omega) i (pv || qv)
   have hfin:BA (n+1) (fun j=>if j=i then (pv || qv) else (P j || (decide (j < i) && Q j)))=BA (n+1) (fun j=>P j || (decide (j < i+1) && Q j)):=BA_ext fun k _=>by
    by_cases h:k=i
    ·subst h
     rw [if_pos rfl,hpv,hqv,decide_eq_true (Nat.lt_succ_self k),Bool.true_and]
    ·rw [if_neg h,show decide (k < i)=decide (k < i+1) by rw [decide_eq_decide];omega]
   rw [hfin] at hput
   have HP:=Lib.hid hput
   clear hput hfin hpv hqv
   cases pv with
   | true =>
    go_wp2_with fail
    go_roundg (gk - 1)
    case measure=>have:=HQ.out;omega
    case rel=>exact ⟨i+1,by have:=HQ.out;omega,by go_num,HP.out,HC.out.trans (chg_cell _ _ _ _)⟩
   | false =>
    go_wp2_with fail
    go_roundg (gk - 1)
    case measure=>have:=HQ.out;omega
    case rel=>exact ⟨i+1,by have:=HQ.out;omega,by go_num,HP.out,HC.out.trans (chg_cell _ _ _ _)⟩
  ·have hix:¬ (i:Int) < (n:Int)+1:=by omega
   have hin:decide (i < n+1)=false:=decide_eq_false hi
   obtain rfl:i=n+1:=by omega
   go_wp2_with fail
   exact ⟨rfl,.tuple #[],results_none rfl _ _ _,rfl,by rw [HM.out];exact BA_ext fun k hk=>by rw [decide_eq_true hk,Bool.true_and],HC.out⟩
def oneP (x:NdV) (s:List UInt8) (a:Nat):Nat→Bool:=match oneV x s a spZero with
 | none=>fun _=>false
 | some m=>one1 (a+m)
structure ThreeAt (w:World) (c1 c2 c3:Array Value) (w':World):Prop where
 grows:Grows w w'
 size:w'.heap.size=w.heap.size+3
 fst:blk w' w.heap.size=c1
 snd:blk w' (w.heap.size+1)=c2
 trd:blk w' (w.heap.size+1+1)=c3
theorem ThreeAt.start (w:World) (c1 c2 c3:Array Value) (t1 t2 t3:TypeId) (h1:0 < c1.size) (h2:0 < c2.size):ThreeAt w c1 c2 c3 (((w.alloc (.cells c1 t1)).alloc (.cells c2 t2)).alloc (.cells c3 t3)):=by
 have H:=TwoAt.start w c1 c2 t1 t2
 exact ⟨H.grows.alloc _,by simp,blkG H.fst h1 ((Grows.refl _).alloc _),blkG H.snd h2 ((Grows.refl _).alloc _),blk_alloc_at _ c3 t3 _ (by simp)⟩
theorem ndR_pos (x:NdV) (K:Value):0 < (ndC x K).size:=by simp [ndA_size]
theorem oneP_cases (x:NdV) (s:List UInt8) (a:Nat) (ha:a≤s.length):(oneL x s a spZero=[]∧oneP x s a=fun _=>false)∨∃ m g ws,oneL x s a spZero=[(a+m,g,ws)]∧oneP x s a=one1 (a+m)∧a+m≤s.length:=by
 unfold oneL oneP
 cases h:oneV x s a spZero with
 | none=>exact .inl ⟨rfl,rfl⟩
 | some m=>exact .inr ⟨m,_,_,rfl,rfl,oneV_le h ha⟩
attribute [local go_sem ↓] zeroNodeR ldNodeR_eq stNodeR_eq ldSp_eq stSp_eq zeroSp
attribute [local go_sem] loadNodeR loadNodeR_if storeNodeR storeNodeR_if ndA_one_slice loadSp loadSp_if storeSp storeSp_if spC_one
theorem zeroSpB (w:World):(Instr.build 35 #[]).run Tryz.prog w=.ok (spV spZero) w:=by kernel_rfl
theorem bldDa (s:List UInt8) (w:World):(Instr.build 82 #[(0,.string (tx s)),(2,.int .i64 (-1))]).run Tryz.prog w=.ok (.agg (daC s 0 (-1))) w:=by kernel_rfl
attribute [local go_sem] zeroSpB bldDa
set_option maxRecDepth 100000 in
set_option maxHeartbeats 4000000 in
theorem dplain_any {s:List UInt8} (hs:s.length≤60000) (x:NdV) (K:Option Addr) (kl kc:Nat) (a tb:Nat) (w:World) (ht:w.cell? ⟨tb,0,none⟩=some (.string (tx s))) (ha:a≤s.length) (hn:x.kind=6→x.n < 10) :
  Calls Tryz.prog 79 #[.pointer (some ⟨tb,0,none⟩),.agg (ndC x (.slice K kl kc)),.int .i64 a] w fun e w'=>∃ b,e=.returned (.slice (some ⟨b,0,none⟩) (s.length+1) (s.length+1))∧w.heap.size≤b∧blk w' b=BA (s.length+1) (oneP x s a)∧Grows w w':=by
 have hmk:=make_bools s.length (by omega)
 have HN:=Lib.hid hn
 obtain ⟨P,hP⟩:∃ z,oneP x s a=z:=⟨_,rfl⟩
 rw [hP]
 have itb:InHeap tb w:=World.block_lt_of_cell? _ _ ht
 clear hn
 go_enter Tryz.func79,Tryz.ntmps79
 go_upto_region 3 with fail
 have HT:=Lib.hid (ThreeAt.start w (ndC x (Value.slice K kl kc)) (BA (s.length+1) fun _=>false) (daC s 0 (-1)) 91 4 82 (ndR_pos _ _) (ba_pos _ _))
 change Hid (ThreeAt w (ndC x (Value.slice K kl kc)) (BA (s.length+1) fun _=>false) (daC s 0 (-1)) (((w.alloc (Obj.cells (ndC x (Value.slice K kl kc)) 91)).alloc (Obj.cells (BA (s.length+1) fun _=>false) 4)).alloc (Obj.cells #[Value.string (tx s),Value.int IntKind.i64 0,Value.int IntKind.i64 (-1)] 82))) at HT
 generalize (((w.alloc (Obj.cells (ndC x (Value.slice K kl kc)) 91)).alloc (Obj.cells (BA (s.length+1) fun _=>false) 4)).alloc (Obj.cells #[Value.string (tx s),Value.int IntKind.i64 0,Value.int IntKind.i64 (-1)] 82))=w3 at *
 have hz3:=HT.out.size
 obtain ⟨bX,hbX⟩:∃ z,z=w.heap.size:=⟨_,rfl⟩
 obtain ⟨bO,hbO⟩:∃ z,z=w.heap.size+1:=⟨_,rfl⟩
 obtain ⟨bS,hbS⟩:∃ z,z=w.heap.size+1+1:=⟨_,rfl⟩
 have hX:=HT.out.fst
 have hO:=HT.out.snd
 have hS:=HT.out.trd
 rw [← hbX] at hX
 rw [← hbO] at hO
 rw [← hbS] at hS
 rw [← hbS,← hbO,← hbX]
 have hld:loadPart Tryz.prog w3 91 bX 0 262=.ok (.agg (ndC x (.slice K kl kc))) w3:=node_loadR (ndA_size _ _ _ _ _ _ _) fun j u hu=>by rw [Nat.zero_add];exact (Blk.cell hX (ndR_pos _ _) j).trans hu
 have hcall:=one_anyD x K kl kc s a spZero bS 0 (-1) w3 hS (spIn_zero _) ha HN.out hs (by omega)
 have HO:=Lib.hid hO
 have HG:=Lib.hid HT.out.grows
 have HB:=Lib.hid (show w.heap.size≤bO∧bO < w3.heap.size∧bO≠bS∧w.heap.size≤bS by omega)
 clear HT hz3 hX hO hS hbX hbO hbS hmk ht itb
 go_wp2_with fail
 (with_reducible refine hcall.mono ?_)
 rintro e9 w4 ⟨v,rfl,hL,-,hC⟩
 have HG4:Hid (Grows w w4):=Lib.hid (Chg.grows (n:=0) HG.out hC fun b e=>by rw [e];exact HB.out.2.2.2)
 have hO4:=(chg_blk hC HB.out.2.1 HB.out.2.2.1).trans HO.out
 have HO4:=Lib.hid hO4
 have hBO:=HB.out.1
 clear hcall hld hC HO HG HB HN hO4
 rcases oneP_cases x s a ha with ⟨hl,hp⟩ | ⟨m,g,ws,hl,hp,hle⟩
 ·rw [hl] at hL
  obtain rfl:P=fun _=>false:=hP.symm.trans hp
  obtain ⟨A,cap,xs,rfl,-,-⟩:=hL
  rw [show ([]:List St).length=0 from rfl]
  clear hl hp hP
  go_wp2_with fail
  go_loopg [10] 0 (fun q v10 wr=>v10=.int .i64 0∧wr=w4)
  case atStart=>exact ⟨rfl,rfl⟩
  case round =>
   obtain ⟨rfl,rfl⟩:=hrel
   go_wp2_with fail
   go_ret
   exact ⟨bO,rfl,hBO,HO4.out,HG4.out⟩
 ·rw [hl] at hL
  obtain rfl:P=one1 (a+m):=hP.symm.trans hp
  obtain ⟨b,o,cap,rfl,ib,-,-,-⟩:=hL.form (by simp)
  obtain ⟨A,cp,hN⟩:=hL.nth (a:=[]) rfl
  have c0:=hN.c0
  rw [show o+([]:List St).length*22=o by simp] at c0
  rw [show [(a+m,g,ws)].length=1 from rfl]
  dsimp only at c0
  have fO:=fun k=>Blk.free HO4.out (ba_pos _ _) k
  have cO:=(Blk.cell HO4.out (ba_pos _ _) (a+m)).trans (BA_get (by omega))
  have iO:=Blk.inHeap HO4.out (ba_pos _ _)
  have hput:=put_bool HO4.out (by omega) (a+m) true
  rw [show BA (s.length+1) (fun j=>if j=a+m then true else false)=BA (s.length+1) (one1 (a+m)) from BA_ext fun k _=>by unfold one1;by_cases h:k=a+m <;> simp [h]] at hput
  have HP:=Lib.hid hput
  have HGp:Hid (Grows w (w4.setCell ⟨bO,a+m,none⟩ (.bool true))):=Lib.hid (Chg.grows (n:=0) HG4.out (chg_cell w4 bO (a+m) (.bool true)) fun b e=>by rw [e];exact hBO)
  obtain ⟨am,ham⟩:∃ z,a+m=z:=⟨_,rfl⟩
  rw [ham] at c0 cO HP HGp hle hP
  have HPE:=Lib.hid ham
  have hai:(am:Int) < (s.length:Int)+1:=by omega
  clear hl hp hN hL hput ham hP
  go_wp2_with fail
  go_loopg [10] 1 (fun q v10 wr=>(q=1∧v10=.int .i64 0∧wr=w4)∨(q=0∧v10=.int .i64 1∧wr=w4.setCell ⟨bO,am,none⟩ (.bool true)))
  case atStart=>exact .inl ⟨rfl,rfl,rfl⟩
  case round =>
   rcases hrel with ⟨hq,rfl,rfl⟩ | ⟨hq,rfl,rfl⟩
   ·go_wp2_with fail
    go_roundg 0
    case measure=>omega
    case rel=>exact .inr ⟨rfl,rfl,rfl⟩
   ·go_wp2_with fail
    go_ret
    exact ⟨bO,rfl,hBO,by rw [HPE.out];exact HP.out,HGp.out⟩
end Go.Proofs.YtnjagecmhdagkaaGreatDoor
namespace Go.Proofs.YtnjagecmhdagkaaGreatDoor
open Go.RowKit
def Wy.hd:Wy→Nat × Wy × Wy
 | .nil=>(0,.nil,.nil)
 | .cons l t u=>(l,t,u)
theorem turns_iff {n:Nat} {x:NdV} {R:Nat→Pl} (hR:Rises n R) {a d j:Nat} (ha:a≤n):turnsS n x R a d j=true ↔ (x.mn≤d∧j=a)∨(¬ (0≤x.mx∧x.mx≤d)∧∃ i,i≤n∧R a i=true∧(a < i∨d < x.mn)∧turnsS n x R i (d+1) j=true):=by
 have c1:x.mn≤capD x d ↔ x.mn≤d:=by unfold capD;split <;> omega
 have c2:capD x d < x.mn ↔ d < x.mn:=by unfold capD;split <;> omega
 have c3:moreD x (capD x d)=true ↔ ¬ (0≤x.mx∧x.mx≤d):=by
  unfold moreD capD
  simp only [Bool.or_eq_true,decide_eq_true_eq]
  split <;> omega
 rw [turnsS_eq hR ha]
 simp only [Bool.or_eq_true,Bool.and_eq_true,decide_eq_true_eq,anyTo_iff,c1,c2,c3]
 refine or_congr Iff.rfl (and_congr Iff.rfl (exists_congr fun i=>?_))
 rw [turnsS_more,and_assoc]
theorem maxOf_cases (P:Pl):∀ n,(maxOf P n=none∧∀ i,i≤n→P i=false)∨∃ e,maxOf P n=some e∧P e=true∧e≤n∧∀ i,i≤n→P i=true→i≤e:=by
 intro n
 induction n with
 | zero =>
  unfold maxOf
  cases h:P 0 with
  | true=>exact .inr ⟨0,rfl,h,Nat.le_refl _,fun i hi _=>hi⟩
  | false=>exact .inl ⟨rfl,fun i hi=>(show i=0 by omega) ▸ h⟩
 | succ n ih =>
  unfold maxOf
  cases h:P (n+1) with
  | true=>exact .inr ⟨n+1,rfl,h,Nat.le_refl _,fun i hi _=>hi⟩
  | false =>
   rw [if_neg (by decide)]
   rcases ih with ⟨h1,h2⟩ | ⟨e,h1,h2,h3,h4⟩
   ·refine .inl ⟨h1,fun i hi=>?_⟩
    by_cases e:i=n+1
    ·rw [e];exact h
    ·exact h2 i (by omega)
   ·refine .inr ⟨e,h1,h2,by omega,fun i hi hp=>?_⟩
    by_cases e2:i=n+1
    ·rw [e2,h] at hp;cases hp
    ·exact h4 i (by omega) hp
end Go.Proofs.YtnjagecmhdagkaaGreatDoor
namespace Go.Proofs.YtnjagecmhdagkaaGreatDoor
open Go.RowKit
def stepTo (i:Nat) (E:Nat→Pl) (P:Pl):Pl:=fun j=>(List.range i).any fun i'=>P i' && E i' j
theorem stepTo_zero (E:Nat→Pl) (P:Pl):stepTo 0 E P=fun _=>false:=by funext j;simp [stepTo]
theorem stepTo_succ (i:Nat) (E:Nat→Pl) (P:Pl) (j:Nat):stepTo (i+1) E P j=(stepTo i E P j || (P i && E i j)):=by
 simp [stepTo,List.range_succ,List.any_append]
theorem stepTo_all (n:Nat) (E:Nat→Pl) (P:Pl):stepTo (n+1) E P=stepS n E P:=rfl
theorem endsR_snoc (s:List UInt8):∀ (a:Fr) (x:NdV) (k:Fr) (P:Pl),endsR s (a.app (.cons x k .nil)) P=stepS s.length (nodeS s x fun a=>endsR s k (one1 a)) (endsR s a P)
 | .nil,x,k,P=>rfl
 | .cons y l r,x,k,P=>by
  simp only [Fr.app,endsR]
  exact endsR_snoc s r x k _
section
variable {s:List UInt8} {f:Fr} {tb:Nat} {ow ow2:Nat→Nat} {w w' w3:World} {p:Nat→Prop}
theorem DtAt.lenChg (ht:DtAt s f tb ow2 w') (hc:Chg p w' w3) (hq:∀ b,p b→ow2 b=0):LenUp f tb w' w3:=by
 rintro j ⟨x,k⟩ hn m ⟨eb,n,ec,A,c,m',q1,q2,q3⟩
 obtain ⟨eb',ec',v,m0,ys,hE,_,_⟩:=ht.ends hn
 have e1:=hE.list
 rw [q1] at e1
 injection e1 with e1
 injection e1 with e1 e2 e3
 injection e1 with e1
 injection e1 with e1
 subst e1
 have h1:=ht.one
 have h2:=hE.low
 exact ⟨eb,n,ec,A,c,m',cellC q1 hc fun e=>by have:=hq _ e;omega,cellC q2 hc fun e=>by have:=hq _ e;omega,q3⟩
theorem DtNext.own (h:DtNext f tb ow ow2 w w') (ht:DtAt s f tb ow2 w') (hc:Chg p w' w3) (hp:∀ b,p b→w.heap.size≤b) (hq:∀ b,p b→ow2 b=0):DtNext f tb ow ow2 w w3:=⟨h.cl.own hc hp,h.len.trans (ht.lenChg hc hq)⟩
end
section
variable (s:List UInt8) (f:Fr) (tb:Nat)
def PlPost (ow:Nat→Nat) (w:World) (P:Pl) (e:Ending) (w':World):Prop:=∃ ow2 b,e=.returned (.slice (some ⟨b,0,none⟩) (s.length+1) (s.length+1))∧blk w' b=BA (s.length+1) P∧ow2 b≤1∧(ow2 b=1∨w.heap.size≤b)∧DtAt s f tb ow2 w'∧DtNext f tb ow ow2 w w'
def DrowC (l:Fr):Prop:=∀ (ow:Nat→Nat) (w:World) (I:Option Addr) (ic m a:Nat),DtAt s f tb ow w→SlZ 1 (fun b=>ow b=1) w I ic l.len (idsV l m)→AllNum (fun i x k=>nthF f i=some (x,k)) l m→a≤s.length →
 Calls Tryz.prog 28 #[.pointer (some ⟨tb,0,none⟩),.slice I l.len ic,.int .i64 a] w (PlPost s f tb ow w (endsF s l a))
def DnodeC (x:NdV) (k:Fr) (a d:Nat):Prop:=∀ (ow:Nat→Nat) (w:World) (i:Nat),DtAt s f tb ow w→nthF f i=some (x,k)→AllNum (fun i x k=>nthF f i=some (x,k)) k (i+1) →
 Calls Tryz.prog 50 #[.pointer (some ⟨tb,0,none⟩),.int .i64 i,.int .i64 a,.int .i64 d] w (PlPost s f tb ow w (nodeT s x k a d))
end
theorem idsV_at:∀ {a c:Fr} {x:NdV} {k:Fr} {m:Nat},(idsV (a.app (.cons x k c)) m)[a.len]?=some (.int .i64 ((m+a.size:Nat):Int))
 | .nil,_,_,_,_=>by simp [idsV,Fr.app,Fr.len,Fr.size]
 | .cons y l r,c,x,k,m=>by
  have:=idsV_at (a:=r) (c:=c) (x:=x) (k:=k) (m:=m+1+l.size)
  simp only [Fr.app,idsV,Fr.len,List.getElem?_cons_succ,this,Fr.size]
  congr 3
  omega
theorem ids_cell {ok:Nat→Prop} {w:World} {I:Option Addr} {ic m:Nat} {a c:Fr} {x:NdV} {k:Fr} (h:SlZ 1 ok w I ic (a.app (.cons x k c)).len (idsV (a.app (.cons x k c)) m)) :
  ∃ b o,I=some ⟨b,o,none⟩∧w.cell? ⟨b,o+a.len,none⟩=some (.int .i64 ((m+a.size:Nat):Int))∧ok b∧b < w.heap.size:=by
 have hp:0 < (a.app (.cons x k c)).len:=by rw [Fr.len_app];simp only [Fr.len];omega
 obtain ⟨b,o,rfl,h1,h2⟩:=h.rd.2 hp
 exact ⟨b,o,rfl,h2 _ _ idsV_at,h.ok hp _ rfl,h1⟩
set_option maxRecDepth 100000 in
set_option maxHeartbeats 8000000 in
theorem drow_any {s:List UInt8} {f:Fr} {tb:Nat} (hs:s.length≤900) (hf:f.size≤1000) (l:Fr) (hl:l.size≤1000) (hnode:∀ (a1:Fr) (x:NdV) (k c:Fr) (a:Nat),l=a1.app (.cons x k c)→a≤s.length→DnodeC s f tb x k a 0):DrowC s f tb l:=by
 intro ow w I ic m a ht hI hall ha
 have hmk0:=make_bools s.length (by omega)
 have HT:=Lib.hid ht
 have HI:=Lib.hid hI
 have HALL:=Lib.hid hall
 have HNODE:=Lib.hid hnode
 have HMK:=Lib.hid hmk0
 have hll:l.len≤1000:=by have:=l.len_size;omega
 obtain ⟨c0,itb⟩:=ht.str
 have itb2:InHeap tb w:=itb
 have hmk:=hmk0 w
 have hb1:blk (w.alloc (.cells (BA (s.length+1) fun _=>false) 4)) w.heap.size=BA (s.length+1) fun _=>false:=blk_alloc_at _ _ _ _ rfl
 have i1:InHeap w.heap.size (w.alloc (.cells (BA (s.length+1) fun _=>false) 4)):=Blk.inHeap hb1 (ba_pos _ _)
 have hf1:∀ k,(w.alloc (.cells (BA (s.length+1) fun _=>false) 4)).frozen? ⟨w.heap.size,k,none⟩=false:=fun k=>Blk.free hb1 (ba_pos _ _) k
 have h0c:=(Blk.cell hb1 (ba_pos _ _) a).trans (BA_get (by omega))
 have hai:(a:Int) < (s.length:Int)+1:=by omega
 have hfin:(BA (s.length+1) fun _=>false).setIfInBounds a (.bool true)=BA (s.length+1) (endsR s .nil (one1 a)):=(BA_set a true).trans (BA_ext fun k _=>by
  show (if k=a then true else false)=one1 a k
  unfold one1
  by_cases h:k=a <;> simp [h])
 have HFIN:=Lib.hid hfin
 have h00:ow w.heap.size=0:=by
  rcases Nat.eq_zero_or_pos (ow w.heap.size) with h | h
  ·exact h
  ·exact absurd (ht.old _ (by omega)) (Nat.lt_irrefl _)
 have H00:=Lib.hid h00
 clear ht hI hall hnode hmk0 hb1 hfin h00
 go_enter Tryz.func28,Tryz.ntmps28
 go_upto_region 3 with fail
 rw [HFIN.out]
 have hg1:Grows w (w.alloc (.cells (BA (s.length+1) (endsR s .nil (one1 a))) 4)):=(Grows.refl _).alloc _
 have hb1:blk (w.alloc (.cells (BA (s.length+1) (endsR s .nil (one1 a))) 4)) w.heap.size=BA (s.length+1) (endsR s .nil (one1 a)):=blk_alloc_at _ _ _ _ rfl
 obtain ⟨b1,hbb1⟩:∃ z,z=w.heap.size:=⟨_,rfl⟩
 have H00':=Lib.hid H00.out
 rw [← hbb1] at hb1 H00' ⊢
 generalize w.alloc (.cells (BA (s.length+1) (endsR s .nil (one1 a))) 4)=w1 at *
 have HG1:=Lib.hid hg1
 have HB1:=Lib.hid hb1
 have HBB:=Lib.hid (show w.heap.size≤b1 by omega)
 clear hg1 hb1 hbb1 hmk h0c hf1 i1 HFIN H00 c0 itb itb2
 go_wp2_with fail
 go_loopg [7,8,9,10] l.len (fun q v7 v8 _ _ wr=>∃ (k b:Nat) (a1 c1:Fr) (ow2:Nat→Nat),q+k=l.len∧v7=.slice (some ⟨b,0,none⟩) (s.length+1) (s.length+1)∧v8=.int .i64 k∧l=a1.app c1∧a1.len=k∧w.heap.size≤b∧ow2 b=0∧blk wr b=BA (s.length+1) (endsR s a1 (one1 a))∧DtAt s f tb ow2 wr∧DtNext f tb ow ow2 w wr)
 case atStart=>exact ⟨0,b1,.nil,l,ow,by omega,rfl,rfl,rfl,rfl,HBB.out,H00'.out,HB1.out,HT.out.grows HG1.out,DtNext.of_grows _ _ _ HG1.out⟩
 case round =>
  obtain ⟨k,b,a1,c1,ow2,hq,rfl,rfl,hl1,hk1,hwb,hob,hb,ht,hnx⟩:=hrel
  cases c1 with
  | nil =>
   have hkl:k=l.len:=by rw [hl1,Fr.app_nil];exact hk1.symm
   have hla:a1=l:=by rw [hl1,Fr.app_nil]
   subst hkl
   subst hla
   have HR:Hid (_∧_∧_∧_∧_):=Lib.hid ⟨hob,hb,hwb,ht,hnx⟩
   clear hq hl1 hk1 hwb hob hb ht hnx
   go_wp2_with fail
   go_ret
   exact ⟨ow2,b,rfl,HR.out.2.1,by rw [HR.out.1];exact Nat.zero_le _,.inr HR.out.2.2.1,HR.out.2.2.2⟩
  | cons x kk c1 =>
   have hkl:k < l.len:=by rw [hl1,Fr.len_app,hk1];simp only [Fr.len];omega
   have hki:(k:Int) < (l.len:Int):=by omega
   have HN:Hid (nthF f (m+a1.size)=some (x,kk)∧AllNum (fun i x k=>nthF f i=some (x,k)) kk (m+a1.size+1)):=Lib.hid (by
    have h:=HALL.out
    rw [hl1,AllNum.app] at h
    exact ⟨h.2.1,h.2.2.1⟩)
   have HIr:=HI.out
   rw [hl1] at HIr
   obtain ⟨bi,oi,hIe,hci,hoi,hbi⟩:=ids_cell HIr
   obtain ⟨id,hid⟩:∃ z,m+a1.size=z:=⟨_,rfl⟩
   rw [hid] at hci HN
   have hm9:id≤1000:=by have:=nthF_lt HN.out.1;omega
   rw [hk1] at hci
   have HCI:Hid (∀ w' ow',DtNext f tb ow ow' w w'→w'.cell? ⟨bi,oi+k,none⟩=some (.int .i64 (id:Nat))):=Lib.hid fun w' ow' h=>cellC hci h.cl.chg (by omega)
   subst hIe
   obtain ⟨c0,itb⟩:=ht.str
   have itb2:InHeap tb wr:=itb
   have hmk:=HMK.out wr
   have hg5:Grows wr (wr.alloc (.cells (BA (s.length+1) fun _=>false) 4)):=(Grows.refl _).alloc _
   have hb5:blk (wr.alloc (.cells (BA (s.length+1) fun _=>false) 4)) wr.heap.size=BA (s.length+1) fun _=>false:=blk_alloc_at _ _ _ _ rfl
   have HQ:=Lib.hid hq
   have HL1:=Lib.hid (And.intro hl1 hk1)
   have HOB:=Lib.hid (And.intro hob hwb)
   have HB:=Lib.hid hb
   have HT5:=Lib.hid (ht.grows hg5)
   have HNX5:=Lib.hid (hnx.trans (DtNext.of_grows f tb ow2 hg5))
   have h00:ow2 wr.heap.size=0:=by
    rcases Nat.eq_zero_or_pos (ow2 wr.heap.size) with h | h
    ·exact h
    ·exact absurd (ht.old _ (by omega)) (Nat.lt_irrefl _)
   have hbl:b < wr.heap.size:=Blk.inHeap hb (ba_pos _ _)
   have HLW:Hid (w.heap.size≤wr.heap.size):=Lib.hid hnx.cl.chg.size
   obtain ⟨gi,hgi⟩:∃ z,z=gk:=⟨_,rfl⟩
   subst hgi
   clear hq hl1 hk1 hwb hob hb ht hnx HIr hbi hci hoi hid
   go_upto_region 7 with fail
   have HB5:=Lib.hid (blkG HB.out (ba_pos _ _) hg5)
   obtain ⟨bN,hbN⟩:∃ z,z=wr.heap.size:=⟨_,rfl⟩
   rw [← hbN] at hb5 h00 ⊢
   have HNE:=Lib.hid (show b≠bN∧w.heap.size≤bN by have:=HLW.out;omega)
   generalize wr.alloc (.cells (BA (s.length+1) fun _=>false) 4)=w5 at *
   have HN5:=Lib.hid (And.intro hb5 h00)
   clear hg5 hb5 h00 hmk c0 itb itb2 hbl hbN HB HLW
   go_wp2_with fail
   go_loopg [10] (s.length+2) (fun q v10 wr=>∃ (i:Nat) (ow3:Nat→Nat),q+i=s.length+2∧i≤s.length+1∧v10=.int .i64 i∧ow3 b=0∧ow3 bN=0∧blk wr b=BA (s.length+1) (endsR s a1 (one1 a))∧blk wr bN=BA (s.length+1) (stepTo i (nodeS s x fun a=>endsF s kk a) (endsR s a1 (one1 a)))∧DtAt s f tb ow3 wr∧DtNext f tb ow ow3 w wr)
   case atStart=>exact ⟨0,ow2,by omega,by omega,rfl,HOB.out.1,HN5.out.2,HB5.out,by rw [stepTo_zero];exact HN5.out.1,HT5.out,HNX5.out⟩
   case round =>
    obtain ⟨i,ow3,hq2,hi9,rfl,hob3,hon3,hb,hbn,ht,hnx⟩:=hrel
    obtain ⟨c0,itb⟩:=ht.str
    have itb2:InHeap tb wr:=itb
    have HQ2:=Lib.hid hq2
    have HO3:=Lib.hid (And.intro hob3 hon3)
    have HB:=Lib.hid hb
    have HBN:=Lib.hid hbn
    have hci:=HCI.out _ _ hnx
    have HT6:=Lib.hid ht
    have HNX6:=Lib.hid hnx
    obtain ⟨P,hP⟩:∃ z,endsR s a1 (one1 a)=z:=⟨_,rfl⟩
    have HP:=Lib.hid hP
    rw [hP] at hb hbn
    by_cases hi:i≤s.length
    ·have hii:(i:Int)≤(s.length:Int):=by omega
     have hii2:(i:Int) < (s.length:Int)+1:=by omega
     have cb:=(Blk.cell hb (ba_pos _ _) i).trans (BA_get (by omega))
     have ib:=Blk.inHeap hb (ba_pos _ _)
     obtain ⟨pv,hpv⟩:∃ z,P i=z:=⟨_,rfl⟩
     rw [hpv] at cb
     have HPV:=Lib.hid hpv
     obtain ⟨wy,hwy⟩:∃ z,z=wr:=⟨_,rfl⟩
     subst hwy
     clear hq2 hob3 hon3 hb hbn ht hnx hP hpv
     cases pv with
     | false =>
      go_wp2_with fail
      go_roundg (gk - 1)
      case measure=>have:=HQ2.out;omega
      case rel=>exact ⟨i+1,ow3,by have:=HQ2.out;omega,by omega,by go_num,HO3.out.1,HO3.out.2,HB.out,by rw [HBN.out];exact BA_ext fun j _=>by rw [stepTo_succ,HP.out,HPV.out,Bool.false_and,Bool.or_false],HT6.out,HNX6.out⟩
     | true =>
      have hcall:=HNODE.out a1 x kk c1 i HL1.out.1 hi ow3 wy id HT6.out HN.out.1 HN.out.2
      rw [Int.natCast_zero] at hcall
      have ibi:InHeap bi wy:=World.block_lt_of_cell? _ _ hci
      go_wp2_with fail
      (with_reducible refine hcall.mono ?_)
      rintro e9 w7 ⟨ow4,bR,rfl,hR,ho4,hf4,ht4,hnx4⟩
      have hon4:ow4 bN=0:=(hnx4.cl.same bN (Blk.inHeap HBN.out (ba_pos _ _))).trans HO3.out.2
      have hob4:ow4 b=0:=(hnx4.cl.same b (Blk.inHeap HB.out (ba_pos _ _))).trans HO3.out.1
      have hbn4:=hnx4.blk HBN.out (ba_pos _ _) (by rw [HO3.out.2];exact Nat.zero_le _)
      have hb4:=hnx4.blk HB.out (ba_pos _ _) (by rw [HO3.out.1];exact Nat.zero_le _)
      have hneR:bR≠bN:=fun e=>by
       have:=Blk.inHeap HBN.out (ba_pos _ _)
       unfold InHeap at this
       rcases hf4 with h | h
       ·rw [e,hon4] at h;omega
       ·omega
      have hjoin:=djoin_any (ca:=s.length+1) (cb:=s.length+1) hbn4 hR hneR (by omega)
      have HB4:=Lib.hid hb4
      have HO4:=Lib.hid (And.intro hob4 hon4)
      have HT4:=Lib.hid ht4
      have HNX4:=Lib.hid (HNX6.out.trans hnx4)
      clear hcall hR ho4 hf4 ht4 hnx4 hon4 hob4 hbn4 hb4 hci ibi cb ib c0 itb itb2
      go_wp2_with fail
      (with_reducible refine hjoin.mono ?_)
      rintro e9 w8 ⟨rfl,hj,hc8⟩
      clear hjoin
      go_wp2_with fail
      go_roundg (gk - 1)
      case measure=>have:=HQ2.out;omega
      case rel =>
       exact ⟨i+1,ow4,by have:=HQ2.out;omega,by omega,by go_num,HO4.out.1,HO4.out.2,(chg_blk hc8 (Blk.inHeap HB4.out (ba_pos _ _)) HNE.out.1).trans HB4.out,by
        rw [hj]
        exact BA_ext fun j _=>by rw [stepTo_succ,HP.out,HPV.out,Bool.true_and];rfl,HT4.out.chg hc8 fun b e=>by rw [e];exact HO4.out.2,HNX4.out.own HT4.out hc8 (fun b e=>by rw [e];exact HNE.out.2) fun b e=>by rw [e];exact HO4.out.2⟩
    ·have hii:¬ (i:Int)≤(s.length:Int):=by omega
     have hin:decide (i≤s.length)=false:=decide_eq_false hi
     obtain rfl:i=s.length+1:=by omega
     clear hq2 hob3 hon3 hb hbn hci ht hnx hP
     go_wp2_with fail
     go_roundg (gi - 1)
     case measure=>have:=HQ.out;omega
     case rel =>
      refine ⟨k+1,bN,a1.app (Fr.one x kk),c1,ow3,by have:=HQ.out;omega,rfl,by go_num,by rw [Fr.app_assoc];exact HL1.out.1,by rw [Fr.len_app,HL1.out.2];rfl,HNE.out.2,HO3.out.2,?_,HT6.out,HNX6.out⟩
      rw [HBN.out,stepTo_all]
      unfold Fr.one
      rw [endsR_snoc]
      rfl
end Go.Proofs.YtnjagecmhdagkaaGreatDoor
