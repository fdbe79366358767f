/-
 Several texts of the proof: MatPj, MatEq, MatPlL.
-/
import Derived.Test.YtnjagecmhdagkaaGreatDoorPk46
import Derived.Test.YtnjagecmhdagkaaGreatDoorPk47
import Derived.Test.YtnjagecmhdagkaaGreatDoorPk38
import Derived.Test.YtnjagecmhdagkaaGreatDoorPk39
import Derived.Test.YtnjagecmhdagkaaGreatDoorPk16
set_option linter.unusedSimpArgs false
set_option linter.unusedVariables false
set_option maxRecDepth 3000
/-
  Matches, the document's answer for a pattern without references, walked.
-/
namespace Go.Proofs.YtnjagecmhdagkaaGreatDoor
open Go.RowKit
section
variable {s:List UInt8} {f:Fr} {tb:Nat}
theorem dgive_all (hs:s.length≤900) (hf:f.size≤1000):∀ (N:Nat) (l:Fr),l.size≤N→l.size≤1000→AllNd l→DgiveC s f tb l:=by
 intro N
 induction N with
 | zero =>
  intro l hN h9 hnd
  exact dgive_any hs hf l hnd h9 fun a1 x k c e=>by rw [e,Fr.size_app] at hN;simp only [Fr.size] at hN;omega
 | succ N ih =>
  intro l hN h9 hnd
  refine dgive_any hs hf l hnd h9 fun a1 x k c e=>?_
  have hsz:k.size+1≤l.size:=by rw [e,Fr.size_app];simp only [Fr.size];omega
  rw [e,AllNd.app] at hnd
  exact dwith_any hs hf hnd.2.1 hnd.2.2.1 (by omega) (ih k (by omega) (by omega) hnd.2.2.1)
end
def cls2 (ow:Nat→Nat):Nat→Nat:=fun b=>if ow b=3 then 2 else if ow b=0 then 0 else 1
theorem dt_of_ad {s:List UInt8} {f:Fr} {tb ic:Nat} {ow:Nat→Nat} {w:World} {vL vE:Value} {xs:List Value} {I:Option Addr} (h:AdAt s tb ow w f.size f.size vL vE xs) (hr:FlRow (fun b=>ow b=1) w f 0 xs) (hi:SlZ 1 (fun b=>ow b=1) w I ic f.len (idsV f 0)) :
  DtAt s f tb (cls2 ow) w∧SlZ 1 (fun b=>cls2 ow b=1) w I ic f.len (idsV f 0):=by
 have h1:∀ b,ow b=1→cls2 ow b=1:=fun b e=>by unfold cls2;rw [if_neg (by omega),if_neg (by omega)]
 have h2:∀ b,ow b=2→cls2 ow b=1:=fun b e=>by unfold cls2;rw [if_neg (by omega),if_neg (by omega)]
 have h3:∀ b,ow b=3→cls2 ow b=2:=fun b e=>by unfold cls2;rw [if_pos e]
 have h4:∀ b,ow b=4→cls2 ow b=1:=fun b e=>by unfold cls2;rw [if_neg (by omega),if_neg (by omega)]
 obtain ⟨LA,lc,rfl,g1,g2,g3,g4,g5⟩:=own_rdX h.rl
 obtain ⟨EA,ec,rfl,-,-,-,-,-⟩:=own_rdX h.re
 refine ⟨⟨fun b hb=>h.old b fun e=>?_,h4 tb h.one,LA,lc,EA,ec,xs,List.replicate f.size (.slice none 0 0),h.tab,⟨g3,g4,g1,g2,fun _ a e=>?_⟩,hr.mono fun b _ hb=>h1 b hb,h.re,fun b hb=>h3 b (h.oe b hb),fun i x k hn=>⟨.slice none 0 0,?_,0,[],World.ownsRow_nil _ _ _ _,(fun b hb=>by cases hb),fun j u hu=>by simp at hu⟩⟩,hi.mono fun b _ hb=>h1 b hb⟩
 ·unfold cls2 at hb
  rw [if_neg (by omega),if_pos e] at hb
  exact hb rfl
 ·obtain ⟨b,o,t⟩:=a
  exact h2 b (h.ol b (g5 b o t e).2.2.2.2)
 ·rw [List.getElem?_replicate,if_pos (nthF_lt hn)]
theorem maxOf_topD {P:Pl} {n e:Nat} (he:P e=true) (hen:e≤n) (h:∀ j,e+1≤j→j≤n→P j=false):maxOf P n=some e:=by
 rcases maxOf_cases P n with ⟨_,h2⟩ | ⟨e2,h1,h2,h3,h4⟩
 ·rw [h2 e hen] at he;cases he
 ·rw [h1]
  have h5:=h4 e hen he
  rcases Nat.lt_or_ge e e2 with h6 | h6
  ·rw [h e2 h6 h3] at h2;cases h2
  ·rw [Nat.le_antisymm h6 h5]
theorem maxOf_nilD {P:Pl} {n:Nat} (h:∀ j,j≤n→P j=false):maxOf P n=none:=by
 rcases maxOf_cases P n with ⟨h1,_⟩ | ⟨e2,h1,h2,h3,_⟩
 ·exact h1
 ·rw [h e2 h3] at h2;cases h2
def plY:Option Spn→Spn × Bool × Int
 | none=>(spZero,false,0)
 | some g=>(g,true,0)
attribute [local go_sem ↓] ldSp_eq stSp_eq zeroSp
attribute [local go_sem] loadSp storeSp storeSp_if loadSp_if spC_one
theorem bldTb (s:List UInt8) (w:World):(Instr.build 75 #[(0,.string (tx s))]).run Tryz.prog w=.ok (.agg #[.string (tx s),.slice none 0 0,.slice none 0 0]) w:=by kernel_rfl
attribute [local go_sem] bldTb
set_option maxRecDepth 100000 in
set_option maxHeartbeats 8000000 in
theorem docplain_any {s:List UInt8} (hs:s.length≤900) {fuel:Int} {f:Fr} (hnd:AllNd f) (hfz:f.size≤1000) (A:Option Addr) (cap rb:Nat) (k:Int) (x1 x2:Value) (w:World) (hrb:blk w rb=#[.slice A f.len cap,x1,x2,.bool false]) (hA:FrAt (fun _=>True) w A cap f) (hk:I64 k) :
  Calls Tryz.prog 12 #[.pointer (some ⟨rb,0,none⟩),.string (tx s),.int .i64 k,.int .i64 fuel] w fun e w'=>(e=mtV (matchR s f false k fuel)∧(matchR s f false k fuel).1.length=20)∧Grows w w':=by
 obtain ⟨Y,hY⟩:∃ z,matchR s f false k fuel=z:=⟨_,rfl⟩
 rw [hY]
 have HY:=Lib.hid hY
 have hz0:(spC spZero).size=20:=by rw [spC_size];rfl
 have hov0:=over_zero
 have hsp0:=span_zero
 have HA:=Lib.hid hA
 have HND:=Lib.hid hnd
 have HK:=Lib.hid hk
 have c3:w.cell? ⟨rb,3,none⟩=some (.bool false):=Blk.cell hrb (by simp) 3
 have c0:w.cell? ⟨rb,0,none⟩=some (.slice A f.len cap):=Blk.cell hrb (by simp) 0
 have irb:InHeap rb w:=Blk.inHeap hrb (by simp)
 clear hA hrb hnd hY hk
 go_enter Tryz.func12,Tryz.ntmps12
 go_upto_region 10 with fail
 have HT:=Lib.hid (ThreeAt.start w (spC spZero) (spC spZero) #[.string (tx s),.slice none 0 0,.slice none 0 0] 35 35 75 (by omega) (by omega))
 generalize ((w.alloc (Obj.cells (spC spZero) 35)).alloc (Obj.cells (spC spZero) 35)).alloc (Obj.cells #[.string (tx s),.slice none 0 0,.slice none 0 0] 75)=w1 at *
 have hz1:=HT.out.size
 obtain ⟨b8,hb8⟩:∃ z,z=w.heap.size:=⟨_,rfl⟩
 obtain ⟨bN,hbN⟩:∃ z,z=w.heap.size+1:=⟨_,rfl⟩
 obtain ⟨tb,htb⟩:∃ z,z=w.heap.size+1+1:=⟨_,rfl⟩
 have h8:=HT.out.fst
 have hN:=HT.out.snd
 have h3:=HT.out.trd
 rw [← hb8] at h8
 rw [← hbN] at hN
 rw [← htb] at h3
 rw [← htb,← hbN,← hb8]
 have hg1:=HT.out.grows
 have HNE:Hid (b8≠bN∧w.heap.size≤b8∧w.heap.size≤bN∧w.heap.size≤tb∧b8≠tb∧bN≠tb):=Lib.hid (by omega)
 obtain ⟨ow0,how0⟩:∃ z,(fun b=>if b=tb then 4 else if b < w.heap.size then 1 else 0)=z:=⟨_,rfl⟩
 have o1:∀ b,b < w.heap.size→ow0 b=1:=fun b hb=>by rw [← how0];show (if b=tb then 4 else if b < w.heap.size then 1 else 0)=1;rw [if_neg (by omega),if_pos hb]
 have o4:ow0 tb=4:=by rw [← how0];exact if_pos rfl
 have o0:∀ b,w.heap.size≤b→b≠tb→ow0 b=0:=fun b hb hn=>by rw [← how0];show (if b=tb then 4 else if b < w.heap.size then 1 else 0)=0;rw [if_neg hn,if_neg (by omega)]
 have hAd:AdAt s tb ow0 w1 0 0 (.slice none 0 0) (.slice none 0 0) []:=⟨fun b hb=>by
   rcases Nat.lt_or_ge b w.heap.size with h | h
   ·omega
   ·by_cases e:b=tb
    ·omega
    ·exact absurd (o0 b h e) hb,o4,h3,World.ownsRow_nil _ _ _ _,(fun b hb=>by cases hb),World.ownsRow_nil _ _ _ _,fun b hb=>by cases hb⟩
 have hFr:FrAt (fun b=>ow0 b=1) w1 A cap f:=(HA.out.mono fun b hb _=>o1 b hb).grows hg1
 have hcall:=dadd_any s tb f.size f (Nat.le_refl _) ow0 w1 0 _ _ [] A cap hAd hFr (by omega)
 have d0:=cellG c0 hg1
 have irb1:InHeap rb w1:=World.block_lt_of_cell? _ _ d0
 have H8:=Lib.hid (And.intro h8 hN)
 have HO:Hid (_∧_∧_):=Lib.hid ⟨o1,o4,o0⟩
 have HG1:=Lib.hid hg1
 clear HT hz1 hb8 hbN htb h8 hN h3 how0 o1 o4 o0 hAd hFr c0 c3 irb hg1
 go_wp2_with fail
 (with_reducible refine hcall.mono ?_)
 rintro e9 w2 ⟨ow2,vL2,vE2,ys,I,ic,rfl,hT2,hR2,hI2,hN2⟩
 rw [Nat.zero_add] at hT2
 obtain ⟨hDt,hIds⟩:=dt_of_ad hT2 hR2 hI2
 have o80:cls2 ow2 b8=0:=by unfold cls2;rw [hN2.same b8 (Blk.inHeap H8.out.1 (by omega)),HO.out.2.2 b8 HNE.out.2.1 HNE.out.2.2.2.2.1];rfl
 have oN0:cls2 ow2 bN=0:=by unfold cls2;rw [hN2.same bN (Blk.inHeap H8.out.2 (by omega)),HO.out.2.2 bN HNE.out.2.2.1 HNE.out.2.2.2.2.2];rfl
 have b80:=hN2.blk H8.out.1 (by omega) (by rw [HO.out.2.2 b8 HNE.out.2.1 HNE.out.2.2.2.2.1];exact Nat.zero_le _)
 have bN0:=hN2.blk H8.out.2 (by omega) (by rw [HO.out.2.2 bN HNE.out.2.2.1 HNE.out.2.2.2.2.2];exact Nat.zero_le _)
 have hgw:Grows w w2:=Chg.grows (n:=0) HG1.out hN2.chg fun b hb=>by
  rcases Nat.lt_or_ge b w.heap.size with h | h
  ·rw [HO.out.1 b h] at hb;omega
  ·exact h
 have hDn:DtNext f tb (fun _=>1) (cls2 ow2) w w2:=⟨⟨Chg.of_grows hgw,fun b hb=>by unfold cls2;rw [hN2.same b (Nat.lt_of_lt_of_le hb HG1.out.below.size),HO.out.1 b hb];rfl⟩,fun j y _ m ⟨eb,n,ec,A,c,m',q1,_⟩=>by
  have:=World.block_lt_of_cell? _ _ q1
  have h2:=HNE.out.2.2.2.1
  simp only [] at this
  omega⟩
 obtain ⟨ow3,how3⟩:∃ z,cls2 ow2=z:=⟨_,rfl⟩
 rw [how3] at hDt hIds o80 oN0 hDn
 have HS2:Hid (_∧_∧_∧_∧_∧_):=Lib.hid ⟨b80,bN0,o80,oN0,hDt,hDn⟩
 have HIDS:=Lib.hid hIds
 have hIn:ic≤9223372036854775807:=hIds.cap63
 have HROW:Hid (DrowC s f tb f):=Lib.hid (drow_all hs hfz _ f (Nat.le_refl _) hfz HND.out)
 have HGIVE:Hid (DgiveC s f tb f):=Lib.hid (dgive_all hs hfz _ f (Nat.le_refl _) hfz HND.out)
 clear hcall hT2 hR2 hI2 hN2 hDt hIds o80 oN0 b80 bN0 hgw hDn how3 H8 HO HG1 d0 irb1
 by_cases hkn:k < 0∨(s.length:Int) < k
 ·have hYe:Y=(spZero,false,0):=by rw [← HY.out,matchR,if_pos hkn];rfl
  subst hYe
  go_wp2_with fail
  go_loopg [17,18,19,20,21] 0 (fun q v17 _ _ _ _ wr=>v17=.int .i64 k∧wr=w2)
  case atStart=>exact ⟨rfl,rfl⟩
  case round =>
   obtain ⟨rfl,rfl⟩:=hrel
   have i8:InHeap b8 wr:=Blk.inHeap HS2.out.1 (by omega)
   have iN:InHeap bN wr:=Blk.inHeap HS2.out.2.1 (by omega)
   have hld:=loadSp_all wr bN (spC spZero) HS2.out.2.1 hz0
   have hst:=storeSp_all wr b8 (spC spZero) HS2.out.1 hz0 hz0 (spC_one _)
   rcases hkn with hkn | hkn
   ·have h1:k≤(s.length:Int):=by omega
    have h2:¬ (0:Int)≤k:=by omega
    go_wp2_with fail
    exact bodyPost_ret (results_sp4 8 9 10 rfl rfl rfl rfl (Blk.get _ HS2.out.1 (by omega)) hz0) rfl ⟨⟨rfl,rfl⟩,Chg.grows (n:=0) (Chg.grows (n:=0) (Grows.refl w) HS2.out.2.2.2.2.2.cl.chg fun b h=>by simp at h) (chg_setBlkM (K:=fun b=>b=b8) rfl) fun b e=>by rw [e];exact HNE.out.2.1⟩
   ·have h1:¬ k≤(s.length:Int):=by omega
    go_wp2_with fail
    exact bodyPost_ret (results_sp4 8 9 10 rfl rfl rfl rfl (Blk.get _ HS2.out.1 (by omega)) hz0) rfl ⟨⟨rfl,rfl⟩,Chg.grows (n:=0) (Chg.grows (n:=0) (Grows.refl w) HS2.out.2.2.2.2.2.cl.chg fun b h=>by simp at h) (chg_setBlkM (K:=fun b=>b=b8) rfl) fun b e=>by rw [e];exact HNE.out.2.1⟩
 ·obtain ⟨k0,rfl⟩:∃ k0:Nat,k=k0:=⟨k.toNat,by omega⟩
  have hk0:k0≤s.length:=by omega
  obtain ⟨R,hR⟩:∃ z,plainV s f (s.length+1 - k0) k0=z:=⟨_,rfl⟩
  have hYe:Y=plY R:=by
   rw [← HY.out,matchR,if_neg hkn,if_neg (by decide),Int.toNat_natCast,hR]
   cases R <;> rfl
  have HR:=Lib.hid hR
  have HYE:=Lib.hid hYe
  clear hYe hR HY
  go_wp2_with fail
  go_loopg [17,18,19,20,21] (s.length+1 - k0) (fun q v17 _ _ _ _ wr=>∃ (a:Nat) (ow4:Nat→Nat),q+a=s.length+1∧v17=.int .i64 a∧plainV s f q a=R∧blk wr b8=spC spZero∧blk wr bN=spC spZero∧ow4 b8=0∧ow4 bN=0∧DtAt s f tb ow4 wr∧DtNext f tb (fun _=>1) ow4 w wr∧SlZ 1 (fun b=>ow4 b=1) wr I ic f.len (idsV f 0))
  case atStart =>
   obtain ⟨s1,s2,s3,s4,s5,s6⟩:=HS2.out
   exact ⟨k0,ow3,by omega,rfl,HR.out,s1,s2,s3,s4,s5,s6,HIDS.out⟩
  case round =>
   obtain ⟨a,ow4,hq,rfl,hpl,s1,s2,s3,s4,s5,s6,s7⟩:=hrel
   have HQ:=Lib.hid hq
   have HPL:=Lib.hid hpl
   have HS4:Hid (_∧_∧_∧_∧_∧_∧_):=Lib.hid ⟨s1,s2,s3,s4,s5,s6,s7⟩
   have i8:InHeap b8 wr:=Blk.inHeap s1 (by omega)
   have iN:InHeap bN wr:=Blk.inHeap s2 (by omega)
   by_cases ha:a≤s.length
   ·have hai:(a:Int)≤(s.length:Int):=by omega
    have hcall:=HROW.out ow4 wr I ic 0 a s5 s7 (allNum_self f) ha
    obtain ⟨gi,hgi⟩:∃ z,z=gk:=⟨_,rfl⟩
    subst hgi
    clear hq hpl s1 s2 s3 s4 s5 s6 s7
    go_wp2_with fail
    (with_reducible refine hcall.mono ?_)
    rintro e9 w5 ⟨ow5,bL,rfl,hL,ho5,hf5,hT5,hN5⟩
    obtain ⟨s1,s2,s3,s4,s5,s6,s7⟩:=HS4.out
    have HS5:Hid (_∧_∧_∧_∧_∧_∧_∧_∧_):=Lib.hid ⟨hN5.blk s1 (by omega) (by rw [s3];exact Nat.zero_le _),hN5.blk s2 (by omega) (by rw [s4];exact Nat.zero_le _),(hN5.cl.same b8 (Blk.inHeap s1 (by omega))).trans s3,(hN5.cl.same bN (Blk.inHeap s2 (by omega))).trans s4,hT5,s6.trans hN5,s7.next hN5.cl,hL,ho5⟩
    obtain ⟨P,hP⟩:∃ z,endsF s f a=z:=⟨_,rfl⟩
    have HP:=Lib.hid hP
    clear hcall s1 s2 s3 s4 s5 s6 s7 hL ho5 hf5 hT5 hN5 i8 iN hP
    go_wp2_with fail
    go_loopg [19,20,21] (s.length+1) (fun q v19 _ _ wr=>∃ (t:Nat) (z:Int),q=t∧a≤t∧t≤s.length+1∧v19=.int .i64 z∧z+1=(t:Int)∧(∀ j,t≤j→j≤s.length→P j=false)∧wr=w5)
    case atStart=>exact ⟨s.length+1,s.length,rfl,by omega,Nat.le_refl _,rfl,by omega,(fun j h1 h2=>by omega),rfl⟩
    case round =>
     obtain ⟨t,z,hqt,hat,htn,rfl,hz,hno,rfl⟩:=hrel
     have HNO:=Lib.hid hno
     have HQT:=Lib.hid hqt
     obtain ⟨q',hq'⟩:∃ q',gi=q'+1:=⟨gi - 1,by have:=HQ.out;omega⟩
     have hplV:plainV s f (q'+1) a=R:=by have:=HPL.out;rwa [hq'] at this
     have HPV:=Lib.hid hplV
     have HQ':=Lib.hid hq'
     clear hno hqt hplV hq'
     by_cases hta:a < t
     ·have hti:(a:Int)≤z:=by omega
      obtain ⟨e,rfl⟩:∃ e:Nat,z=e:=⟨z.toNat,by omega⟩
      have het:e+1=t:=by omega
      have hen:e≤s.length:=by omega
      have hei:(e:Int) < (s.length:Int)+1:=by omega
      have cL:=(Blk.cell HS5.out.2.2.2.2.2.2.2.1 (ba_pos _ _) e).trans (BA_get (by omega))
      have iL:=Blk.inHeap HS5.out.2.2.2.2.2.2.2.1 (ba_pos _ _)
      rw [HP.out] at cL
      obtain ⟨pv,hpv⟩:∃ z,P e=z:=⟨_,rfl⟩
      rw [hpv] at cL
      have HPE:=Lib.hid hpv
      have HET:=Lib.hid het
      clear hpv het hz
      cases pv with
      | false =>
       go_wp2_with fail
       go_roundg (gk - 1)
       case measure=>have:=HQT.out;omega
       case rel=>exact ⟨e,(e:Int) - 1,by have:=HQT.out;have:=HET.out;omega,by omega,by omega,rfl,by omega,(fun j h1 h2=>by
        by_cases hje:j=e
        ·rw [hje];exact HPE.out
        ·exact HNO.out j (by have:=HET.out;omega) h2),rfl⟩
      | true =>
       have hmax:maxOf (endsF s f a) s.length=some e:=by
        rw [HP.out]
        exact maxOf_topD HPE.out hen fun j h1 h2=>HNO.out j (by have:=HET.out;omega) h2
       have hRs:some (spSet (giveV s f a e spNone) 0 a e)=R:=by
        have:=HPV.out
        unfold plainV at this
        rw [hmax] at this
        exact this
       have hends:endsF s f a e=true:=by rw [HP.out];exact HPE.out
       have HRS:=Lib.hid hRs
       have HEN:=Lib.hid hends
       obtain ⟨w6,hw6⟩:∃ z,z=wr:=⟨_,rfl⟩
       subst hw6
       clear hmax hRs hends
       go_wp2_with fail
       go_loopg [20] 10 (fun q v20 wr=>∃ i:Nat,q+i=10∧v20=.int .i64 i∧blk wr bN=spC (fillN i)∧Chg (fun b=>b=bN) w6 wr)
       case atStart=>exact ⟨0,by omega,rfl,HS5.out.2.1,Chg.refl _ _⟩
       case round =>
        obtain ⟨i,hq,rfl,hb,hc⟩:=hrel
        have HB:=Lib.hid hb
        have HC:=Lib.hid hc
        have hi10:i≤10:=by omega
        have hl:=fillN_len i hi10
        have hz:0 < (spC (fillN i)).size:=by rw [spC_size,hl];decide
        have ig:InHeap bN wr:=Blk.inHeap hb hz
        have hfr:∀ k,wr.frozen? ⟨bN,k,none⟩=false:=fun k=>Blk.free hb hz k
        by_cases hi:i < 10
        ·have d0:=(Blk.cell hb hz (i*2)).trans (spC_get (by omega))
         have d1:=(Blk.cell hb hz (i*2+1)).trans (spC_get (by omega))
         have hii:(i:Int) < 10:=by omega
         have hn:=fillN_next hi
         have HN:=Lib.hid hn
         have HL:=Lib.hid hl
         clear hb hc hz hl hn hi10
         generalize (fillN i).getD (i*2) 0=e0 at d0
         generalize (fillN i).getD (i*2+1) 0=e1 at d1
         go_wp2_with fail
         go_roundg (gk - 1)
         case measure=>omega
         case rel=>exact ⟨i+1,by omega,by simp,by rw [← HN.out];exact sp_put HB.out HL.out _ _,HC.out.trans (sp_chg _ _ _ _ _)⟩
        ·have hii:¬ (i:Int) < 10:=by omega
         have hin:decide (i < 10)=false:=decide_eq_false hi
         have hf:fillN i=spNone:=by rw [show i=10 by omega];decide
         rw [hf] at hb
         have hs9:(spC spNone).size=20:=by rw [spC_size];rfl
         obtain ⟨s1,s2,s3,s4,s5,s6,s7,s8,s9⟩:=HS5.out
         have hq4:∀ b,b=bN→ow5 b=0:=fun b e=>by rw [e];exact s4
         have HS7:Hid (blk wr b8=spC spZero∧blk wr bN=spC spNone∧DtAt s f tb ow5 wr∧DtNext f tb (fun _=>1) ow5 w wr):=Lib.hid ⟨(chg_blk hc (Blk.inHeap s1 (by omega)) HNE.out.1).trans s1,hb,s5.chg hc hq4,s6.own s5 hc (fun b e=>by rw [e];exact HNE.out.2.2.1) hq4⟩
         have hI7:SlZ 1 (fun b=>ow5 b=1) wr I ic f.len (idsV f 0):=s7.chg hc fun b _ h1 e=>by have:=hq4 b e;omega
         have hgc:=HGIVE.out ow5 wr I ic 0 a e spNone HS7.out.2.2.1 hI7 (allNum_self f) (by omega) hen HEN.out rfl
         obtain ⟨G,hG⟩:∃ z,giveV s f a e spNone=z:=⟨_,rfl⟩
         have hGl:G.length=20:=by rw [← hG,give_len];rfl
         rw [hG] at hgc HRS
         have hszG:(spC G).size=20:=by rw [spC_size];exact hGl
         have hspN:span (spC spNone) 0 20=spC spNone:=span_all hs9
         have hov:over (spC spZero) 0 (spC G)=spC G:=over_all (by omega)
         clear hb hc hz hl hi10 hfr hf s1 s2 s3 s4 s5 s6 s7 s8 s9 hq4 hI7 hG hq
         have hbN:=HS7.out.2.1
         go_wp2_with fail
         (with_reducible refine hgc.mono ?_)
         rintro e9 w8 ⟨ow8,rfl,hT8,hN8⟩
         have hb8:blk w8 b8=spC spZero:=hN8.blk HS7.out.1 (by omega) (by rw [HS5.out.2.2.1];exact Nat.zero_le _)
         have hg8:Grows w w8:=Chg.grows (n:=0) (Grows.refl w) (HS7.out.2.2.2.trans hN8).cl.chg fun b h=>by simp at h
         have HG8:=Lib.hid (And.intro hb8 hg8)
         clear hgc hT8 hN8 hbN hb8 hg8 ig
         go_upto_region 24 with fail
         have hg9:Grows w8 (w8.alloc (.cells (spC G) 35)):=(Grows.refl _).alloc _
         have hb9:blk (w8.alloc (.cells (spC G) 35)) w8.heap.size=spC G:=blk_alloc_at _ _ _ _ rfl
         obtain ⟨bG,hbG⟩:∃ z,z=w8.heap.size:=⟨_,rfl⟩
         have hne8:b8≠bG:=by have:=Blk.inHeap HG8.out.1 (by omega);unfold InHeap at this;omega
         have hwG:w.heap.size≤bG:=by have:=HG8.out.2.below.size;omega
         rw [← hbG] at hb9 ⊢
         generalize w8.alloc (.cells (spC G) 35)=w9 at *
         have HB9:=Lib.hid hb9
         have HG9:Hid (blk w9 b8=spC spZero∧Grows w w9):=Lib.hid ⟨blkG HG8.out.1 (by omega) hg9,HG8.out.2.trans hg9⟩
         have hz9:0 < (spC G).size:=by omega
         have d0:=(Blk.cell hb9 hz9 0).trans (spC_get (by omega))
         have d1:=(Blk.cell hb9 hz9 1).trans (spC_get (by omega))
         have ig:InHeap bG w9:=Blk.inHeap hb9 hz9
         have hfr:∀ k,w9.frozen? ⟨bG,k,none⟩=false:=fun k=>Blk.free hb9 hz9 k
         generalize G.getD 0 0=e0 at d0
         generalize G.getD 1 0=e1 at d1
         have hput:=sp_put hb9 hGl (k:=0) (a:Nat) (e:Nat)
         have hcg:=sp_chg w9 bG 0 (.int .i64 (a:Nat)) (.int .i64 (e:Nat))
         rw [Nat.zero_mul,Nat.zero_add] at hput hcg
         have HPUT:=Lib.hid (And.intro hput hcg)
         clear hput hcg hb9 hbG hg9
         go_upto_region 25 with fail
         clear d0 d1 ig hfr
         generalize (w9.setCell ⟨bG,0,none⟩ (.int .i64 (a:Nat))).setCell ⟨bG,1,none⟩ (.int .i64 (e:Nat))=w10 at *
         obtain ⟨hp1,hp2⟩:=HPUT.out
         obtain ⟨S,hS⟩:∃ z,spSet G 0 (a:Nat) (e:Nat)=z:=⟨_,rfl⟩
         have hSl:S.length=20:=by rw [← hS,spSet_len];exact hGl
         rw [hS] at hp1 HRS
         have hszS:(spC S).size=20:=by rw [spC_size];exact hSl
         have h810:=(chg_blk hp2 (Blk.inHeap HG9.out.1 (by omega)) hne8).trans HG9.out.1
         have hg10:Grows w w10:=Chg.grows (n:=0) HG9.out.2 hp2 fun b e=>by rw [e];exact hwG
         have hovS:over (spC spZero) 0 (spC S)=spC S:=over_all (by omega)
         have hspS:span (spC S) 0 20=spC S:=span_all hszS
         have H10:=Lib.hid (And.intro h810 hg10)
         have i8:InHeap b8 w10:=Blk.inHeap h810 (by omega)
         have iG:InHeap bG w10:=Blk.inHeap hp1 (by omega)
         have hYs:Y=(S,true,0):=by rw [HYE.out,← HRS.out];rfl
         subst hYs
         clear hp2 hg10 HPUT hS
         go_wp2_with fail
         exact bodyPost_ret (results_sp4 8 9 10 rfl rfl rfl rfl (Blk.get _ H10.out.1 (by omega)) hszS) rfl ⟨rfl,Chg.grows (n:=0) H10.out.2 (chg_setBlkM (K:=fun b=>b=b8) rfl) fun b e=>by rw [e];exact HNE.out.2.1⟩
     ·have hti:¬ (a:Int)≤z:=by omega
      have hmax:maxOf (endsF s f a) s.length=none:=maxOf_nilD fun j hj=>by
       rcases Nat.lt_or_ge j t with h | h
       ·cases hje:endsF s f a j with
        | false=>rfl
        | true =>
         have:=(endsF_rises s f a j ha hje).1
         omega
       ·rw [HP.out];exact HNO.out j h hj
      have hRs:plainV s f q' (a+1)=R:=by
       have:=HPV.out
       unfold plainV at this
       rw [hmax] at this
       exact this
      have HRS:=Lib.hid hRs
      clear hmax hRs hat htn hz
      go_wp2_with fail
      go_roundg (gi - 1)
      case measure=>have:=HQ'.out;omega
      case rel =>
       obtain ⟨s1,s2,s3,s4,s5,s6,s7,s8,s9⟩:=HS5.out
       exact ⟨a+1,ow5,by have:=HQ.out;have:=HQ'.out;omega,by go_num,by rw [HQ'.out,Nat.add_sub_cancel];exact HRS.out,s1,s2,s3,s4,s5,s6,s7⟩
   ·have hai:¬ (a:Int)≤(s.length:Int):=by omega
    have hRn:R=none:=by
     rw [← HPL.out]
     obtain rfl:gk=0:=by omega
     rfl
    subst hRn
    have hld:=loadSp_all wr bN (spC spZero) s2 hz0
    have hst:=storeSp_all wr b8 (spC spZero) s1 hz0 hz0 (spC_one _)
    have hYn:=HYE.out
    subst hYn
    clear s1 s2 s3 s4 s5 s6 s7 hq hpl
    go_wp2_with fail
    exact bodyPost_ret (results_sp4 8 9 10 rfl rfl rfl rfl (Blk.get _ HS4.out.1 (by omega)) hz0) rfl ⟨⟨rfl,rfl⟩,Chg.grows (n:=0) (Chg.grows (n:=0) (Grows.refl w) HS4.out.2.2.2.2.2.1.cl.chg fun b h=>by simp at h) (chg_setBlkM (K:=fun b=>b=b8) rfl) fun b e=>by rw [e];exact HNE.out.2.1⟩
end Go.Proofs.YtnjagecmhdagkaaGreatDoor
namespace Go.Proofs.YtnjagecmhdagkaaGreatDoor
open Go.RowKit
theorem run_equalIn_array_same2 {P:Program} (w:World) (d:Nat) (t e:TypeId) (n z:Nat) (xs:Array Value) (ht:P.underlying t=some (.array n e)) (hs:∀ w,(sizeOf e).run P w=.ok z w)
  (hp:∀ i,i < n→∃ v,∀ w,(part e xs (i*z)).run P w=.ok v w∧(Op.equalIn d e v v).run P w=.ok true w) :
  (Op.equalIn (d+1) t (.agg xs) (.agg xs)).run P w=.ok true w:=by
 simp only [Op.equalIn,Sem.run_bind,run_underlying ht,Result.andThen_ok,hs]
 rw [Std.Legacy.Range.forIn_eq_forIn_range']
 have hl:∀ i ∈ List.range' [:n].start [:n].size [:n].step,i < n:=by
  intro i hi
  simp [List.mem_range',Std.Legacy.Range.size] at hi
  omega
 generalize List.range' [:n].start [:n].size [:n].step=l at hl
 induction l generalizing w with
 | nil=>simp
 | cons i l ih =>
  obtain ⟨v,hv⟩:=hp i (hl i (by simp))
  simp only [List.forIn_cons,Sem.run_bind,(hv _).1,(hv _).2,Result.andThen_ok,Bool.not_true,Bool.false_eq_true,if_false,Sem.run_pure]
  have:=ih w (fun j hj=>hl j (by simp [hj]))
  simpa using this
theorem eq_two9 (a b c d:Int) (w:World):(Op.equalIn 9999 22 (.agg #[.int .i64 a,.int .i64 b]) (.agg #[.int .i64 c,.int .i64 d])).run Tryz.prog w=.ok (a == c && b == d) w:=by
 have u3:=Tryz.underlying3
 have a3:=Tryz.isAgg3
 have z3:=Tryz.sizeOf3
 have hi:(Tryz.prog.info? 3).isSome=true:=by kernel_rfl
 obtain ⟨i,hi⟩:=Option.isSome_iff_exists.1 hi
 have hc:Tryz.prog.cellsOf 3=1:=by kernel_rfl
 rw [show (9999:Nat)=9998+1 from rfl,run_equalIn_array w 9998 _ _ Tryz.underlying22 hi,hc]
 simp only [show List.range 2=[0,1] from rfl,Op.eqItems]
 go_simp
 by_cases h1:a=c <;> by_cases h2:b=d <;> simp [h1,h2]
theorem eq_spans (g:Spn) (hg:g.length=20) (w:World):(Op.equalIn 10000 35 (spV g) (spV g)).run Tryz.prog w=.ok true w:=by
 refine run_equalIn_array_same2 w 9999 35 22 10 2 (spC g) Tryz.underlying35 (fun w=>Tryz.sizeOf22 w) fun i hi=>⟨.agg #[.int .i64 (g.getD (i*2) 0),.int .i64 (g.getD (i*2+1) 0)],fun w=>⟨?_,?_⟩⟩
 ·have ex:(spC g).extract (i*2) (i*2+2)=#[.int .i64 (g.getD (i*2) 0),.int .i64 (g.getD (i*2+1) 0)]:=by
   have hs:(spC g).size=20:=by rw [spC_size];exact hg
   apply Array.ext_getElem?
   intro j
   rw [Array.getElem?_extract]
   rcases (show j=0∨j=1∨2≤j by omega) with rfl | rfl | hj
   ·rw [if_pos (by omega),Nat.add_zero,spC_get (by omega)];rfl
   ·rw [if_pos (by omega),spC_get (by omega)];rfl
   ·rw [if_neg (by omega),Array.getElem?_eq_none (by simpa using hj)]
  have h1:=Tryz.isAgg22 w
  have h2:=Tryz.sizeOf22 w
  unfold part
  simp only [Sem.run_bind,h1,h2,Result.andThen_ok,if_true,Sem.run_pure]
  rw [ex]
 ·have:=eq_two9 (g.getD (i*2) 0) (g.getD (i*2+1) 0) (g.getD (i*2) 0) (g.getD (i*2+1) 0) w
  rw [this]
  simp
end Go.Proofs.YtnjagecmhdagkaaGreatDoor
namespace Go.Proofs.YtnjagecmhdagkaaGreatDoor
open Go.RowKit
theorem heavy_60p (p s:List UInt8) (w:World):Calls Tryz.prog 7 #[.string (tx p),.string (tx s),.int .i64 60] w fun e w'=>HeavyPost p s 60 e∧Grows w w':=heavy_any p s 60 w (by omega)
attribute [local go_sem ↓] ldSp_eq stSp_eq zeroSp
attribute [local go_sem] loadSp loadSp_if storeSp storeSp_if spC_one
set_option maxRecDepth 100000 in
set_option maxHeartbeats 8000000 in
theorem match_plain (p s:List UInt8) (k fu:Int) (w:World) (hw:Sane w) (htz:TzAt w) (hk:I64 k) (hfu:I64 fu) :
  Calls Tryz.prog 3 #[.string (tx p),.string (tx s),.agg #[.int .i64 k,.int .i64 fu]] w fun e w'=>e=.returned (.bool true)∧Grows w w':=by
 have HW:=Lib.hid hw
 have HTZ:=Lib.hid htz
 have HK:=Lib.hid hk
 have HFU:=Lib.hid hfu
 clear hw htz hk hfu
 go_enter Tryz.func3,Tryz.ntmps3
 go_upto_region 1 with fail
 have hg0:Grows w (w.alloc (.cells #[.int .i64 k,.int .i64 fu] 22)):=(Grows.refl _).alloc _
 have hb0:blk (w.alloc (.cells #[.int .i64 k,.int .i64 fu] 22)) w.heap.size=#[.int .i64 k,.int .i64 fu]:=blk_alloc_at _ _ _ _ rfl
 obtain ⟨bX,hbX⟩:∃ z,z=w.heap.size:=⟨_,rfl⟩
 rw [← hbX] at hb0 ⊢
 generalize w.alloc (.cells #[.int .i64 k,.int .i64 fu] 22)=w0 at *
 have HG0:=Lib.hid hg0
 have HB0:=Lib.hid hb0
 have hcall:=heavy_60p p s w0
 clear hg0 hb0 hbX
 go_wp2_with fail
 (with_reducible refine hcall.mono ?_)
 rintro e9 w1 ⟨⟨H,hH,rfl⟩,hg1⟩
 have HG1:=Lib.hid (HG0.out.trans hg1)
 have hb1:=blkG HB0.out (by simp) hg1
 have HB1:=Lib.hid hb1
 have c0:w1.cell? ⟨bX,0,none⟩=some (.int .i64 k):=Blk.cell hb1 (by simp) 0
 have c1:w1.cell? ⟨bX,1,none⟩=some (.int .i64 fu):=Blk.cell hb1 (by simp) 1
 have iX:InHeap bX w1:=Blk.inHeap hb1 (by simp)
 clear hcall hg1 hb1
 cases H with
 | true =>
  go_wp2_with fail
  go_ret
  exact ⟨rfl,HG1.out⟩
 | false =>
 obtain ⟨hp,hs⟩:=hH rfl
 clear hH
 have hdo:∀ W,Grows w W→Calls Tryz.prog 10 #[] W fun e w'=>e=.returned (.bool true)∧Grows W w':=fun W h=>does_any W (HW.out.grows h) (HTZ.out.grows h)
 have HDO:=Lib.hid hdo
 have hcall:=bre_parse p w1 (by omega) (HW.out.grows HG1.out)
 clear hdo
 cases hY:patV p with
 | none =>
  rw [hY] at hcall
  have HD:=Lib.hid (doc_none hY)
  clear hY
  go_wp2_with fail
  (with_reducible refine hcall.mono ?_)
  rintro e9 w2 ⟨rfl,hg2⟩
  have hdoc:=refParse_pat p w2 (by omega)
  rw [HD.out] at hdoc
  have HG2:=Lib.hid (HG1.out.trans hg2)
  clear hcall hg2
  go_wp2_with fail
  (with_reducible refine hdoc.mono ?_)
  rintro e9 w3 ⟨rfl,hg3⟩
  have HG3:=Lib.hid (HG2.out.trans hg3)
  clear hdoc hg3
  go_wp2_with fail
  (with_reducible refine (HDO.out _ HG3.out).mono ?_)
  rintro e9 w4 ⟨rfl,hg4⟩
  go_wp2_with fail
  go_ret
  exact ⟨rfl,HG3.out.trans hg4⟩
 | some y =>
  rw [hY] at hcall
  obtain ⟨r,hd,-,-,hdr⟩:=doc_some hY
  have hnd:=patV_nd hY
  obtain ⟨f,t⟩:=y
  dsimp only at hd hdr hnd
  have HD:=Lib.hid hd
  have HDR:=Lib.hid hdr
  have HND:=Lib.hid hnd
  clear hY hd hdr hnd
  go_wp2_with fail
  (with_reducible refine hcall.mono ?_)
  rintro e9 w2 ⟨g,rfl,hre,-,hg2⟩
  have hdoc:=refParse_pat p w2 (by omega)
  rw [HD.out] at hdoc
  have HG2:=Lib.hid (HG1.out.trans hg2)
  have HB2:=Lib.hid (blkG HB1.out (by simp) hg2)
  have HRE:=Lib.hid hre
  clear hcall hg2 hre c0 c1 iX
  go_wp2_with fail
  (with_reducible refine hdoc.mono ?_)
  rintro e9 w3 ⟨g3,A3,cap3,rfl,-,hb3,hA3,hg3⟩
  have HG3:=Lib.hid (HG2.out.trans hg3)
  have HB3:=Lib.hid (blkG HB2.out (by simp) hg3)
  have HRE3:=Lib.hid (HRE.out.grows hg3)
  dsimp only at hb3 hA3
  rw [HDR.out] at hb3
  have HR3:=Lib.hid hb3
  have HA3:=Lib.hid hA3
  have r3:w3.cell? ⟨g3,3,none⟩=some (.bool t.refs):=Blk.cell hb3 (by simp) 3
  have i3:InHeap g3 w3:=Blk.inHeap hb3 (by simp)
  clear hdoc hg3 hb3 hA3
  obtain ⟨rf,hrf⟩:∃ z,t.refs=z:=⟨_,rfl⟩
  rw [hrf] at r3
  have HRF:=Lib.hid hrf
  clear hrf
  cases rf with
  | true =>
   go_wp2_with fail
   (with_reducible refine (HDO.out _ HG3.out).mono ?_)
   rintro e9 w4 ⟨rfl,hg4⟩
   go_wp2_with fail
   go_ret
   exact ⟨rfl,HG3.out.trans hg4⟩
  | false =>
   have hm:=match_any (s:=s) (k:=k) (fuel:=fu) (by omega) f t HND.out.1 (by have:=HND.out.2.2;omega) (fun h=>by rw [HRF.out] at h;cases h) _ g w3 HRE3.out (HTZ.out.grows HG3.out)
   rw [HRF.out] at hm
   have hr3:=HR3.out
   rw [HRF.out] at hr3
   have HR3b:=Lib.hid hr3
   have hdm:=fun W (hW:Grows w3 W)=>docplain_any (s:=s) (by omega) (fuel:=fu) HND.out.1 (by have:=HND.out.2.2;omega) A3 cap3 g3 k _ _ W (blkG HR3b.out (by simp) hW) ((HA3.out.mono fun _ _ _=>trivial).grows hW) HK.out
   obtain ⟨⟨G,B,X⟩,hM⟩:∃ z,matchR s f false k fu=z:=⟨_,rfl⟩
   rw [hM] at hm
   simp only [hM] at hdm
   unfold mtV at hm hdm
   dsimp only at hm hdm
   have HDM:=Lib.hid hdm
   have d0:w3.cell? ⟨bX,0,none⟩=some (.int .i64 k):=Blk.cell HB3.out (by simp) 0
   have d1:w3.cell? ⟨bX,1,none⟩=some (.int .i64 fu):=Blk.cell HB3.out (by simp) 1
   have iX:InHeap bX w3:=Blk.inHeap HB3.out (by simp)
   clear hdm hM hr3
   go_wp2_with fail
   (with_reducible refine hm.mono ?_)
   rintro e9 w4 ⟨⟨rfl,hl⟩,hg4⟩
   have hgs:(spC G).size=20:=by rw [spC_size];exact hl
   have hz:(spC spZero).size=20:=by rw [spC_size];rfl
   have hov:over (spC spZero) 0 (spC G)=spC G:=over_all (by omega)
   have hspn:span (spC G) 0 20=spC G:=span_all hgs
   have HL:=Lib.hid hl
   have heq:=eq_spans G hl
   have HEQ:=Lib.hid heq
   clear hm d0 d1 iX r3 i3 heq
   go_upto_region 10 with fail
   have hg5:Grows w3 (w4.alloc (.cells (spC G) 35)):=hg4.alloc _
   have hb5:blk (w4.alloc (.cells (spC G) 35)) w4.heap.size=spC G:=blk_alloc_at _ _ _ _ rfl
   obtain ⟨bA,hbA⟩:∃ z,z=w4.heap.size:=⟨_,rfl⟩
   rw [← hbA] at hb5 ⊢
   generalize w4.alloc (.cells (spC G) 35)=w5 at *
   have d0:w5.cell? ⟨bX,0,none⟩=some (.int .i64 k):=Blk.cell (blkG HB3.out (by simp) hg5) (by simp) 0
   have d1:w5.cell? ⟨bX,1,none⟩=some (.int .i64 fu):=Blk.cell (blkG HB3.out (by simp) hg5) (by simp) 1
   have iX:InHeap bX w5:=World.block_lt_of_cell? _ _ d0
   have hm:=HDM.out w5 hg5
   have HG5:=Lib.hid (HG3.out.trans hg5)
   have HB5:=Lib.hid hb5
   clear hg4 hg5 hbA hb5
   go_wp2_with fail
   (with_reducible refine hm.mono ?_)
   rintro e9 w6 ⟨⟨rfl,-⟩,hg6⟩
   clear hm d0 d1 iX
   go_upto_region 11 with fail
   have hg7:Grows w5 (w6.alloc (.cells (spC G) 35)):=hg6.alloc _
   have hb7:blk (w6.alloc (.cells (spC G) 35)) w6.heap.size=spC G:=blk_alloc_at _ _ _ _ rfl
   obtain ⟨bB,hbB⟩:∃ z,z=w6.heap.size:=⟨_,rfl⟩
   rw [← hbB] at hb7 ⊢
   generalize w6.alloc (.cells (spC G) 35)=w7 at *
   have ha7:=blkG HB5.out (by omega) hg7
   have iA:InHeap bA w7:=Blk.inHeap ha7 (by omega)
   have iB:InHeap bB w7:=Blk.inHeap hb7 (by omega)
   have HG7:=Lib.hid (HG5.out.trans hg7)
   have heq:=HEQ.out
   have hBB:(B == B)=true:=by cases B <;> rfl
   have hXX:(X == X)=true:=by simp
   have hdo:=HDO.out w7 HG7.out
   clear hg6 hg7 hbB
   go_wp2_with fail
   (with_reducible refine hdo.mono ?_)
   rintro e9 w8 ⟨rfl,hg8⟩
   go_wp2_with fail
   go_ret
   exact ⟨rfl,HG7.out.trans hg8⟩
end Go.Proofs.YtnjagecmhdagkaaGreatDoor
