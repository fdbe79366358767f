/-
 Several texts of the proof: MatNd, MatHv, MatAt, MatIs, MatDo.
-/
import Derived.Test.YtnjagecmhdagkaaGreatDoorPk15
import Derived.Test.YtnjagecmhdagkaaGreatDoorPk38
import Derived.Test.YtnjagecmhdagkaaGreatDoorPk24
set_option linter.unusedSimpArgs false
set_option linter.unusedVariables false
set_option maxRecDepth 3000
/-
  Matches: the nodes of a pattern that was read are as a match needs them; there are as many as were counted.
-/
namespace Go.Proofs.YtnjagecmhdagkaaGreatDoor
open Go.RowKit
structure OkN (x:Nk) (s t:PS):Prop where
 nd:NdOk x.1
 kids:AllNd x.2
 size:x.2.size+1+s.parts=t.parts
 le:t.parts≤200
theorem times_nd {n:Nat}:∀ {x:Nk} {s:PS} {y:Nk × PS} {p:PS},timesV n x s=some y→OkN x p s→OkN y.1 p y.2:=by
 induction n with
 | zero=>intro x s y p h;cases h
 | succ n ih =>
  intro x s y p h hx
  unfold timesV at h
  split at h
  ·rw [Option.bind_eq_some_iff] at h
   obtain ⟨t,h1,h2⟩:=h
   obtain ⟨q1,rfl⟩:=node1_eq h1
   have hz:=hx.size
   exact ih h2 ⟨⟨by simp [timesN,ndK],by simp [timesN,ndK],by simp [timesN,ndK]⟩,⟨hx.nd,hx.kids,trivial⟩,by simp only [Fr.one,Fr.size];omega,q1⟩
  ·split at h
   ·rw [Option.bind_eq_some_iff] at h
    obtain ⟨b,hb,h⟩:=h
    rw [Option.bind_eq_some_iff] at h
    obtain ⟨t,h1,h2⟩:=h
    obtain ⟨q1,rfl⟩:=node1_eq h1
    obtain ⟨b1,b2,b3,b4⟩:=bounds_good hb
    have hz:=hx.size
    exact ih h2 ⟨⟨by simp only [timesN,ndK];omega,by simp only [timesN,ndK];omega,by simp [timesN,ndK]⟩,⟨hx.nd,hx.kids,trivial⟩,by simp only [Fr.one,Fr.size];omega,q1⟩
   ·injection h with h;subst h;exact hx
theorem more1_nd {x:Nk} {s:PS} {y:Nk × PS} {p:PS} (h:more1 x s=some y) (hx:OkN x p s):OkN y.1 p y.2:=by
 unfold more1 at h
 split at h
 ·injection h with h;subst h;exact hx
 ·exact times_nd h hx
theorem leaf_nd {s:PS} {x:NdV} {y:Nk × PS} {p:PS} (hn:NdOk x) (hp:p.parts=s.parts) (h:(node1 s).map (fun s=>((x,Fr.nil),s))=some y):OkN y.1 p y.2:=by
 rw [Option.map_eq_some_iff] at h
 obtain ⟨t,h3,rfl⟩:=h
 obtain ⟨q1,rfl⟩:=node1_eq h3
 exact ⟨hn,trivial,by simp only [Fr.size];omega,q1⟩
section
variable {row:PS→Option (Fr × PS)}
def RowNd (row:PS→Option (Fr × PS)):Prop:=∀ s y,row s=some y→AllNd y.1∧y.1.size+s.parts=y.2.parts∧(s.parts≤200→y.2.parts≤200)
theorem groupV_nd (hr:RowNd row) {s:PS} {y:Nk × PS} {p:PS} (h:groupV row s=some y) (hp:p.parts=s.parts):OkN y.1 p y.2:=by
 unfold groupV at h
 split at h
 ·rename_i h9
  rw [Option.bind_eq_some_iff] at h
  obtain ⟨t,h1,h⟩:=h
  rw [Option.bind_eq_some_iff] at h
  obtain ⟨z,h2,h⟩:=h
  split at h
  ·injection h with h
   subst h
   obtain ⟨q1,rfl⟩:=node1_eq h1
   obtain ⟨r1,r2,r3⟩:=hr _ _ h2
   simp only [] at r2 r3 q1
   exact ⟨⟨by simp [groupN,ndK],by simp [groupN,ndK],by simp only [groupN,ndK];omega⟩,r1,by simp only [];omega,r3 q1⟩
  ·cases h
 ·cases h
theorem slashV_nd (hr:RowNd row) {s:PS} {y:Nk × PS} {p:PS} (h:slashV row s=some y) (hp:p.parts=s.parts):OkN y.1 p y.2:=by
 obtain ⟨left,parts,groups,refs,op⟩:=s
 cases left with
 | nil=>cases h
 | cons c l =>
  unfold slashV at h
  simp only [] at h
  split at h
  ·exact groupV_nd hr h (by exact hp)
  ·split at h
   ·rename_i hd
    split at h
    ·exact leaf_nd (x:=refN (c.toNat - 48)) ⟨by simp [refN,ndK],by simp [refN,ndK],by simp only [refN,ndK];omega⟩ (by exact hp) h
    ·cases h
   ·split at h
    ·cases h
    ·exact leaf_nd (x:=byteN c.toNat) ⟨by simp [byteN,ndK],by simp [byteN,ndK],by simp [byteN,ndK]⟩ (by exact hp) h
theorem partW_nd (hr:RowNd row) {first begun:Bool} {s:PS} {y:Nk × PS} {p:PS} (h:partW row first begun s=some y) (hp:p.parts=s.parts):OkN y.1 p y.2:=by
 obtain ⟨left,parts,groups,refs,op⟩:=s
 cases left with
 | nil=>cases h
 | cons c l =>
  unfold partW at h
  simp only [] at h
  split at h
  ·exact slashV_nd hr h (by exact hp)
  ·split at h
   ·rw [Option.bind_eq_some_iff] at h
    obtain ⟨p,hp2,h⟩:=h
    exact leaf_nd (x:=setN p.1) ⟨by simp [setN,ndK],by simp [setN,ndK],by simp [setN,ndK]⟩ (by exact hp) h
   ·split at h
    ·exact leaf_nd (x:=ndK 2) ⟨by simp [ndK],by simp [ndK],by simp [ndK]⟩ (by exact hp) h
    ·split at h
     ·exact leaf_nd (x:=ndK 4) ⟨by simp [ndK],by simp [ndK],by simp [ndK]⟩ (by exact hp) h
     ·split at h
      ·exact leaf_nd (x:=ndK 5) ⟨by simp [ndK],by simp [ndK],by simp [ndK]⟩ (by exact hp) h
      ·split at h
       ·cases h
       ·exact leaf_nd (x:=byteN c.toNat) ⟨by simp [byteN,ndK],by simp [byteN,ndK],by simp [byteN,ndK]⟩ (by exact hp) h
end
theorem rowV_nd (n:Nat):∀ (first begun:Bool),RowNd (rowV n first begun):=by
 induction n with
 | zero=>intro f b s y h;cases h
 | succ n ih =>
  intro f b s y h
  unfold rowV at h
  split at h
  ·injection h with h;subst h;exact ⟨trivial,by simp [Fr.size],fun h=>h⟩
  ·rw [Option.bind_eq_some_iff] at h
   obtain ⟨a,h1,h⟩:=h
   rw [Option.bind_eq_some_iff] at h
   obtain ⟨c,h2,h⟩:=h
   rw [Option.map_eq_some_iff] at h
   obtain ⟨r,h3,rfl⟩:=h
   have g1:=more1_nd h2 (partW_nd (ih true false) h1 rfl)
   obtain ⟨g2,g3,g4⟩:=ih _ _ _ _ h3
   have hz:=g1.size
   exact ⟨⟨g1.nd,g1.kids,g2⟩,by simp only [Fr.size];omega,fun _=>g4 g1.le⟩
theorem patV_nd {l:List UInt8} {y:Fr × PS} (h:patV l=some y):AllNd y.1∧y.1.size=y.2.parts∧y.1.size≤200:=by
 unfold patV at h
 rw [Option.bind_eq_some_iff] at h
 obtain ⟨z,h1,h⟩:=h
 split at h
 ·injection h with h
  subst h
  obtain ⟨g1,g2,g3⟩:=rowV_nd _ _ _ _ _ h1
  have:=g3 (by simp [ps0])
  simp only [ps0] at g2
  exact ⟨g1,by omega,by omega⟩
 ·cases h
end Go.Proofs.YtnjagecmhdagkaaGreatDoor
namespace Go.Proofs.YtnjagecmhdagkaaGreatDoor
open Go.RowKit
set_option maxHeartbeats 4000000 in
theorem weight_any:∀ (N:Nat) (f:Fr) (ok:Nat→Prop) (A:Option Addr) (cap:Nat) (w:World),f.size≤N→f.size≤1000→AllNd f→FrAt ok w A cap f →
  Calls Tryz.prog 16 #[.slice A f.len cap] w fun e w'=>(∃ n:Nat,n≤100000∧e=.returned (.int .i64 n))∧Grows w w':=by
 intro N
 induction N with
 | zero =>
  intro f ok A cap w hN _ _ hA
  obtain rfl:f=.nil:=Fr.nil_of_len (by have:=f.len_size;omega)
  clear hA hN
  go_enter Tryz.func16,Tryz.ntmps16
  go_wp2_with fail
  go_loopg [3,4,5] 0 (fun q v3 v4 _ wr=>v3=.int .i64 1∧v4=.int .i64 0∧wr=w)
  case atStart=>exact ⟨rfl,rfl,rfl⟩
  case round =>
   obtain ⟨rfl,rfl,rfl⟩:=hrel
   go_wp2_with fail
   go_ret
   exact ⟨⟨1,by decide,rfl⟩,Grows.refl _⟩
 | succ N ih =>
  intro f ok A cap w hN hS hnd hA
  have hl:=f.len_size
  have hl2:f.len≤1000:=by omega
  have HA:=Lib.hid hA
  have HN:=Lib.hid hN
  have HS:=Lib.hid hS
  have HND:=Lib.hid hnd
  clear hA hN hS hl hnd
  go_enter Tryz.func16,Tryz.ntmps16
  go_wp2_with fail
  go_loopg [3,4,5] f.len (fun q v3 v4 _ wr=>∃ (n i:Nat) (a c:Fr),q+i=f.len∧n≤100000∧v3=.int .i64 n∧v4=.int .i64 i∧f=a.app c∧a.len=i∧AllNd c∧Grows w wr)
  case atStart=>exact ⟨1,0,.nil,f,by omega,by omega,rfl,rfl,rfl,rfl,HND.out,Grows.refl _⟩
  case round =>
   obtain ⟨n,i,a,c,hq,hn9,rfl,rfl,hf,ha,hc,hg⟩:=hrel
   cases c with
   | nil =>
    have hi:i=f.len:=by rw [hf,Fr.app_nil];exact ha.symm
    subst hi
    have HG:=Lib.hid hg
    clear hq hf ha hg
    go_wp2_with fail
    go_ret
    exact ⟨⟨n,hn9,rfl⟩,HG.out⟩
   | cons x kids rest =>
    have hil:i < f.len:=by rw [hf,Fr.len_app,ha];simp [Fr.len]
    have i1:(i:Int) < (f.len:Int):=by omega
    have hks:kids.size+1+a.size≤f.size:=by rw [hf,Fr.size_app];simp [Fr.size];omega
    obtain ⟨hx,hck,hcr⟩:=hc
    have hA:=HA.out.grows hg
    obtain ⟨b1,o1,rfl,ib1⟩:=hA.some (by omega)
    obtain ⟨K,kc,hK,n0⟩:=hA.node hf rfl
    rw [ha] at n0
    have d0:wr.cell? ⟨b1,o1+i*262,none⟩=some (.int .i64 (x.kind:Nat)):=n0 0 _ (ndA_0 _ _ _ _ _ _ _)
    have d1:wr.cell? ⟨b1,o1+i*262+259,none⟩=some (.int .i64 (x.mn:Nat)):=by have:=n0 259 _ (ndA_259 _ _ _ _ _ _ _);rwa [← Nat.add_assoc] at this
    have d2:wr.cell? ⟨b1,o1+i*262+260,none⟩=some (.int .i64 x.mx):=by have:=n0 260 _ (ndA_260 _ _ _ _ _ _ _);rwa [← Nat.add_assoc] at this
    have d3:wr.cell? ⟨b1,o1+i*262+261,none⟩=some (.slice K kids.len kc):=by have:=n0 261 _ (ndA_261 _ _ _ _ _ _ _);rwa [← Nat.add_assoc] at this
    have hcall:=ih kids ok K kc wr (by have:=HN.out;omega) (by have:=HS.out;omega) hck hK
    have hm1:=hx.mn
    have hm2:=hx.mx
    have HG:=Lib.hid hg
    have HQ:=Lib.hid hq
    have HF:=Lib.hid (And.intro hf ha)
    have HCR:=Lib.hid hcr
    obtain ⟨wx,hwx⟩:∃ z,z=wr:=⟨_,rfl⟩
    subst hwx
    clear hA n0 hK hck hcr hks hq hf ha hx hg
    have HD:=Lib.hid (And.intro d0 (And.intro d1 d2))
    go_wp2_with fail
    (with_reducible refine hcall.mono ?_)
    rintro e9 w2 ⟨⟨m,hm9,rfl⟩,hg2⟩
    have e0:=cellG HD.out.1 hg2
    have e1:=cellG HD.out.2.1 hg2
    have e2:=cellG HD.out.2.2 hg2
    have ib2:InHeap b1 w2:=World.block_lt_of_cell? _ _ e0
    have HG2:=Lib.hid (HG.out.trans hg2)
    have hapx:∃ (a c:Fr),f=a.app c∧a.len=i+1∧AllNd c:=⟨a.app (.cons x kids .nil),rest,by rw [Fr.app_assoc];exact HF.out.1,by rw [Fr.len_app,HF.out.2];rfl,HCR.out⟩
    have HAP:=Lib.hid hapx
    clear hcall hg2 d0 d1 d2 d3 ib1 hapx HF HCR
    have hmin:∀ j:Nat,min ((n:Int)+(j:Int)) 100000=((min (n+j) 100000:Nat):Int):=fun j=>by omega
    by_cases hk:x.kind=8
    ·have k1:((x.kind:Int) == 8)=true:=by rw [hk];rfl
     obtain ⟨M,hM,hM9⟩:∃ M:Nat,max (x.mn:Int) x.mx=M∧M≤1000:=⟨(max (x.mn:Int) x.mx).toNat,by omega,by omega⟩
     have hmul:(m:Int)*(1+(M:Int))=((m*(1+M):Nat):Int):=by push_cast;rfl
     have hmul9:m*(1+M)≤100000*1001:=Nat.mul_le_mul hm9 (by omega)
     have hmin2:=hmin (m*(1+M))
     clear hk hmin
     generalize m*(1+M)=q at *
     go_upto_region 7 with fail
     go_quiet (fail)
     go_wp2_with fail
     go_roundg (gk - 1)
     case measure=>have:=HQ.out;omega
     case rel =>
      obtain ⟨a2,c2,q1,q2,q3⟩:=HAP.out
      exact ⟨min (n+q) 100000,i+1,a2,c2,by have:=HQ.out;omega,by omega,by first | rfl | go_num,by go_num,q1,q2,q3,by repeat' first | exact HG2.out | exact Grows.refl _ | refine Grows.drewN ?_ _ | refine Grows.drew ?_⟩
    ·have k1:((x.kind:Int) == 8)=false:=by rw [beq_eq_false_iff_ne];omega
     have hmin2:=hmin m
     clear hk hmin
     go_wp2_with fail
     go_roundg (gk - 1)
     case measure=>have:=HQ.out;omega
     case rel =>
      obtain ⟨a2,c2,q1,q2,q3⟩:=HAP.out
      exact ⟨min (n+m) 100000,i+1,a2,c2,by have:=HQ.out;omega,by omega,by first | rfl | go_num,by go_num,q1,q2,q3,HG2.out⟩
theorem docV_nd {l:List UInt8} {y:Fr × RdS} (h:docV l=some y):AllNd y.1∧y.1.size≤200:=by
 cases hp:patV l with
 | none=>rw [doc_none hp] at h;cases h
 | some z =>
  obtain ⟨r,h1,_⟩:=doc_some hp
  rw [h] at h1
  injection h1 with h1
  obtain ⟨q1,_,q3⟩:=patV_nd hp
  rw [h1]
  exact ⟨q1,q3⟩
def HeavyPost (p s:List UInt8) (long:Nat) (e:Ending):Prop:=∃ H:Bool,(H=false→p.length≤60∧s.length≤long)∧e=.returned (.bool H)
set_option maxHeartbeats 4000000 in
theorem heavy_any (p s:List UInt8) (long:Nat) (w:World) (hl:long≤1000000) :
  Calls Tryz.prog 7 #[.string (tx p),.string (tx s),.int .i64 long] w fun e w'=>HeavyPost p s long e∧Grows w w':=by
 go_enter Tryz.func7,Tryz.ntmps7
 by_cases k1:60 < p.length
 ·have k1i:(60:Int) < (p.length:Int):=by omega
  have k1b:decide (60 < p.length)=true:=decide_eq_true k1
  go_wp2_with fail
  go_ret
  exact ⟨⟨true,fun h=>by (cases h),rfl⟩,Grows.refl _⟩
 have k1i:¬ (60:Int) < (p.length:Int):=by omega
 have k1b:decide (60 < p.length)=false:=decide_eq_false k1
 by_cases k2:long < s.length
 ·have k2i:(long:Int) < (s.length:Int):=by omega
  have k2b:decide (long < s.length)=true:=decide_eq_true k2
  go_wp2_with fail
  go_ret
  exact ⟨⟨true,fun h=>by (cases h),rfl⟩,Grows.refl _⟩
 have k2i:¬ (long:Int) < (s.length:Int):=by omega
 have k2b:decide (long < s.length)=false:=decide_eq_false k2
 have HK:=Lib.hid (show p.length≤60∧s.length≤long by omega)
 have hcall:=refParse_pat p w (by omega)
 obtain ⟨D,hD⟩:∃ D,docV p=D:=⟨_,rfl⟩
 rw [hD] at hcall
 have HD:=Lib.hid hD
 clear hD
 go_wp2_with fail
 (with_reducible refine hcall.mono ?_)
 rintro e9 w1 hpost
 clear hcall k1 k1i k1b k2 k2i k2b
 cases D with
 | none =>
  obtain ⟨rfl,hg⟩:=hpost
  go_wp2_with fail
  go_ret
  exact ⟨⟨false,fun _=>HK.out,rfl⟩,hg⟩
 | some y =>
  obtain ⟨g,A,cap,rfl,hge,hb,hA,hg⟩:=hpost
  obtain ⟨q1,q2⟩:=docV_nd HD.out
  have c0:w1.cell? ⟨g,0,none⟩=some (.slice A y.1.len cap):=Blk.cell hb (by simp) 0
  have ig:=Blk.inHeap hb (by simp)
  have hcall:=weight_any y.1.size y.1 _ A cap w1 (Nat.le_refl _) (by omega) q1 hA
  have HG:=Lib.hid hg
  clear hge hb hA hg q1 q2 HD
  go_wp2_with fail
  (with_reducible refine hcall.mono ?_)
  rintro e9 w2 ⟨⟨n,hn9,rfl⟩,hg2⟩
  go_wp2_with fail
  go_ret
  exact ⟨⟨_,fun _=>HK.out,rfl⟩,HG.out.trans hg2⟩
end Go.Proofs.YtnjagecmhdagkaaGreatDoor
namespace Go.Proofs.YtnjagecmhdagkaaGreatDoor
open Go.RowKit
def atR (p s:List UInt8) (k:Int):Spn × Bool:=match patV p with
 | none=>(spZero,false)
 | some y=>((matchR s y.1 y.2.refs k 200000).1,(matchR s y.1 y.2.refs k 200000).2.1 && decide ((matchR s y.1 y.2.refs k 200000).2.2=0))
attribute [local go_sem ↓] ldSp_eq stSp_eq zeroSp bldSp_eq
attribute [local go_sem] loadSp loadSp_if storeSp storeSp_if spC_one bldSp_run
section
variable {p s:List UInt8} {k:Int}
set_option maxRecDepth 100000 in
set_option maxHeartbeats 4000000 in
theorem at_any (p s:List UInt8) (k:Int) (hp:p.length≤1000000) (hs:s.length≤60000) (w:World) (hw:Sane w) (htz:TzAt w) :
  Calls Tryz.prog 21 #[.string (tx p),.string (tx s),.int .i64 k] w fun e w'=>(e=.returned (.tuple #[spV (atR p s k).1,.bool (atR p s k).2])∧(atR p s k).1.length=20)∧Grows w w':=by
 have h1:=over_zero
 have hz:(spC spZero).size=20:=by rw [spC_size];rfl
 obtain ⟨R,hR⟩:∃ R,atR p s k=R:=⟨_,rfl⟩
 rw [hR]
 have HR:=Lib.hid hR
 have HTZ:=Lib.hid htz
 have hb1:blk (w.alloc (.cells (spC spZero) 35)) w.heap.size=spC spZero:=blk_alloc_at _ _ _ _ rfl
 have hg1:Grows w (w.alloc (.cells (spC spZero) 35)):=(Grows.refl _).alloc _
 have hcall:=bre_parse p (w.alloc (.cells (spC spZero) 35)) hp (hw.grows hg1)
 clear hR htz hw
 go_enter Tryz.func21,Tryz.ntmps21
 go_upto_region 1 with fail
 obtain ⟨rb,hrb⟩:∃ z,z=w.heap.size:=⟨_,rfl⟩
 rw [← hrb] at hb1 ⊢
 have HRB:Hid (w.heap.size≤rb):=Lib.hid (by omega)
 have HB1:=Lib.hid hb1
 have HG1:=Lib.hid hg1
 clear hrb hb1 hg1
 generalize w.alloc (.cells (spC spZero) 35)=w1 at *
 go_wp2_with fail
 (with_reducible refine hcall.mono ?_)
 rintro e9 w2 hpost
 clear hcall
 cases hpv:patV p with
 | none =>
  rw [hpv] at hpost
  obtain ⟨rfl,hg2⟩:=hpost
  have hRR:(spZero,false)=R:=by rw [← HR.out];unfold atR;rw [hpv]
  subst hRR
  have hb2:=blkG HB1.out (by omega) hg2
  have hsame:setBlk w2 rb (spC spZero)=w2:=Blk.same hb2 (by omega)
  have iR:InHeap rb w2:=Blk.inHeap hb2 (by omega)
  have HG2:=Lib.hid (HG1.out.trans hg2)
  clear hpv hg2
  go_wp2_with fail
  exact bodyPost_ret (results_sp2 6 7 rfl rfl rfl hb2 hz) rfl ⟨⟨rfl,rfl⟩,HG2.out⟩
 | some y =>
  rw [hpv] at hpost
  obtain ⟨g,rfl,hre,hgl,hg2⟩:=hpost
  obtain ⟨n1,n2,n3⟩:=patV_nd hpv
  have hRR:((matchR s y.1 y.2.refs k 200000).1,(matchR s y.1 y.2.refs k 200000).2.1 && decide ((matchR s y.1 y.2.refs k 200000).2.2=0))=R:=by rw [← HR.out];unfold atR;rw [hpv]
  have hm:=match_any (k:=k) (fuel:=200000) hs y.1 y.2 n1 (by omega) (fun _=>by decide) _ g w2 hre (HTZ.out.grows (HG1.out.trans hg2))
  have hb2:=blkG HB1.out (by omega) hg2
  have HB2:=Lib.hid hb2
  have HG2:=Lib.hid (HG1.out.trans hg2)
  have HRR:=Lib.hid hRR
  clear hpv hg2 hb2 hre hgl n1 n2 n3 HR hRR
  obtain ⟨M,hM⟩:∃ M,matchR s y.1 y.2.refs k 200000=M:=⟨_,rfl⟩
  rw [hM] at hm HRR
  clear hM
  go_wp2_with fail
  (with_reducible refine hm.mono ?_)
  rintro e9 w3 ⟨⟨rfl,hl⟩,hg3⟩
  obtain ⟨g3,b3,x3⟩:=M
  unfold mtV
  dsimp only at hl HRR ⊢
  have hb3:=blkG HB2.out (by omega) hg3
  have hgs:(spC g3).size=20:=by rw [spC_size];exact hl
  have hspn:span (spC g3) 0 20=spC g3:=span_all hgs
  have hov:over (spC spZero) 0 (spC g3)=spC g3:=over_all (by omega)
  have iR:InHeap rb w3:=Blk.inHeap hb3 (by omega)
  have hF:blk (setBlk w3 rb (spC g3)) rb=spC g3:=Blk.get _ hb3 (by omega)
  have hGF:Grows w (setBlk w3 rb (spC g3)):=Chg.grows (n:=0) (HG2.out.trans hg3) (chg_setBlkM (K:=fun b=>b=rb) rfl) fun b hb=>by have:=HRB.out;omega
  have HF:=Lib.hid (And.intro (blkG hF (by omega) ((Grows.refl _).alloc (.cells (spC g3) 35))) (hGF.trans ((Grows.refl _).alloc (.cells (spC g3) 35))))
  clear hF hGF hm
  obtain ⟨z,hz3⟩:∃ z,decide (x3=0)=z:=⟨_,rfl⟩
  rw [hz3] at HRR
  have hz4:(x3 == (0:Int))=z:=by rw [← hz3,Bool.eq_iff_iff];simp
  clear hz3
  cases b3 with
  | false =>
   go_wp2_with fail
   exact bodyPost_ret (results_sp2 6 7 rfl rfl rfl HF.out.1 hgs) rfl ⟨⟨by rw [← HRR.out];rfl,by rw [← HRR.out];exact hl⟩,HF.out.2⟩
  | true =>
   go_wp2_with fail
   exact bodyPost_ret (results_sp2 6 7 rfl rfl rfl HF.out.1 hgs) rfl ⟨⟨by rw [← HRR.out];rfl,by rw [← HRR.out];exact hl⟩,HF.out.2⟩
end
end Go.Proofs.YtnjagecmhdagkaaGreatDoor
namespace Go.Proofs.YtnjagecmhdagkaaGreatDoor
open Go.RowKit
theorem eq_two (a b c d:Int) (w:World):(Op.equalIn 10000 22 (.agg #[.int .i64 a,.int .i64 b]) (.agg #[.int .i64 c,.int .i64 d])).run Tryz.prog w=.ok (a == c && b == d) w:=by
 have u3:=Tryz.underlying3
 have a3:=Tryz.isAgg3
 have z3:=Tryz.sizeOf3
 have hi:(Tryz.prog.info? 3).isSome=true:=by kernel_rfl
 obtain ⟨i,hi⟩:=Option.isSome_iff_exists.1 hi
 have hc:Tryz.prog.cellsOf 3=1:=by kernel_rfl
 rw [show (10000:Nat)=9999+1 from rfl,run_equalIn_array w 9999 _ _ Tryz.underlying22 hi,hc]
 simp only [show List.range 2=[0,1] from rfl,Op.eqItems]
 go_simp
 by_cases h1:a=c <;> by_cases h2:b=d <;> simp [h1,h2]
attribute [local go_sem] eq_two
attribute [local go_sem ↓] ldSp_eq stSp_eq zeroSp bldSp_eq
attribute [local go_sem] loadSp loadSp_if storeSp storeSp_if spC_one bldSp_run
section
variable {p s:List UInt8} {k:Int}
set_option maxRecDepth 100000 in
set_option maxHeartbeats 4000000 in
theorem is_true (p s:List UInt8) (k:Int) (g:Spn) (hp:p.length≤1000000) (hs:s.length≤60000) (w:World) (hw:Sane w) (htz:TzAt w) (hat:atR p s k=(g,true)) (a0 a1 a2 a3 a4 a5:Int)
  (h0:g.getD 0 0=a0) (h1:g.getD 1 0=a1) (h2:g.getD 2 0=a2) (h3:g.getD 3 0=a3) (h4:g.getD 4 0=a4) (h5:g.getD 5 0=a5) :
  Calls Tryz.prog 22 #[.string (tx p),.string (tx s),.int .i64 k,.agg #[.int .i64 a0,.int .i64 a1,.int .i64 a2,.int .i64 a3,.int .i64 a4,.int .i64 a5]] w fun e w'=>e=.returned (.bool true)∧Grows w w':=by
 have hg1:Grows w (w.alloc (.cells #[.int .i64 a0,.int .i64 a1,.int .i64 a2,.int .i64 a3,.int .i64 a4,.int .i64 a5] 64)):=(Grows.refl _).alloc _
 have hb1:blk (w.alloc (.cells #[.int .i64 a0,.int .i64 a1,.int .i64 a2,.int .i64 a3,.int .i64 a4,.int .i64 a5] 64)) w.heap.size=#[.int .i64 a0,.int .i64 a1,.int .i64 a2,.int .i64 a3,.int .i64 a4,.int .i64 a5]:=blk_alloc_at _ _ _ _ rfl
 have hcall:=at_any p s k hp hs _ (hw.grows hg1) (htz.grows hg1)
 rw [hat] at hcall
 obtain ⟨bW,hbW⟩:∃ z,z=w.heap.size:=⟨_,rfl⟩
 rw [← hbW] at hb1
 clear hat hw htz
 go_enter Tryz.func22,Tryz.ntmps22
 go_upto_region 1 with fail
 rw [← hbW]
 clear hbW
 have HB1:=Lib.hid hb1
 have HG1:=Lib.hid hg1
 clear hb1 hg1
 generalize w.alloc (.cells #[.int .i64 a0,.int .i64 a1,.int .i64 a2,.int .i64 a3,.int .i64 a4,.int .i64 a5] 64)=w1 at *
 go_wp2_with fail
 (with_reducible refine hcall.mono ?_)
 rintro e9 w2 ⟨⟨rfl,hl⟩,hg2⟩
 have hg3:Grows w2 (w2.alloc (.cells (spC g) 35)):=(Grows.refl _).alloc _
 have hbG:blk (w2.alloc (.cells (spC g) 35)) w2.heap.size=spC g:=blk_alloc_at _ _ _ _ rfl
 have hbW:=blkG (blkG HB1.out (by simp) hg2) (by simp) hg3
 have hgs:0 < (spC g).size:=by rw [spC_size];omega
 have hgs2:(spC g).size=20:=by rw [spC_size];exact hl
 have hz:(spC spZero).size=20:=by rw [spC_size];rfl
 have hov:over (spC spZero) 0 (spC g)=spC g:=over_all (by omega)
 have hG:=(HG1.out.trans hg2).trans hg3
 have HG:=Lib.hid hG
 clear hcall hG HG1 HB1 hg2 hg3
 go_upto_region 2 with fail
 obtain ⟨bG,hbGe⟩:∃ z,z=w2.heap.size:=⟨_,rfl⟩
 rw [← hbGe] at hbG ⊢
 clear hbGe
 generalize w2.alloc (.cells (spC g) 35)=w3 at *
 have c0:=(Blk.cell hbG hgs 0).trans (spC_get (by omega))
 have c1:=(Blk.cell hbG hgs 1).trans (spC_get (by omega))
 have c2:=(Blk.cell hbG hgs 2).trans (spC_get (by omega))
 have c3:=(Blk.cell hbG hgs 3).trans (spC_get (by omega))
 have c4:=(Blk.cell hbG hgs 4).trans (spC_get (by omega))
 have c5:=(Blk.cell hbG hgs 5).trans (spC_get (by omega))
 rw [h0] at c0
 rw [h1] at c1
 rw [h2] at c2
 rw [h3] at c3
 rw [h4] at c4
 rw [h5] at c5
 have d0:w3.cell? ⟨bW,0,none⟩=some (.int .i64 a0):=Blk.cell hbW (by simp) 0
 have d1:w3.cell? ⟨bW,1,none⟩=some (.int .i64 a1):=Blk.cell hbW (by simp) 1
 have d2:w3.cell? ⟨bW,2,none⟩=some (.int .i64 a2):=Blk.cell hbW (by simp) 2
 have d3:w3.cell? ⟨bW,3,none⟩=some (.int .i64 a3):=Blk.cell hbW (by simp) 3
 have d4:w3.cell? ⟨bW,4,none⟩=some (.int .i64 a4):=Blk.cell hbW (by simp) 4
 have d5:w3.cell? ⟨bW,5,none⟩=some (.int .i64 a5):=Blk.cell hbW (by simp) 5
 have iG:InHeap bG w3:=Blk.inHeap hbG hgs
 have iW:InHeap bW w3:=Blk.inHeap hbW (by simp)
 clear hbG hbW h0 h1 h2 h3 h4 h5 hov hz hgs2 hgs
 go_wp2_with fail
 go_ret
 exact ⟨rfl,HG.out⟩
end
end Go.Proofs.YtnjagecmhdagkaaGreatDoor
namespace Go.Proofs.YtnjagecmhdagkaaGreatDoor
open Go.RowKit
theorem dat1:(atR [94,97] [98,97] 0).2=false:=by kernel_rfl
theorem dat2_0:(atR [98,42] [97,98,98,98] 1).1.getD 0 0=1:=by kernel_rfl
theorem dat2_1:(atR [98,42] [97,98,98,98] 1).1.getD 1 0=4:=by kernel_rfl
theorem dat2_2:(atR [98,42] [97,98,98,98] 1).1.getD 2 0=-1:=by kernel_rfl
theorem dat2_3:(atR [98,42] [97,98,98,98] 1).1.getD 3 0=-1:=by kernel_rfl
theorem dat2_4:(atR [98,42] [97,98,98,98] 1).1.getD 4 0=-1:=by kernel_rfl
theorem dat2_5:(atR [98,42] [97,98,98,98] 1).1.getD 5 0=-1:=by kernel_rfl
theorem dat2_b:(atR [98,42] [97,98,98,98] 1).2=true:=by kernel_rfl
theorem dat3_0:(atR [92,40,97,42,92,41,92,40,97,98,92,41,42,98,42] [97,98,98] 0).1.getD 0 0=0:=by kernel_rfl
theorem dat3_1:(atR [92,40,97,42,92,41,92,40,97,98,92,41,42,98,42] [97,98,98] 0).1.getD 1 0=3:=by kernel_rfl
theorem dat3_2:(atR [92,40,97,42,92,41,92,40,97,98,92,41,42,98,42] [97,98,98] 0).1.getD 2 0=0:=by kernel_rfl
theorem dat3_3:(atR [92,40,97,42,92,41,92,40,97,98,92,41,42,98,42] [97,98,98] 0).1.getD 3 0=1:=by kernel_rfl
theorem dat3_4:(atR [92,40,97,42,92,41,92,40,97,98,92,41,42,98,42] [97,98,98] 0).1.getD 4 0=-1:=by kernel_rfl
theorem dat3_5:(atR [92,40,97,42,92,41,92,40,97,98,92,41,42,98,42] [97,98,98] 0).1.getD 5 0=-1:=by kernel_rfl
theorem dat3_b:(atR [92,40,97,42,92,41,92,40,97,98,92,41,42,98,42] [97,98,98] 0).2=true:=by kernel_rfl
theorem dat4_0:(atR [92,40,92,40,97,92,41,42,98,92,41,42] [97,98,98] 0).1.getD 0 0=0:=by kernel_rfl
theorem dat4_1:(atR [92,40,92,40,97,92,41,42,98,92,41,42] [97,98,98] 0).1.getD 1 0=3:=by kernel_rfl
theorem dat4_2:(atR [92,40,92,40,97,92,41,42,98,92,41,42] [97,98,98] 0).1.getD 2 0=2:=by kernel_rfl
theorem dat4_3:(atR [92,40,92,40,97,92,41,42,98,92,41,42] [97,98,98] 0).1.getD 3 0=3:=by kernel_rfl
theorem dat4_4:(atR [92,40,92,40,97,92,41,42,98,92,41,42] [97,98,98] 0).1.getD 4 0=-1:=by kernel_rfl
theorem dat4_5:(atR [92,40,92,40,97,92,41,42,98,92,41,42] [97,98,98] 0).1.getD 5 0=-1:=by kernel_rfl
theorem dat4_b:(atR [92,40,92,40,97,92,41,42,98,92,41,42] [97,98,98] 0).2=true:=by kernel_rfl
theorem dat5_0:(atR [92,40,46,42,92,41,92,49] [97,98,97,98] 0).1.getD 0 0=0:=by kernel_rfl
theorem dat5_1:(atR [92,40,46,42,92,41,92,49] [97,98,97,98] 0).1.getD 1 0=4:=by kernel_rfl
theorem dat5_2:(atR [92,40,46,42,92,41,92,49] [97,98,97,98] 0).1.getD 2 0=0:=by kernel_rfl
theorem dat5_3:(atR [92,40,46,42,92,41,92,49] [97,98,97,98] 0).1.getD 3 0=2:=by kernel_rfl
theorem dat5_4:(atR [92,40,46,42,92,41,92,49] [97,98,97,98] 0).1.getD 4 0=-1:=by kernel_rfl
theorem dat5_5:(atR [92,40,46,42,92,41,92,49] [97,98,97,98] 0).1.getD 5 0=-1:=by kernel_rfl
theorem dat5_b:(atR [92,40,46,42,92,41,92,49] [97,98,97,98] 0).2=true:=by kernel_rfl
theorem is_lit (a b:Array UInt8) (k:Int) (hp:a.toList.length≤1000000) (hs:b.toList.length≤60000) (w:World) (hw:Sane w) (htz:TzAt w) (hat:(atR a.toList b.toList k).2=true) (a0 a1 a2 a3 a4 a5:Int)
  (h0:(atR a.toList b.toList k).1.getD 0 0=a0) (h1:(atR a.toList b.toList k).1.getD 1 0=a1) (h2:(atR a.toList b.toList k).1.getD 2 0=a2) (h3:(atR a.toList b.toList k).1.getD 3 0=a3) (h4:(atR a.toList b.toList k).1.getD 4 0=a4) (h5:(atR a.toList b.toList k).1.getD 5 0=a5) :
  Calls Tryz.prog 22 #[.string ⟨a⟩,.string ⟨b⟩,.int .i64 k,.agg #[.int .i64 a0,.int .i64 a1,.int .i64 a2,.int .i64 a3,.int .i64 a4,.int .i64 a5]] w fun e w'=>e=.returned (.bool true)∧Grows w w' :=
 is_true a.toList b.toList k _ hp hs w hw htz (Prod.ext rfl hat) a0 a1 a2 a3 a4 a5 h0 h1 h2 h3 h4 h5
theorem at_lit (a b:Array UInt8) (k:Int) (hp:a.toList.length≤1000000) (hs:b.toList.length≤60000) (w:World) (hw:Sane w) (htz:TzAt w) :
  Calls Tryz.prog 21 #[.string ⟨a⟩,.string ⟨b⟩,.int .i64 k] w fun e w'=>(e=.returned (.tuple #[spV (atR a.toList b.toList k).1,.bool (atR a.toList b.toList k).2])∧(atR a.toList b.toList k).1.length=20)∧Grows w w' :=
 at_any a.toList b.toList k hp hs w hw htz
attribute [local go_sem ↓] ldSp_eq stSp_eq zeroSp bldSp_eq
attribute [local go_sem] loadSp loadSp_if storeSp storeSp_if spC_one bldSp_run
section
set_option maxRecDepth 100000 in
set_option maxHeartbeats 4000000 in
theorem does_any (w:World) (hw:Sane w) (htz:TzAt w):Calls Tryz.prog 10 #[] w fun e w'=>e=.returned (.bool true)∧Grows w w':=by
 have hg1:Grows w (w.alloc (.cells #[.int .i64 (-1),.int .i64 (-1)] 22)):=(Grows.refl _).alloc _
 have hb1:blk (w.alloc (.cells #[.int .i64 (-1),.int .i64 (-1)] 22)) w.heap.size=#[.int .i64 (-1),.int .i64 (-1)]:=blk_alloc_at _ _ _ _ rfl
 obtain ⟨bN,hbN⟩:∃ z,z=w.heap.size:=⟨_,rfl⟩
 rw [← hbN] at hb1
 go_enter Tryz.func10,Tryz.ntmps10
 go_upto_region 2 with fail
 rw [← hbN]
 clear hbN
 have HW:=Lib.hid hw
 have HTZ:=Lib.hid htz
 have HB1:=Lib.hid hb1
 have HG1:=Lib.hid hg1
 clear hb1 hg1 hw htz
 generalize w.alloc (.cells #[.int .i64 (-1),.int .i64 (-1)] 22)=w1 at *
 have hcall:=at_lit #[94,97] #[98,97] 0 (by decide) (by decide) w1 (HW.out.grows HG1.out) (HTZ.out.grows HG1.out)
 rw [show (atR #[(94:UInt8),97].toList #[(98:UInt8),97].toList 0).2=false from dat1] at hcall
 obtain ⟨g0,hg0⟩:∃ g,(atR #[(94:UInt8),97].toList #[(98:UInt8),97].toList 0).1=g:=⟨_,rfl⟩
 rw [hg0] at hcall
 clear hg0
 go_wp2_with fail
 (with_reducible refine hcall.mono ?_)
 rintro e9 w2 ⟨⟨rfl,hl⟩,hg2⟩
 have hgs2:(spC g0).size=20:=by rw [spC_size];exact hl
 have hz:(spC spZero).size=20:=by rw [spC_size];rfl
 have hov:over (spC spZero) 0 (spC g0)=spC g0:=over_all (by omega)
 have hg3:Grows w2 (w2.alloc (.cells (spC g0) 35)):=(Grows.refl _).alloc _
 have hb3:=blkG (blkG HB1.out (by simp) hg2) (by simp) hg3
 have HB3:=Lib.hid hb3
 have HG3:=Lib.hid ((HG1.out.trans hg2).trans hg3)
 clear hcall hg2 hg3 hb3 HB1 HG1
 go_upto_region 3 with fail
 clear hov hz hgs2
 generalize w2.alloc (.cells (spC g0) 35)=w3 at *
 have c0:w3.cell? ⟨bN,0,none⟩=some (.int .i64 (-1)):=Blk.cell HB3.out (by simp) 0
 have c1:w3.cell? ⟨bN,1,none⟩=some (.int .i64 (-1)):=Blk.cell HB3.out (by simp) 1
 have iN:InHeap bN w3:=Blk.inHeap HB3.out (by simp)
 have hc1:=is_lit #[98,42] #[97,98,98,98] 1 (by decide) (by decide) w3 (HW.out.grows HG3.out) (HTZ.out.grows HG3.out) dat2_b _ _ _ _ _ _ dat2_0 dat2_1 dat2_2 dat2_3 dat2_4 dat2_5
 go_wp2_with fail
 (with_reducible refine hc1.mono ?_)
 rintro e9 w4 ⟨rfl,hg4⟩
 have HB4:=Lib.hid (blkG HB3.out (by simp) hg4)
 have HG4:=Lib.hid (HG3.out.trans hg4)
 clear hc1 hg4 c0 c1 iN HB3 HG3
 have c0:w4.cell? ⟨bN,0,none⟩=some (.int .i64 (-1)):=Blk.cell HB4.out (by simp) 0
 have c1:w4.cell? ⟨bN,1,none⟩=some (.int .i64 (-1)):=Blk.cell HB4.out (by simp) 1
 have iN:InHeap bN w4:=Blk.inHeap HB4.out (by simp)
 have hc1:=is_lit #[92,40,97,42,92,41,92,40,97,98,92,41,42,98,42] #[97,98,98] 0 (by decide) (by decide) w4 (HW.out.grows HG4.out) (HTZ.out.grows HG4.out) dat3_b _ _ _ _ _ _ dat3_0 dat3_1 dat3_2 dat3_3 dat3_4 dat3_5
 go_wp2_with fail
 (with_reducible refine hc1.mono ?_)
 rintro e9 w5 ⟨rfl,hg5⟩
 have HB5:=Lib.hid (blkG HB4.out (by simp) hg5)
 have HG5:=Lib.hid (HG4.out.trans hg5)
 clear hc1 hg5 c0 c1 iN HB4 HG4
 have c0:w5.cell? ⟨bN,0,none⟩=some (.int .i64 (-1)):=Blk.cell HB5.out (by simp) 0
 have c1:w5.cell? ⟨bN,1,none⟩=some (.int .i64 (-1)):=Blk.cell HB5.out (by simp) 1
 have iN:InHeap bN w5:=Blk.inHeap HB5.out (by simp)
 have hc1:=is_lit #[92,40,92,40,97,92,41,42,98,92,41,42] #[97,98,98] 0 (by decide) (by decide) w5 (HW.out.grows HG5.out) (HTZ.out.grows HG5.out) dat4_b _ _ _ _ _ _ dat4_0 dat4_1 dat4_2 dat4_3 dat4_4 dat4_5
 go_wp2_with fail
 (with_reducible refine hc1.mono ?_)
 rintro e9 w6 ⟨rfl,hg6⟩
 have HB6:=Lib.hid (blkG HB5.out (by simp) hg6)
 have HG6:=Lib.hid (HG5.out.trans hg6)
 clear hc1 hg6 c0 c1 iN HB5 HG5
 have c0:w6.cell? ⟨bN,0,none⟩=some (.int .i64 (-1)):=Blk.cell HB6.out (by simp) 0
 have c1:w6.cell? ⟨bN,1,none⟩=some (.int .i64 (-1)):=Blk.cell HB6.out (by simp) 1
 have iN:InHeap bN w6:=Blk.inHeap HB6.out (by simp)
 have hc1:=is_lit #[92,40,46,42,92,41,92,49] #[97,98,97,98] 0 (by decide) (by decide) w6 (HW.out.grows HG6.out) (HTZ.out.grows HG6.out) dat5_b _ _ _ _ _ _ dat5_0 dat5_1 dat5_2 dat5_3 dat5_4 dat5_5
 go_wp2_with fail
 (with_reducible refine hc1.mono ?_)
 rintro e9 w7 ⟨rfl,hg7⟩
 have HG7:=Lib.hid (HG6.out.trans hg7)
 clear hc1 hg7 c0 c1 iN HB6 HG6
 go_wp2_with fail
 go_ret
 exact ⟨rfl,HG7.out⟩
end
end Go.Proofs.YtnjagecmhdagkaaGreatDoor
