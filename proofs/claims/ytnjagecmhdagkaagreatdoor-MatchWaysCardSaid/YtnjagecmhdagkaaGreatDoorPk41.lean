/-
 Several texts of the proof: BreRdP, MatHv.
-/
import Derived.Test.YtnjagecmhdagkaaGreatDoorPk40
import Derived.Test.YtnjagecmhdagkaaGreatDoorPk30
set_option linter.unusedSimpArgs false
set_option linter.unusedVariables false
set_option maxRecDepth 3000
/-
  Patterns: the document's Parse, walked.
-/
namespace Go.Proofs.YtnjagecmhdagkaaGreatDoor
open Go.RowKit
def noEnd:Nat→Bool:=fun _=>false
def bldRdr (x:Array (Nat × Value)):Sem Value:=Instr.build 59 x
theorem bldRdr_eq (x:Array (Nat × Value)):Instr.build 59 x=bldRdr x:=rfl
theorem bldRdr_run (s:List UInt8) (w:World):(bldRdr #[(0,.string (tx s))]).run Tryz.prog w=.ok (.agg (rdA s 0 0 0 noEnd false false)) w:=by kernel_rfl
def boxRdr (x:Value):Sem Value:=Instr.box 59 x
theorem boxRdr_eq (x:Value):Instr.box 59 x=boxRdr x:=rfl
theorem boxRdr_run (s:List UInt8) (w:World):(boxRdr (.agg (rdA s 0 0 0 noEnd false false))).run Tryz.prog w=.ok (.pointer (some ⟨w.heap.size,0,none⟩)) (w.alloc (.cells (rdA s 0 0 0 noEnd false false) 59)):=by kernel_rfl
def DocPost (w:World) (R:Option (Fr × RdS)) (e:Ending) (w':World):Prop :=
 match R with
 | none=>e=.returned (.tuple #[.pointer none,.int .i64 90])∧Grows w w'
 | some y=>∃ g A cap,e=.returned (.tuple #[.pointer (some ⟨g,0,none⟩),.int .i64 0])∧w.heap.size≤g∧blk w' g=#[.slice A y.1.len cap,.int .i64 y.2.groups,.int .i64 y.2.many,.bool y.2.refs]∧FrAt (fun b=>w.heap.size≤b) w' A cap y.1∧Grows w w'
theorem doc_of {s:List UInt8} {R:Option (Fr × RdS)} (h:rowR (s.length+1) true false (rd0 s)=R):docV s=R.bind fun y=>if y.2.left=[]∧y.2.groups≤9∧y.2.many≤200 then some y else none:=by
 unfold docV;rw [h]
attribute [local go_sem ↓] bldRdr_eq boxRdr_eq
attribute [local go_sem] bldRdr_run boxRdr_run
set_option maxRecDepth 100000 in
set_option maxHeartbeats 2000000 in
theorem refParse_pat (s:List UInt8) (w:World) (hl:s.length≤1000):Calls Tryz.prog 9 #[.string (tx s)] w (DocPost w (docV s)):=by
 obtain ⟨R,hR⟩:∃ R,rowR (s.length+1) true false (rd0 s)=R:=⟨_,rfl⟩
 have HD:=Lib.hid (doc_of hR)
 have hS:StAt (w.alloc (.cells (rdA s 0 0 0 noEnd false false) 59)) w.heap.size s 0 (rd0 s) false:=⟨blk_alloc_at _ _ _ _ rfl,rfl,Nat.zero_le _,Nat.le_refl _,Nat.le_refl _⟩
 have hcall:=rrow_any (g:=w.heap.size) (s.length+1) (rd0 s) 0 _ hl (Nat.lt_succ_self _) hS
 rw [hR] at hcall
 have HC:=Lib.hid hcall
 clear hR hS hcall
 go_enter Tryz.func9,Tryz.ntmps9
 go_wp2_with fail
 refine HC.out.mono ?_
 intro e w2 hp
 obtain ⟨A,m,cp,at2,t,b2,rfl,hS2,hC2,hK2⟩:=hp.any
 have hG2:Grows w w2:=Chg.grows (n:=0) ((Grows.refl w).alloc _) hC2 fun b e=>by subst e;exact Nat.le_refl _
 have HG:=Lib.hid hG2
 have HK:=Lib.hid hK2
 have hg:w.heap.size < w2.heap.size:=hS2.inh
 obtain ⟨c0,c1,c2,c3,c4,c5⟩:=hS2.rd.cells
 have ig:=hS2.inh
 have ha:at2≤s.length:=hS2.ale
 have hle:t.left=[] ↔ at2=s.length:=by rw [hS2.left,List.drop_eq_nil_iff];omega
 have HL:=Lib.hid hle
 have hm1:=hS2.many
 have hm2:=hS2.groups
 obtain ⟨gb,hgb⟩:∃ z,z=w.heap.size:=⟨_,rfl⟩
 rw [← hgb] at c0 c1 c2 c3 c4 c5 ig hg ⊢
 have HGB:=Lib.hid hgb
 clear hp hS2 hC2 hK2 hG2 hle HC hgb c0
 cases b2 with
 | true =>
  have hV:docV s=none:=by
   rw [HD.out]
   rcases HK.out with ⟨-,k⟩ | ⟨k,-⟩
   ·rw [k];rfl
   ·cases k
  go_wp2_with fail
  rw [hV]
  exact bodyPost_ret (v:=.tuple #[.pointer none,.int .i64 90]) (by simp [results,Tryz.results9,go_sem]) rfl ⟨rfl,HG.out⟩
 | false =>
  obtain ⟨f,hf1,hf2,hf3⟩:∃ f,R=some (f,t)∧m=f.len∧FrAt (fun b=>b≠w.heap.size∧(w.alloc (.cells (rdA s 0 0 0 noEnd false false) 59)).heap.size≤b) w2 A cp f:=by
   rcases HK.out with ⟨k,-⟩ | ⟨-,f,k⟩
   ·cases k
   ·exact ⟨f,k⟩
  have HF:=Lib.hid hf3
  subst hf2
  have hV0:docV s=if t.left=[]∧t.groups≤9∧t.many≤200 then some (f,t) else none:=by rw [HD.out,hf1];rfl
  have HV:=Lib.hid hV0
  clear hf1 hf3 hV0 HD HK
  by_cases k1:at2=s.length
  ·subst k1
   by_cases k2:t.groups≤9
   ·have d2:decide ((9:Int) < (t.groups:Int))=false:=by rw [decide_eq_false_iff_not];omega
    have d2n:decide (9 < t.groups)=false:=by rw [decide_eq_false_iff_not];omega
    by_cases k3:t.many≤200
    ·have d3:decide ((200:Int) < (t.many:Int))=false:=by rw [decide_eq_false_iff_not];omega
     have d3n:decide (200 < t.many)=false:=by rw [decide_eq_false_iff_not];omega
     have hV:docV s=some (f,t):=by rw [HV.out,if_pos ⟨HL.out.2 rfl,k2,k3⟩]
     have HV2:=Lib.hid hV
     clear hV k2 k3
     go_wp2_with fail
     go_region_law (fail)
     all_goals
      go_wp2_with fail
      rw [HV2.out]
      have hz:=HG.out.below.size
      refine bodyPost_ret (v:=.tuple #[.pointer (some ⟨w2.heap.size,0,none⟩),.int .i64 0]) (by simp [results,Tryz.results9,go_sem]) rfl ⟨w2.heap.size,A,cp,rfl,hz,?_,?_,?_⟩
      ·exact blk_alloc_at _ _ _ _ rfl
      ·refine (HF.out.mono fun b hb h=>?_).grows (by repeat' first | exact Grows.refl _ | refine Grows.drewN ?_ _ | refine Grows.drew ?_ | refine Grows.alloc ?_ _)
       have h2:=h.2
       rw [show (w.alloc (.cells (rdA s 0 0 0 noEnd false false) 59)).heap.size=w.heap.size+1 by simp] at h2
       omega
      ·exact HG.out.trans (by repeat' first | exact Grows.refl _ | refine Grows.drewN ?_ _ | refine Grows.drew ?_ | refine Grows.alloc ?_ _)
    ·have d3:(200:Int) < (t.many:Int):=by omega
     have d3n:200 < t.many:=by omega
     have hV:docV s=none:=by rw [HV.out,if_neg (fun h=>k3 h.2.2)]
     go_wp2_with fail
     rw [hV]
     exact bodyPost_ret (v:=.tuple #[.pointer none,.int .i64 90]) (by simp [results,Tryz.results9,go_sem]) rfl ⟨rfl,HG.out⟩
   ·have d2:(9:Int) < (t.groups:Int):=by omega
    have d2n:9 < t.groups:=by omega
    have hV:docV s=none:=by rw [HV.out,if_neg (fun h=>k2 h.2.1)]
    go_wp2_with fail
    rw [hV]
    exact bodyPost_ret (v:=.tuple #[.pointer none,.int .i64 90]) (by simp [results,Tryz.results9,go_sem]) rfl ⟨rfl,HG.out⟩
  ·have e1:((at2:Int) != (s.length:Int))=true:=by simp;omega
   have e2:(at2 != s.length)=true:=by simp;omega
   have hV:docV s=none:=by rw [HV.out,if_neg (fun h=>k1 (HL.out.1 h.1))]
   clear k1
   go_wp2_with fail
   rw [hV]
   exact bodyPost_ret (v:=.tuple #[.pointer none,.int .i64 90]) (by simp [results,Tryz.results9,go_sem]) rfl ⟨rfl,HG.out⟩
end Go.Proofs.YtnjagecmhdagkaaGreatDoor
namespace Go.Proofs.YtnjagecmhdagkaaGreatDoor
open Go.RowKit
set_option maxHeartbeats 4000000 in
theorem weight_any:∀ (N:Nat) (f:Fr) (ok:Nat→Prop) (A:Option Addr) (cap:Nat) (w:World),f.size≤N→f.size≤1000→AllNd f→FrAt ok w A cap f →
  Calls Tryz.prog 16 #[.slice A f.len cap] w fun e w'=>(∃ n:Nat,n≤100000∧e=.returned (.int .i64 n))∧Grows w w':=by
 intro N
 induction N with
 | zero =>
  intro f ok A cap w hN _ _ hA
  obtain rfl:f=.nil:=Fr.nil_of_len (by have:=f.len_size;omega)
  clear hA hN
  go_enter Tryz.func16,Tryz.ntmps16
  go_wp2_with fail
  go_loopg [3,4,5] 0 (fun q v3 v4 _ wr=>v3=.int .i64 1∧v4=.int .i64 0∧wr=w)
  case atStart=>exact ⟨rfl,rfl,rfl⟩
  case round =>
   obtain ⟨rfl,rfl,rfl⟩:=hrel
   go_wp2_with fail
   go_ret
   exact ⟨⟨1,by decide,rfl⟩,Grows.refl _⟩
 | succ N ih =>
  intro f ok A cap w hN hS hnd hA
  have hl:=f.len_size
  have hl2:f.len≤1000:=by omega
  have HA:=Lib.hid hA
  have HN:=Lib.hid hN
  have HS:=Lib.hid hS
  have HND:=Lib.hid hnd
  clear hA hN hS hl hnd
  go_enter Tryz.func16,Tryz.ntmps16
  go_wp2_with fail
  go_loopg [3,4,5] f.len (fun q v3 v4 _ wr=>∃ (n i:Nat) (a c:Fr),q+i=f.len∧n≤100000∧v3=.int .i64 n∧v4=.int .i64 i∧f=a.app c∧a.len=i∧AllNd c∧Grows w wr)
  case atStart=>exact ⟨1,0,.nil,f,by omega,by omega,rfl,rfl,rfl,rfl,HND.out,Grows.refl _⟩
  case round =>
   obtain ⟨n,i,a,c,hq,hn9,rfl,rfl,hf,ha,hc,hg⟩:=hrel
   cases c with
   | nil =>
    have hi:i=f.len:=by rw [hf,Fr.app_nil];exact ha.symm
    subst hi
    have HG:=Lib.hid hg
    clear hq hf ha hg
    go_wp2_with fail
    go_ret
    exact ⟨⟨n,hn9,rfl⟩,HG.out⟩
   | cons x kids rest =>
    have hil:i < f.len:=by rw [hf,Fr.len_app,ha];simp [Fr.len]
    have i1:(i:Int) < (f.len:Int):=by omega
    have hks:kids.size+1+a.size≤f.size:=by rw [hf,Fr.size_app];simp [Fr.size];omega
    obtain ⟨hx,hck,hcr⟩:=hc
    have hA:=HA.out.grows hg
    obtain ⟨b1,o1,rfl,ib1⟩:=hA.some (by omega)
    obtain ⟨K,kc,hK,n0⟩:=hA.node hf rfl
    rw [ha] at n0
    have d0:wr.cell? ⟨b1,o1+i*262,none⟩=some (.int .i64 (x.kind:Nat)):=n0 0 _ (ndA_0 _ _ _ _ _ _ _)
    have d1:wr.cell? ⟨b1,o1+i*262+259,none⟩=some (.int .i64 (x.mn:Nat)):=by have:=n0 259 _ (ndA_259 _ _ _ _ _ _ _);rwa [← Nat.add_assoc] at this
    have d2:wr.cell? ⟨b1,o1+i*262+260,none⟩=some (.int .i64 x.mx):=by have:=n0 260 _ (ndA_260 _ _ _ _ _ _ _);rwa [← Nat.add_assoc] at this
    have d3:wr.cell? ⟨b1,o1+i*262+261,none⟩=some (.slice K kids.len kc):=by have:=n0 261 _ (ndA_261 _ _ _ _ _ _ _);rwa [← Nat.add_assoc] at this
    have hcall:=ih kids ok K kc wr (by have:=HN.out;omega) (by have:=HS.out;omega) hck hK
    have hm1:=hx.mn
    have hm2:=hx.mx
    have HG:=Lib.hid hg
    have HQ:=Lib.hid hq
    have HF:=Lib.hid (And.intro hf ha)
    have HCR:=Lib.hid hcr
    obtain ⟨wx,hwx⟩:∃ z,z=wr:=⟨_,rfl⟩
    subst hwx
    clear hA n0 hK hck hcr hks hq hf ha hx hg
    have HD:=Lib.hid (And.intro d0 (And.intro d1 d2))
    go_wp2_with fail
    (with_reducible refine hcall.mono ?_)
    rintro e9 w2 ⟨⟨m,hm9,rfl⟩,hg2⟩
    have e0:=cellG HD.out.1 hg2
    have e1:=cellG HD.out.2.1 hg2
    have e2:=cellG HD.out.2.2 hg2
    have ib2:InHeap b1 w2:=World.block_lt_of_cell? _ _ e0
    have HG2:=Lib.hid (HG.out.trans hg2)
    have hapx:∃ (a c:Fr),f=a.app c∧a.len=i+1∧AllNd c:=⟨a.app (.cons x kids .nil),rest,by rw [Fr.app_assoc];exact HF.out.1,by rw [Fr.len_app,HF.out.2];rfl,HCR.out⟩
    have HAP:=Lib.hid hapx
    clear hcall hg2 d0 d1 d2 d3 ib1 hapx HF HCR
    have hmin:∀ j:Nat,min ((n:Int)+(j:Int)) 100000=((min (n+j) 100000:Nat):Int):=fun j=>by omega
    by_cases hk:x.kind=8
    ·have k1:((x.kind:Int) == 8)=true:=by rw [hk];rfl
     obtain ⟨M,hM,hM9⟩:∃ M:Nat,max (x.mn:Int) x.mx=M∧M≤1000:=⟨(max (x.mn:Int) x.mx).toNat,by omega,by omega⟩
     have hmul:(m:Int)*(1+(M:Int))=((m*(1+M):Nat):Int):=by push_cast;rfl
     have hmul9:m*(1+M)≤100000*1001:=Nat.mul_le_mul hm9 (by omega)
     have hmin2:=hmin (m*(1+M))
     clear hk hmin
     generalize m*(1+M)=q at *
     go_upto_region 7 with fail
     go_quiet (fail)
     go_wp2_with fail
     go_roundg (gk - 1)
     case measure=>have:=HQ.out;omega
     case rel =>
      obtain ⟨a2,c2,q1,q2,q3⟩:=HAP.out
      exact ⟨min (n+q) 100000,i+1,a2,c2,by have:=HQ.out;omega,by omega,by first | rfl | go_num,by go_num,q1,q2,q3,by repeat' first | exact HG2.out | exact Grows.refl _ | refine Grows.drewN ?_ _ | refine Grows.drew ?_⟩
    ·have k1:((x.kind:Int) == 8)=false:=by rw [beq_eq_false_iff_ne];omega
     have hmin2:=hmin m
     clear hk hmin
     go_wp2_with fail
     go_roundg (gk - 1)
     case measure=>have:=HQ.out;omega
     case rel =>
      obtain ⟨a2,c2,q1,q2,q3⟩:=HAP.out
      exact ⟨min (n+m) 100000,i+1,a2,c2,by have:=HQ.out;omega,by omega,by first | rfl | go_num,by go_num,q1,q2,q3,HG2.out⟩
theorem docV_nd {l:List UInt8} {y:Fr × RdS} (h:docV l=some y):AllNd y.1∧y.1.size≤200:=by
 cases hp:patV l with
 | none=>rw [doc_none hp] at h;cases h
 | some z =>
  obtain ⟨r,h1,_⟩:=doc_some hp
  rw [h] at h1
  injection h1 with h1
  obtain ⟨q1,_,q3⟩:=patV_nd hp
  rw [h1]
  exact ⟨q1,q3⟩
def HeavyPost (p s:List UInt8) (long:Nat) (e:Ending):Prop:=∃ H:Bool,(H=false→p.length≤60∧s.length≤long)∧e=.returned (.bool H)
set_option maxHeartbeats 4000000 in
theorem heavy_any (p s:List UInt8) (long:Nat) (w:World) (hl:long≤1000000) :
  Calls Tryz.prog 7 #[.string (tx p),.string (tx s),.int .i64 long] w fun e w'=>HeavyPost p s long e∧Grows w w':=by
 go_enter Tryz.func7,Tryz.ntmps7
 by_cases k1:60 < p.length
 ·have k1i:(60:Int) < (p.length:Int):=by omega
  have k1b:decide (60 < p.length)=true:=decide_eq_true k1
  go_wp2_with fail
  go_ret
  exact ⟨⟨true,fun h=>by (cases h),rfl⟩,Grows.refl _⟩
 have k1i:¬ (60:Int) < (p.length:Int):=by omega
 have k1b:decide (60 < p.length)=false:=decide_eq_false k1
 by_cases k2:long < s.length
 ·have k2i:(long:Int) < (s.length:Int):=by omega
  have k2b:decide (long < s.length)=true:=decide_eq_true k2
  go_wp2_with fail
  go_ret
  exact ⟨⟨true,fun h=>by (cases h),rfl⟩,Grows.refl _⟩
 have k2i:¬ (long:Int) < (s.length:Int):=by omega
 have k2b:decide (long < s.length)=false:=decide_eq_false k2
 have HK:=Lib.hid (show p.length≤60∧s.length≤long by omega)
 have hcall:=refParse_pat p w (by omega)
 obtain ⟨D,hD⟩:∃ D,docV p=D:=⟨_,rfl⟩
 rw [hD] at hcall
 have HD:=Lib.hid hD
 clear hD
 go_wp2_with fail
 (with_reducible refine hcall.mono ?_)
 rintro e9 w1 hpost
 clear hcall k1 k1i k1b k2 k2i k2b
 cases D with
 | none =>
  obtain ⟨rfl,hg⟩:=hpost
  go_wp2_with fail
  go_ret
  exact ⟨⟨false,fun _=>HK.out,rfl⟩,hg⟩
 | some y =>
  obtain ⟨g,A,cap,rfl,hge,hb,hA,hg⟩:=hpost
  obtain ⟨q1,q2⟩:=docV_nd HD.out
  have c0:w1.cell? ⟨g,0,none⟩=some (.slice A y.1.len cap):=Blk.cell hb (by simp) 0
  have ig:=Blk.inHeap hb (by simp)
  have hcall:=weight_any y.1.size y.1 _ A cap w1 (Nat.le_refl _) (by omega) q1 hA
  have HG:=Lib.hid hg
  clear hge hb hA hg q1 q2 HD
  go_wp2_with fail
  (with_reducible refine hcall.mono ?_)
  rintro e9 w2 ⟨⟨n,hn9,rfl⟩,hg2⟩
  go_wp2_with fail
  go_ret
  exact ⟨⟨_,fun _=>HK.out,rfl⟩,HG.out.trans hg2⟩
end Go.Proofs.YtnjagecmhdagkaaGreatDoor
