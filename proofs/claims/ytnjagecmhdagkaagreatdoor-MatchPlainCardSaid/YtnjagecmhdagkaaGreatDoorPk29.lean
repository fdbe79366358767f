/-
 Several texts of the proof: MatR, MatX.
-/
import Derived.Test.YtnjagecmhdagkaaGreatDoorPk28
set_option linter.unusedSimpArgs false
set_option linter.unusedVariables false
set_option maxRecDepth 3000
/-
  Matches: where a row may end, walked.
-/
namespace Go.Proofs.YtnjagecmhdagkaaGreatDoor
open Go.RowKit
theorem nf_node {ok:Nat→Prop} {w:World} {x:NdV} {kids rest:Fr}:∀ {a:Fr} {m:Nat} {xs:List Value},NfRow ok w (a.app (.cons x kids rest)) m xs →
  ∃ KA kn kc K capk,NfAt ok w K capk kids (m+a.size+1)∧∀ j u,(nmC x (.slice KA kn kc) (m+a.size:Nat) (.slice K kids.len capk))[j]?=some u→xs[a.len*264+j]?=some u:=by
 intro a
 induction a with
 | nil =>
  rintro m xs ⟨KA,kn,kc,K,capk,ys,zs,e,h1,h2,h3⟩
  refine ⟨KA,kn,kc,K,capk,⟨ys,h1,h2⟩,fun j u hu=>?_⟩
  have hj:=(Array.getElem?_eq_some_iff.1 hu).1
  rw [e,Fr.len,Nat.zero_mul,Nat.zero_add,List.getElem?_append_left (by rw [nmC_size] at hj;rw [Array.length_toList,nmC_size];exact hj),Array.getElem?_toList]
  exact hu
 | cons z k r _ ihr =>
  rintro m xs ⟨KA0,kn0,kc0,K0,cap0,ys,zs,e,h1,h2,h3⟩
  obtain ⟨KA,kn,kc,K,capk,h4,h5⟩:=ihr h3
  have hsz:m+1+k.size+r.size=m+(Fr.cons z k r).size:=by simp [Fr.size];omega
  rw [hsz] at h4 h5
  refine ⟨KA,kn,kc,K,capk,h4,fun j u hu=>?_⟩
  have hz:(nmC z (.slice KA0 kn0 kc0) m (.slice K0 k.len cap0)).toList.length=264:=by rw [Array.length_toList,nmC_size]
  have hu2:=h5 j u hu
  rw [e]
  generalize (nmC z (.slice KA0 kn0 kc0) m (.slice K0 k.len cap0)).toList=zl at hz
  have hi:(Fr.cons z k r).len*264+j=zl.length+(r.len*264+j):=by rw [hz,Fr.len];omega
  rw [hi,List.getElem?_append_right (Nat.le_add_right _ _),Nat.add_sub_cancel_left]
  exact hu2
theorem NfAt.node {ok:Nat→Prop} {w:World} {A:Option Addr} {cap m:Nat} {x:NdV} {kids rest a f:Fr} (h:NfAt ok w A cap f m) (e:f=a.app (.cons x kids rest)) :
  ∃ b o KA kn kc K capk,A=some ⟨b,o,none⟩∧NfAt ok w K capk kids (m+a.size+1)∧loadPart Tryz.prog w 102 b (o+a.len*264) 264=.ok (.agg (nmC x (.slice KA kn kc) (m+a.size:Nat) (.slice K kids.len capk))) w:=by
 subst e
 obtain ⟨xs,h1,h2⟩:=h
 obtain ⟨KA,kn,kc,K,capk,h3,h4⟩:=nf_node h2
 have hlt:0 < (a.app (.cons x kids rest)).len:=by rw [Fr.len_app,Fr.len];omega
 obtain ⟨b',o',e,_,hc⟩:=h1.rd.2 hlt
 exact ⟨b',o',KA,kn,kc,K,capk,e,h3,nm_load (nmC_size _ _ _ _) fun j u hu=>by rw [Nat.add_assoc];exact hc _ u (h4 j u hu)⟩
theorem enters_row1:Enters 72:=enters_of Tryz.func72 (by kernel_rfl) rfl
attribute [local go_sem ↓] zeroNm ldNm_eq stNm_eq
attribute [local go_sem] loadNm loadNm_if storeNm storeNm_if nm_one_nd nm_size_nd over_nm
section
variable {s:List UInt8} {Nm:Nat→NdV→Fr→Prop} {tb r lo:Nat}
set_option maxRecDepth 100000 in
set_option maxHeartbeats 2000000 in
theorem row1_any {x:NdV} {k:Fr} (hnode:NodeC s Nm tb r lo x k) (id:Nat) (K:Option Addr) (kn kc:Nat) (A:Option Addr) (cap a c:Nat) (P:Pl) (q:Nat→Prop) (w:World) {bT bX bN:Nat} (hT:blk w bT=#[.pointer (some ⟨tb,0,none⟩)]) (hX:blk w bX=nmC x (.slice K kn kc) id (.slice A k.len cap)) (hNx:blk w bN=#[plV c (wds s.length)])
  (hid:Nm id x k) (hall:AllNum Nm k (id+1)) (hnf:NfAt (fun b=>b < lo) w A cap k (id+1)) (ht:TbAt s Nm tb r lo q w) (hq:∀ b,w.heap.size≤b→q b) (ha:a≤s.length) (hc:PlAt w c (wds s.length) P) (hqc:¬ q c) (hcr:c≠r) (hct:c≠tb) (hlo:lo≤c) :
  Calls Tryz.prog 72 #[.int .i64 a,.pointer (some ⟨bT,0,none⟩),.pointer (some ⟨bX,0,none⟩),.pointer (some ⟨bN,0,none⟩)] w fun e w'=>e=.returned (.bool true)∧PlAt w' c (wds s.length) (orP P (nodeS s x (endsF s k) a))∧TbAt s Nm tb r lo q w'∧Chg (fun x=>x=r∨x=c) w w':=by
 have hcall:=hnode id K kn kc A cap a c P q w hid hall hnf ht hq ha hc hqc hcr hct hlo
 have d0:w.cell? ⟨bT,0,none⟩=some (.pointer (some ⟨tb,0,none⟩)):=Blk.cell hT (by simp) 0
 have d1:w.cell? ⟨bN,0,none⟩=some (plV c (wds s.length)):=Blk.cell hNx (by simp) 0
 have hld:=loadNm_all w bX _ hX (nmC_size _ _ _ _)
 clear hid hall hnf ht hq hc hqc hnode hX hT hNx
 go_enter Tryz.func72,Tryz.ntmps72
 go_wp2_with fail
 (with_reducible refine hcall.mono ?_)
 rintro e w2 ⟨rfl,hP,hT2,hC2⟩
 have HP:=Lib.hid hP
 have HT2:=Lib.hid hT2
 have HC2:=Lib.hid hC2
 clear hcall hP hT2 hC2
 go_wp2_with fail
 go_ret
 exact ⟨rfl,HP.out,HT2.out,HC2.out⟩
theorem TbAt.away {q:Nat→Prop} {w:World} {c:Nat} (h:TbAt s Nm tb r lo q w) (hc:w.heap.size≤c):TbAt s Nm tb r lo (fun b=>q b∧b≠c) w:=h.mono fun b hb hq=>⟨hq,by omega⟩
structure RwAt (s:List UInt8) (Nm:Nat→NdV→Fr→Prop) (tb r lo:Nat) (q:Nat→Prop) (w:World) (bT b:Nat) (P:Pl) (wr:World):Prop where
 tab:TbAt s Nm tb r lo q wr
 chg:Chg (fun x=>x=r) w wr
 box:blk wr bT=#[.pointer (some ⟨tb,0,none⟩)]
 now:PlAt wr b (wds s.length) P
 low:w.heap.size≤b
 lowT:w.heap.size≤bT
 in_:∀ i,P i=true→i≤s.length
set_option maxRecDepth 100000 in
set_option maxHeartbeats 4000000 in
theorem mrow_any (hs:s.length≤60000) (f:Fr) (hAll:∀ (a:Fr) (x:NdV) (k c:Fr),f=a.app (.cons x k c)→∀ m,Nm m x k→NodeC s Nm tb r lo x k):RowC s Nm tb r lo f:=by
 intro m A cap a q w hall hnf ht hq ha
 have hW:=wds_le hs
 have H:=Lib.hid ht
 have HNF:=Lib.hid hnf
 have HALL:=Lib.hid hall
 have HQ:=Lib.hid hq
 have HK:=Lib.hid hAll
 have irw:r < w.heap.size:=ht.rlt
 have itw:tb < w.heap.size:=ht.inh
 have hfl:f.len≤9223372036854775807:=by
  obtain ⟨xs,h1,_⟩:=hnf
  have:=h1.le
  have:=h1.cap63
  omega
 clear ht hnf hall hq hAll
 go_enter Tryz.func45,Tryz.ntmps45
 go_upto_region 1 with fail
 have hL:=(LaidAt.start w).alloc #[.pointer (some ⟨tb,0,none⟩)] 112
 generalize w.alloc (Obj.cells #[.pointer (some ⟨tb,0,none⟩)] 112)=w1 at *
 have hb1:blk w1 w.heap.size=#[.pointer (some ⟨tb,0,none⟩)]:=hL.blk 0 _ rfl
 have hg1:=hL.grows
 have hz1:w1.heap.size=w.heap.size+1:=hL.size
 have ib1:InHeap w.heap.size w1:=Blk.inHeap hb1 (by simp)
 have d1:w1.cell? ⟨w.heap.size,0,none⟩=some (.pointer (some ⟨tb,0,none⟩)):=Blk.cell hb1 (by simp) 0
 have T1:=Lib.hid (H.out.grows hg1)
 have hcall:=empty_any T1.out.tab hs
 clear hL
 go_wp2_with fail
 (with_reducible refine hcall.mono ?_)
 rintro e w2 ⟨b0,rfl,hP2,hlo2,hg2⟩
 have hset:=set_any hP2 a (wds_lt ha) hW
 have HB2:=Lib.hid ((by obtain ⟨m,rfl⟩:=hg2;exact blk_more _ _ _ ib1:blk w2 w.heap.size=blk w1 w.heap.size).trans hb1)
 have T2:=Lib.hid ((T1.out.away hlo2).grows hg2)
 have G2:=Lib.hid (hg1.trans hg2)
 have ib2:InHeap w.heap.size w2:=Nat.lt_of_lt_of_le ib1 hg2.below.size
 have hrr:=T2.out.lr
 have htt:=T2.out.ltb
 clear hcall hP2 hg2 d1 T1 hb1 hg1 ib1
 go_wp2_with fail
 (with_reducible refine hset.mono ?_)
 rintro e w3 ⟨rfl,hP3,hC3⟩
 have hne:w.heap.size≠b0:=by omega
 have R3:RwAt s Nm tb r lo q w w.heap.size b0 (one1 a) w3 :=
  ⟨(T2.out.put hC3 (fun h=>h.2 rfl) (by omega) (by omega) (by omega)).mono fun x _ h=>h.1,chg_late (Chg.of_grows G2.out) hC3 fun x hx e=>by omega,(chg_blk hC3 ib2 hne).trans HB2.out,hP3,by omega,Nat.le_refl _,fun i h=>by rw [one1_iff] at h;omega⟩
 have R3:=Lib.hid R3
 clear hset hP3 hC3 HB2 T2 G2 hrr htt hne ib2 hlo2 hz1
 go_wp2_with fail
 go_loopg [7,18] f.len (fun q0 v7 v18 wr=>∃ (i:Nat) (a1 c1:Fr) (b:Nat) (P:Pl),q0+i=f.len∧v18=.int .i64 i∧v7=plV b (wds s.length)∧f=a1.app c1∧a1.len=i∧RwAt s Nm tb r lo q w w.heap.size b P wr∧endsR s c1 P=endsF s f a)
 case atStart=>exact ⟨0,.nil,f,b0,one1 a,by omega,rfl,rfl,rfl,rfl,R3.out,rfl⟩
 case round =>
  obtain ⟨i,a1,c1,b,P,hq0,rfl,rfl,hf,hai,hR,hE⟩:=hrel
  clear R3
  cases c1 with
  | nil =>
   have hi:i=f.len:=by rw [hf,Fr.app_nil];exact hai.symm
   subst hi
   have hin:decide (f.len < f.len)=false:=decide_eq_false (Nat.lt_irrefl _)
   have R:=Lib.hid hR
   have HE:=Lib.hid (show P=endsF s f a from hE)
   clear hR hE hf hai hq0
   go_wp2_with fail
   go_ret
   exact ⟨b,rfl,by rw [← HE.out];exact R.out.now,R.out.low,R.out.tab,R.out.chg⟩
  | cons x k rest =>
   have hil:i < f.len:=by rw [hf,Fr.len_app,hai];simp [Fr.len]
   have hnr:=HNF.out.chg hR.chg fun b _ hb e=>by have:=hR.tab.lr;omega
   obtain ⟨b5,o5,KA,kn,kc,K,capk,hA,hK,hld⟩:=hnr.node hf
   subst hA
   rw [hai] at hld
   have hall2:=HALL.out
   rw [hf,AllNum.app] at hall2
   obtain ⟨-,hid,hallk,-⟩:=hall2
   have hnode:=HK.out a1 x k rest hf (m+a1.size) hid
   have HID:=Lib.hid hid
   have HALLK:=Lib.hid hallk
   have HNODE:=Lib.hid hnode
   have HKN:=Lib.hid hK
   have R:=Lib.hid hR
   have HE:=Lib.hid hE
   have HF:=Lib.hid hf
   have HAI:=Lib.hid hai
   have HQ0:=Lib.hid hq0
   clear hnr hid hallk hnode hK hR hE hf hai hq0
   obtain ⟨id,hidd⟩:∃ id,m+a1.size=id:=⟨_,rfl⟩
   rw [hidd] at hld HID HALLK HKN
   clear hidd
   go_upto_region 6 with fail
   have hL:=(LaidAt.start wr).alloc (nmC x (.slice KA kn kc) id (.slice K k.len capk)) 102
   have hw5:wr.alloc (.cells (nmC x (.slice KA kn kc) id (.slice K k.len capk)) 102)=wr.alloc (Obj.cells (nmC x (.slice KA kn kc) id (.slice K k.len capk)) 102):=rfl
   generalize wr.alloc (Obj.cells (nmC x (.slice KA kn kc) id (.slice K k.len capk)) 102)=w5 at hL ⊢
   have hb5:blk w5 wr.heap.size=nmC x (.slice KA kn kc) id (.slice K k.len capk):=hL.blk 0 _ rfl
   have hg5:=hL.grows
   have hz5:w5.heap.size=wr.heap.size+1:=hL.size
   have T5:=R.out.tab.grows hg5
   have ibT:InHeap w.heap.size wr:=Blk.inHeap R.out.box (by simp)
   have ibX:InHeap wr.heap.size w5:=by unfold InHeap;omega
   have hbT5:blk w5 w.heap.size=#[.pointer (some ⟨tb,0,none⟩)]:=(by obtain ⟨m,rfl⟩:=hg5;exact blk_more _ _ _ ibT:blk w5 w.heap.size=blk wr w.heap.size).trans R.out.box
   have d5:w5.cell? ⟨w.heap.size,0,none⟩=some (.pointer (some ⟨tb,0,none⟩)):=Blk.cell hbT5 (by simp) 0
   have hcall:=empty_any T5.tab hs
   have HT5:=Lib.hid T5
   clear hL hw5 hld T5
   go_wp2_with fail
   (with_reducible refine hcall.mono ?_)
   rintro e w6 ⟨c,rfl,hP6,hlo6,hg6⟩
   have hg7:Grows w6 (w6.alloc (.cells #[plV c (wds s.length)] 117)):=(Grows.refl _).alloc _
   have hbN:blk (w6.alloc (.cells #[plV c (wds s.length)] 117)) w6.heap.size=#[plV c (wds s.length)]:=blk_alloc_at _ _ _ _ rfl
   have hz7:(w6.alloc (.cells #[plV c (wds s.length)] 117)).heap.size=w6.heap.size+1:=by simp
   have hcw:c < w6.heap.size:=hP6.inh
   have hs6:=hg6.below.size
   clear hcall
   go_upto_region 7 with fail
   clear d5
   generalize w6.alloc (.cells #[plV c (wds s.length)] 117)=w7 at *
   have hg57:=hg6.trans hg7
   have hgr7:=hg5.trans hg57
   have hbT7:blk w7 w.heap.size=#[.pointer (some ⟨tb,0,none⟩)]:=(by obtain ⟨m,rfl⟩:=hg57;exact blk_more _ _ _ (by unfold InHeap at *;omega):blk w7 w.heap.size=blk w5 w.heap.size).trans hbT5
   have hbX7:blk w7 wr.heap.size=nmC x (.slice KA kn kc) id (.slice K k.len capk):=(by obtain ⟨m,rfl⟩:=hg57;exact blk_more _ _ _ ibX:blk w7 wr.heap.size=blk w5 wr.heap.size).trans hb5
   have hrr:=R.out.tab.lr
   have htt:=R.out.tab.ltb
   have hrlt:=R.out.tab.rlt
   have htlt:tb < wr.heap.size:=R.out.tab.inh
   have hWw:=R.out.chg.size
   have T7:TbAt s Nm tb r lo (fun x=>q x∧x≠c) w7:=(R.out.tab.away (by omega)).grows hgr7
   have P7:=hP6.grows hg7
   have N7:=R.out.now.grows hgr7
   have K7:NfAt (fun b=>b < lo) w7 K capk k (id+1):=HKN.out.chg (Chg.of_grows (p:=fun _=>False) hgr7) fun _ _ _ h=>h
   have ibw:w.heap.size < wr.heap.size:=ibT
   have ibxw:wr.heap.size < w5.heap.size:=ibX
   have hV:EachV (.func (.func 72) #[] #[.pointer (some ⟨w.heap.size,0,none⟩),.pointer (some ⟨wr.heap.size,0,none⟩),.pointer (some ⟨w6.heap.size,0,none⟩)]) (wds s.length) P 72 #[.pointer (some ⟨w.heap.size,0,none⟩),.pointer (some ⟨wr.heap.size,0,none⟩),.pointer (some ⟨w6.heap.size,0,none⟩)]
     (fun j wj=>PlAt wj c (wds s.length) (accP (fun _=>false) P (nodeS s x (endsF s k)) j)∧TbAt s Nm tb r lo (fun x=>q x∧x≠c) wj∧Chg (fun y=>y=r∨y=c) w7 wj):=by
    refine ⟨rfl,enters_row1,fun j wj hj hPj ⟨h1,h2,h3⟩=>?_,fun j wj hPj ⟨h1,h2,h3⟩=>⟨by rw [acc_skip hPj];exact h1,h2,h3⟩⟩
    have hsz:=h3.size
    refine (row1_any HNODE.out id KA kn kc K capk j c _ (fun x=>q x∧x≠c) wj ((chg_blk h3 (by omega) (by omega)).trans hbT7) ((chg_blk h3 (by omega) (by omega)).trans hbX7) ((chg_blk h3 (by omega) (by omega)).trans hbN) HID.out HALLK.out (K7.chg h3 fun b _ hb e=>by omega) h2 (fun b hb=>⟨HQ.out b (by omega),by omega⟩) (R.out.in_ j hPj) h1 (fun h=>h.2 rfl) (by omega) (by omega) (by omega)).mono ?_
    rintro e w' ⟨rfl,g1,g2,g3⟩
    exact ⟨rfl,by rw [acc_next hPj];exact g1,g2,h3.trans g3⟩
   have heach:=each_any (w:=w7) (b:=b) hV ⟨by rw [acc_zero];exact P7,T7,Chg.refl _ _⟩ (fun j wj ⟨h1,h2,h3⟩=>N7.chg h3 fun e=>by have:=R.out.low;have h9:b < wr.heap.size:=R.out.now.inh;omega) (fun j wj ⟨h1,h2,h3⟩=>h2.tz) hW
   have hin:∀ j,P j=true→j≤s.length:=R.out.in_
   have hacc:accP (fun _=>false) P (nodeS s x (endsF s k)) (64*wds s.length)=stepS s.length (nodeS s x (endsF s k)) P:=by
    rw [acc_all hin (wds_lt (Nat.le_refl _))]
    funext j
    rw [Bool.false_or]
    rfl
   have HACC:=Lib.hid hacc
   have HBT7:=Lib.hid hbT7
   have HBN:=Lib.hid hbN
   have G7:=Lib.hid hgr7
   have hcw7:w6.heap.size < w7.heap.size:=by omega
   have htl7:w.heap.size < w7.heap.size:=by omega
   clear hV hacc hbT7 hbX7 hbN hgr7 hin P7 N7 K7 T7 hP6 hg57 hg5 hg6 hg7 hb5 hbT5 HT5 HKN HALLK HID HNODE
   go_wp2_with fail
   (with_reducible refine heach.mono ?_)
   rintro e w8 ⟨rfl,hP8,hT8,hC8⟩
   have hb8:w8.cell? ⟨w6.heap.size,0,none⟩=some (plV c (wds s.length)):=Blk.cell ((chg_blk hC8 hcw7 (by omega)).trans HBN.out) (by simp) 0
   rw [HACC.out] at hP8
   have R8:RwAt s Nm tb r lo q w w.heap.size c (stepS s.length (nodeS s x (endsF s k)) P) w8:=by
    refine ⟨hT8.mono fun y _ h=>h.1,?_,(chg_blk hC8 htl7 (by omega)).trans HBT7.out,hP8,by omega,Nat.le_refl _,fun j hj=>?_⟩
    ·exact (R.out.chg.trans (Chg.of_grows G7.out)) |> fun h=>chg_late h hC8 fun y hy e=>by omega
    ·rw [stepS_iff] at hj
     obtain ⟨i2,h1,h2,h3⟩:=hj
     exact (nodeS_rises (endsF_rises s k) i2 j h1 h3).2
   have R8:=Lib.hid R8
   have hi6:i≤f.len:=Nat.le_of_lt hil
   have HFL:=Lib.hid hi6
   clear heach hP8 hT8 hC8
   go_wp2_with fail
   go_roundg (gk - 1)
   case measure=>have:=HQ0.out;omega
   case rel=>exact ⟨i+1,a1.app (Fr.one x k),rest,c,_,by have:=HQ0.out;omega,by simp,rfl,by rw [HF.out,Fr.app_assoc];rfl,by rw [Fr.len_app,HAI.out];rfl,R8.out,HE.out⟩
end
end Go.Proofs.YtnjagecmhdagkaaGreatDoor
namespace Go.Proofs.YtnjagecmhdagkaaGreatDoor
open Go.RowKit
theorem enters_turns1:Enters 109:=enters_of Tryz.func109 (by kernel_rfl) rfl
attribute [local go_sem ↓] zeroNm ldNm_eq stNm_eq
attribute [local go_sem] loadNm loadNm_if storeNm storeNm_if nm_one_nd nm_size_nd over_nm span_nm
section
variable {s:List UInt8} {Nm:Nat→NdV→Fr→Prop} {tb r lo:Nat}
theorem turn_drew {x:NdV} {k:Fr} {a d:Nat} (h:TurnsC s Nm tb r lo x k a d) (id:Nat) (K:Option Addr) (kn kc:Nat) (A:Option Addr) (cap:Nat) {q:Nat→Prop} {w w0:World} (hid:Nm id x k) (hall:AllNum Nm k (id+1)) (hnf:NfAt (fun b=>b < lo) w A cap k (id+1)) (ht:TbAt s Nm tb r lo q w) (hq:∀ b,w.heap.size≤b→q b) (hg:Grows w w0) :
  Calls Tryz.prog 95 #[.pointer (some ⟨tb,0,none⟩),.agg (nmC x (.slice K kn kc) id (.slice A k.len cap)),.int .i64 a,.int .i64 d] w0 fun e w'=>∃ b,e=.returned (plV b (wds s.length))∧PlAt w' b (wds s.length) (turnsS s.length x (endsF s k) a d)∧q b∧b≠r∧b≠tb∧TbAt s Nm tb r lo q w'∧Chg (fun x=>x=r) w w' :=
 (h id K kn kc A cap q w0 hid hall (hnf.chg (Chg.of_grows (p:=fun _=>False) hg) fun _ _ _ h=>h) (ht.grows hg) fun b hb=>hq b (Nat.le_trans hg.below.size hb)).mono fun e w' ⟨b,h1,h2,h3,h4,h5,h6,h7⟩=>⟨b,h1,h2,h3,h4,h5,h6,(Chg.of_grows hg).trans h7⟩
theorem turn_next {x:NdV} {k:Fr} {a d:Nat} (h:TurnsC s Nm tb r lo x k a (d+1)) (id:Nat) (K:Option Addr) (kn kc:Nat) (A:Option Addr) (cap:Nat) {q:Nat→Prop} {w w0:World} (hid:Nm id x k) (hall:AllNum Nm k (id+1)) (hnf:NfAt (fun b=>b < lo) w A cap k (id+1)) (ht:TbAt s Nm tb r lo q w) (hq:∀ b,w.heap.size≤b→q b) (hg:Grows w w0) :
  Calls Tryz.prog 95 #[.pointer (some ⟨tb,0,none⟩),.agg (nmC x (.slice K kn kc) id (.slice A k.len cap)),.int .i64 a,.int .i64 ((d:Int)+1)] w0 fun e w'=>∃ b,e=.returned (plV b (wds s.length))∧PlAt w' b (wds s.length) (turnsS s.length x (endsF s k) a (d+1))∧q b∧b≠r∧b≠tb∧TbAt s Nm tb r lo q w'∧Chg (fun x=>x=r) w w':=by
 have:=turn_drew h id K kn kc A cap hid hall hnf ht hq hg
 rwa [show ((d+1:Nat):Int)=(d:Int)+1 from rfl] at this
theorem join_drew {w w0:World} {b c W:Nat} {P Q:Pl} (h:PlAt w b W P) (k:PlAt w c W Q) (hne:c≠b) (hW:W≤1000) (hg:Grows w w0) :
  Calls Tryz.prog 94 #[plV b W,plV c W] w0 fun e w'=>e=.returned (.tuple #[])∧PlAt w' b W (orP P Q)∧Chg (fun x=>x=b) w w' :=
 (join_any (h.grows hg) (k.grows hg) hne hW).mono fun e w' ⟨h1,h2,h3⟩=>⟨h1,h2,(Chg.of_grows hg).trans h3⟩
def turnE (s:List UInt8) (x:NdV) (k:Fr) (a d i:Nat):Pl:=fun j=>(decide (a < i) || decide (d < x.mn)) && turnsS s.length x (endsF s k) i (d+1) j
theorem turnE_no {x:NdV} {k:Fr} {a d i:Nat} (h1:¬ a < i) (h2:¬ d < x.mn):turnE s x k a d i=fun _=>false:=by funext j;unfold turnE;simp [h1,h2]
theorem turnE_yes {x:NdV} {k:Fr} {a d i:Nat} (h:a < i∨d < x.mn):turnE s x k a d i=turnsS s.length x (endsF s k) i (d+1):=by
 funext j
 unfold turnE
 rcases h with h | h <;> simp [h]
set_option maxRecDepth 100000 in
set_option maxHeartbeats 4000000 in
theorem turns1_any {x:NdV} {k:Fr} (a d i:Nat) (hturn:a < i∨d < x.mn→TurnsC s Nm tb r lo x k i (d+1)) (id:Nat) (K:Option Addr) (kn kc:Nat) (A:Option Addr) (cap bp:Nat) (P:Pl) (q:Nat→Prop) (w:World) {bA bD bX bP bT:Nat} (hs:s.length≤60000)
  (hA:blk w bA=#[.int .i64 a]) (hD:blk w bD=#[.int .i64 d]) (hX:blk w bX=nmC x (.slice K kn kc) id (.slice A k.len cap)) (hP:blk w bP=#[plV bp (wds s.length)]) (hT:blk w bT=#[.pointer (some ⟨tb,0,none⟩)])
  (hid:Nm id x k) (hall:AllNum Nm k (id+1)) (hnf:NfAt (fun b=>b < lo) w A cap k (id+1)) (ht:TbAt s Nm tb r lo q w) (hq:∀ b,w.heap.size≤b→q b) (hi:i≤s.length) (hd:d≤200000) (hc:PlAt w bp (wds s.length) P) (hqc:¬ q bp) (hcr:bp≠r) (hct:bp≠tb) (hlo:lo≤bp) (hPr:bP≠r) :
  Calls Tryz.prog 109 #[.int .i64 i,.pointer (some ⟨bA,0,none⟩),.pointer (some ⟨bD,0,none⟩),.pointer (some ⟨bX,0,none⟩),.pointer (some ⟨bP,0,none⟩),.pointer (some ⟨bT,0,none⟩)] w fun e w'=>e=.returned (.bool true)∧PlAt w' bp (wds s.length) (orP P (turnE s x k a d i))∧TbAt s Nm tb r lo q w'∧Chg (fun x=>x=r∨x=bp) w w':=by
 have hW:=wds_le hs
 have dA:w.cell? ⟨bA,0,none⟩=some (.int .i64 a):=Blk.cell hA (by simp) 0
 have dD:w.cell? ⟨bD,0,none⟩=some (.int .i64 d):=Blk.cell hD (by simp) 0
 have dP:w.cell? ⟨bP,0,none⟩=some (plV bp (wds s.length)):=Blk.cell hP (by simp) 0
 have dT:w.cell? ⟨bT,0,none⟩=some (.pointer (some ⟨tb,0,none⟩)):=Blk.cell hT (by simp) 0
 have dX:w.cell? ⟨bX,259,none⟩=some (.int .i64 x.mn):=((Blk.cell hX (by rw [nmC_size];decide) 259).trans (nmA_lt (ndA_size _ _ _ _ _ _ _) (by decide))).trans (ndA_259 _ _ _ _ _ _ _)
 have hld:=loadNm_all w bX _ hX (nmC_size _ _ _ _)
 have ibP:InHeap bP w:=Blk.inHeap hP (by simp)
 have ibX:InHeap bX w:=Blk.inHeap hX (by rw [nmC_size];decide)
 have ibT:InHeap bT w:=Blk.inHeap hT (by simp)
 have ibD:InHeap bD w:=Blk.inHeap hD (by simp)
 have H:=Lib.hid ht
 have HC:=Lib.hid hc
 have HNF:=Lib.hid hnf
 have HALL:=Lib.hid hall
 have HQ:=Lib.hid hq
 have HQC:=Lib.hid hqc
 have HID:=Lib.hid hid
 have HTU:=Lib.hid hturn
 have HX:=Lib.hid hX
 have HP:=Lib.hid hP
 obtain ⟨E,hE⟩:∃ E,turnE s x k a d i=E:=⟨_,rfl⟩
 rw [hE]
 have HE:=Lib.hid hE
 clear ht hc hnf hall hq hqc hid hturn hA hD hX hP hT hE
 go_enter Tryz.func109,Tryz.ntmps109
 by_cases hgo:a < i∨d < x.mn
 ·have htu:=HTU.out hgo
  have hE2:=HE.out.symm.trans (turnE_yes hgo)
  subst hE2
  go_upto_region 1 with fail
  go_cut [17] (fun v17 wx=>v17=.bool true∧wx=w)
  case first =>
   by_cases h1:a < i
   ·have h1i:(a:Int) < (i:Int):=by omega
    go_wp2_with fail
    go_meet
    exact ⟨rfl,rfl⟩
   ·have h1b:decide (a < i)=false:=decide_eq_false h1
    have h2:d < x.mn:=hgo.resolve_left h1
    clear hgo
    go_wp2_with fail
    go_meet
    exact ⟨rfl,rfl⟩
  case rest =>
   obtain ⟨rfl,hw⟩:=hcut
   have hw:=hw.symm
   subst hw
   have hXb:=HX.out
   have hwr:IntKind.i64.wrap ((d:Int)+1)=(d:Int)+1:=wrap_small (by omega) (by omega)
   clear hgo dA dX HTU HE hld
   go_upto_region 2 with fail
   go_region_law (first
    | (go_simp;(with_reducible refine Calls.mono (turn_next htu id K kn kc A cap HID.out HALL.out HNF.out H.out HQ.out (by repeat' first | exact Grows.refl _ | refine Grows.drewN ?_ _ | refine Grows.drew ?_)) ?_);rintro e w2 ⟨b2,rfl,hB2,hqb2,hbr2,hbt2,hT2,hC2⟩;have dP2:w2.cell? ⟨bP,0,none⟩=some (plV bp (wds s.length)):=Blk.cell ((chg_blk hC2 ibP hPr).trans HP.out) (by simp) 0;have W2:=Lib.hid (HC.out.chg hC2 hcr);have B2:=Lib.hid hB2;have T2:=Lib.hid hT2;have C2:=Lib.hid hC2;have hbne:b2≠bp:=fun e=>HQC.out (e ▸ hqb2);clear hB2 hT2 hC2 hqb2;dsimp only)
    | (go_simp;(with_reducible refine Calls.mono (join_drew W2.out B2.out hbne hW (by repeat' first | exact Grows.refl _ | refine Grows.drewN ?_ _ | refine Grows.drew ?_)) ?_);rintro e w3 ⟨rfl,hP3,hC3⟩;have P3:=Lib.hid hP3;have C3:=Lib.hid hC3;clear hP3 hC3;dsimp only))
   all_goals
    have T3:=Lib.hid (T2.out.put C3.out HQC.out hcr hct hlo)
    have CC:Hid (Chg (fun x=>x=r∨x=bp) w w3):=Lib.hid ((C2.out.mono fun _ _ h=>.inl h).trans (C3.out.mono fun _ _ h=>.inr h))
    go_wp2_with fail
    go_ret
    exact ⟨rfl,P3.out.grows (by repeat' first | exact Grows.refl _ | refine Grows.drewN ?_ _ | refine Grows.drew ?_),T3.out.grows (by repeat' first | exact Grows.refl _ | refine Grows.drewN ?_ _ | refine Grows.drew ?_),CC.out.trans (Chg.of_grows (by repeat' first | exact Grows.refl _ | refine Grows.drewN ?_ _ | refine Grows.drew ?_))⟩
 ·have hE2:=HE.out.symm.trans (turnE_no (fun h=>hgo (.inl h)) (fun h=>hgo (.inr h)))
  subst hE2
  have h1b:decide (a < i)=false:=decide_eq_false fun h=>hgo (.inl h)
  have h2b:decide (d < x.mn)=false:=decide_eq_false fun h=>hgo (.inr h)
  clear hgo HTU HE
  go_wp2_with fail
  go_ret
  exact ⟨rfl,by rw [or_none];exact HC.out,H.out,Chg.refl _ _⟩
end
end Go.Proofs.YtnjagecmhdagkaaGreatDoor
