/-
 Several texts of the proof: MatI, MatJ.
-/
import Derived.Test.YtnjagecmhdagkaaGreatDoorPk32
set_option linter.unusedSimpArgs false
set_option linter.unusedVariables false
set_option maxRecDepth 3000
/-
  Matches: stretches of groups within a node, walked.
-/
namespace Go.Proofs.YtnjagecmhdagkaaGreatDoor
open Go.RowKit
theorem turnsS_more (n:Nat) (x:NdV) (R:Nat→Pl) (i d:Nat):turnsS n x R i (capD x d+1)=turnsS n x R i (d+1):=by
 rw [← turnsS_cap n x R i (capD x d+1),← turnsS_cap n x R i (d+1)]
 congr 1
 unfold capD
 split <;> omega
theorem loop_spec {n a e d:Nat} {x:NdV} {R:Nat→Pl} (hR:Rises n R) (hae:a≤e) (hen:e≤n) (ht:turnsS n x R a d e=true) (hgo:a < e∨d < x.mn) :
  R a (longF (R a) (fun p=>turnsS n x R p (d+1) e) a e)=true∧turnsS n x R (longF (R a) (fun p=>turnsS n x R p (d+1) e) a e) (d+1) e=true∧a≤longF (R a) (fun p=>turnsS n x R p (d+1) e) a e∧longF (R a) (fun p=>turnsS n x R p (d+1) e) a e≤e ∧
  (e - longF (R a) (fun p=>turnsS n x R p (d+1) e) a e)+(x.mn - (d+1)) < (e - a)+(x.mn - d):=by
 rw [turnsS_eq hR (by omega)] at ht
 simp only [Bool.or_eq_true,Bool.and_eq_true,decide_eq_true_eq] at ht
 have hcap:capD x d≤d:=by unfold capD;split <;> omega
 have hcapm:d < x.mn→capD x d < x.mn:=fun h=>by omega
 rcases ht with ⟨h1,h2⟩ | ⟨h1,h2⟩
 ·have h3:x.mn≤d:=by omega
  omega
 ·rw [anyTo_iff] at h2
  obtain ⟨i,hi,h3⟩:=h2
  simp only [Bool.or_eq_true,Bool.and_eq_true,decide_eq_true_eq] at h3
  obtain ⟨⟨h4,h5⟩,h6⟩:=h3
  rw [turnsS_more] at h6
  have hri:=hR a i (by omega) h4
  have hie:=turnsS_rises hR _ i (d+1) e hri.2 h6
  obtain ⟨s1,s2,s3,s4,s5⟩:=longF_spec (R a) (fun p=>turnsS n x R p (d+1) e) a e ⟨i,hri.1,hie.1,h4,h6⟩
  refine ⟨s1,s2,s3,s4,?_⟩
  by_cases hd:d < x.mn
  ·omega
  ·have hai:a < i:=by
    rcases h5 with h | h
    ·exact h
    ·unfold capD at h;split at h <;> omega
   rcases s5 i hie.1 h4 h6 with h | h
   ·omega
   ·omega
theorem give_spec {s:List UInt8} {x:NdV} {k r:Fr} {a e:Nat} (hae:a≤e) (hen:e≤s.length) (h:endsF s (.cons x k r) a e=true) :
  nodeS s x (endsF s k) a (longF (nodeS s x (endsF s k) a) (fun q=>endsF s r q e) a e)=true∧endsF s r (longF (nodeS s x (endsF s k) a) (fun q=>endsF s r q e) a e) e=true∧a≤longF (nodeS s x (endsF s k) a) (fun q=>endsF s r q e) a e∧longF (nodeS s x (endsF s k) a) (fun q=>endsF s r q e) a e≤e:=by
 rw [endsF_cons (by omega)] at h
 obtain ⟨i,hi,h1,h2⟩:=h
 have hr1:=nodeS_rises (endsF_rises s k) a i (by omega) h1
 have hr2:=endsF_rises s r i e hi h2
 obtain ⟨s1,s2,s3,s4,_⟩:=longF_spec (nodeS s x (endsF s k) a) (fun q=>endsF s r q e) a e ⟨i,hr1.1,hr2.1,h1,h2⟩
 exact ⟨s1,s2,s3,s4⟩
theorem give_len:∀ {s:List UInt8} {f:Fr} {a e:Nat} {g:Spn},(giveV s f a e g).length=g.length:=by
 intro s f
 induction f with
 | nil=>intros;rfl
 | cons x k r ihk ihr =>
  intro a e g
  unfold giveV
  rw [ihr]
  unfold withinV
  split
  ·rw [spSet_len,ihk]
  ·split
   ·have:∀ (F a e d:Nat) (g:Spn),(turnLoop s.length x (endsF s k) (giveV s k) (unsetV k) F a e d g).length=g.length:=by
     intro F
     induction F with
     | zero=>intros;rfl
     | succ F ih =>
      intro a e d g
      unfold turnLoop
      split
      ·rw [ih,ihk,unset_len]
      ·rfl
    exact this _ _ _ _ _
   ·rfl
section
variable (s:List UInt8) (Nm:Nat→NdV→Fr→Prop) (tb r lo:Nat)
def GiveC (f:Fr):Prop:=∀ (m:Nat) (A:Option Addr) (cap a e G:Nat) (g:Spn) (q:Nat→Prop) (w:World),AllNum Nm f m→NfAt (fun b=>b < lo) w A cap f m→TbAt s Nm tb r lo q w→(∀ b,w.heap.size≤b→q b)→a≤e→e≤s.length→endsF s f a e=true→SpAt w G g→¬ q G→G≠r→G≠tb→lo≤G →
 Calls Tryz.prog 48 #[.pointer (some ⟨tb,0,none⟩),.slice A f.len cap,.int .i64 a,.int .i64 e,.pointer (some ⟨G,0,none⟩)] w fun e' w'=>e'=.returned (.tuple #[])∧SpAt w' G (giveV s f a e g)∧TbAt s Nm tb r lo q w'∧Chg (fun y=>y=r∨y=G) w w'
def WithinC (x:NdV) (k:Fr):Prop:=∀ (id:Nat) (K:Option Addr) (kn kc:Nat) (A:Option Addr) (cap a e G:Nat) (g:Spn) (q:Nat→Prop) (w:World),Nm id x k→AllNum Nm k (id+1)→NfAt (fun b=>b < lo) w A cap k (id+1)→TbAt s Nm tb r lo q w→(∀ b,w.heap.size≤b→q b)→a≤e→e≤s.length→nodeS s x (endsF s k) a e=true→SpAt w G g→¬ q G→G≠r→G≠tb→lo≤G →
 Calls Tryz.prog 78 #[.pointer (some ⟨tb,0,none⟩),.agg (nmC x (.slice K kn kc) id (.slice A k.len cap)),.int .i64 a,.int .i64 e,.pointer (some ⟨G,0,none⟩)] w fun e' w'=>e'=.returned (.tuple #[])∧SpAt w' G (withinV s x k (giveV s k) a e g)∧TbAt s Nm tb r lo q w'∧Chg (fun y=>y=r∨y=G) w w'
end
section
variable {s:List UInt8} {Nm:Nat→NdV→Fr→Prop} {tb r lo:Nat}
structure WvAt (tb:Nat) (x:NdV) (K:Option Addr) (kn kc id:Nat) (A:Option Addr) (kl cap e bT bX bE:Nat) (w:World):Prop where
 t:blk w bT=#[.pointer (some ⟨tb,0,none⟩)]
 x:blk w bX=nmC x (.slice K kn kc) id (.slice A kl cap)
 e:blk w bE=#[.int .i64 e]
section
variable {x:NdV} {K:Option Addr} {kn kc id:Nat} {A:Option Addr} {kl cap e bT bX bE:Nat} {w w':World} {p:Nat→Prop}
theorem WvAt.lts (h:WvAt tb x K kn kc id A kl cap e bT bX bE w):bT < w.heap.size∧bX < w.heap.size∧bE < w.heap.size:=⟨Blk.inHeap h.t (by simp),Blk.inHeap h.x (by rw [nmC_size];decide),Blk.inHeap h.e (by simp)⟩
theorem WvAt.chg (h:WvAt tb x K kn kc id A kl cap e bT bX bE w) (hc:Chg p w w') (hp:¬ p bT∧¬ p bX∧¬ p bE):WvAt tb x K kn kc id A kl cap e bT bX bE w' :=
 ⟨(chg_blk hc h.lts.1 hp.1).trans h.t,(chg_blk hc h.lts.2.1 hp.2.1).trans h.x,(chg_blk hc h.lts.2.2 hp.2.2).trans h.e⟩
theorem WvAt.grows (h:WvAt tb x K kn kc id A kl cap e bT bX bE w) (hg:Grows w w'):WvAt tb x K kn kc id A kl cap e bT bX bE w':=h.chg (Chg.of_grows (p:=fun _=>False) hg) ⟨fun h=>h,fun h=>h,fun h=>h⟩
theorem WvAt.tc (h:WvAt tb x K kn kc id A kl cap e bT bX bE w):w.cell? ⟨bT,0,none⟩=some (.pointer (some ⟨tb,0,none⟩)):=Blk.cell h.t (by simp) 0
theorem WvAt.ec (h:WvAt tb x K kn kc id A kl cap e bT bX bE w):w.cell? ⟨bE,0,none⟩=some (.int .i64 e):=Blk.cell h.e (by simp) 0
theorem WvAt.kind (h:WvAt tb x K kn kc id A kl cap e bT bX bE w):w.cell? ⟨bX,0,none⟩=some (.int .i64 x.kind):=((Blk.cell h.x (by rw [nmC_size];decide) 0).trans (nmA_lt (ndA_size _ _ _ _ _ _ _) (by decide))).trans (ndA_0 _ _ _ _ _ _ _)
theorem WvAt.n (h:WvAt tb x K kn kc id A kl cap e bT bX bE w):w.cell? ⟨bX,258,none⟩=some (.int .i64 x.n):=((Blk.cell h.x (by rw [nmC_size];decide) 258).trans (nmA_lt (ndA_size _ _ _ _ _ _ _) (by decide))).trans (ndA_258 _ _ _ _ _ _ _)
theorem WvAt.mn (h:WvAt tb x K kn kc id A kl cap e bT bX bE w):w.cell? ⟨bX,259,none⟩=some (.int .i64 x.mn):=((Blk.cell h.x (by rw [nmC_size];decide) 259).trans (nmA_lt (ndA_size _ _ _ _ _ _ _) (by decide))).trans (ndA_259 _ _ _ _ _ _ _)
theorem WvAt.kids (h:WvAt tb x K kn kc id A kl cap e bT bX bE w):w.cell? ⟨bX,263,none⟩=some (.slice A kl cap):=(Blk.cell h.x (by rw [nmC_size];decide) 263).trans (nmA_263 (ndA_size _ _ _ _ _ _ _))
end
theorem within_long (hs:s.length≤60000) (hN:NumOk Nm) {x:NdV} {k:Fr} (a d e:Nat) (id:Nat) (K:Option Addr) (kn kc:Nat) (A:Option Addr) (cap:Nat) (q:Nat→Prop) {w w0:World} {bT bX bD bE bR:Nat}
  (hv:WvAt tb x K kn kc id A k.len cap e bT bX bE w) (hD:blk w bD=#[.int .i64 d]) (hB:PlAt w bR (wds s.length) (endsF s k a))
  (hid:Nm id x k) (hall:AllNum Nm k (id+1)) (hnf:NfAt (fun b=>b < lo) w A cap k (id+1)) (ht:TbAt s Nm tb r lo q w) (hq:∀ b,w.heap.size≤b→q b) (ha:a≤s.length) (he:e≤s.length) (hd:d≤90000) (hne:bT≠r∧bX≠r∧bE≠r∧bD≠r∧bR≠r) (hg:Grows w w0) :
  Calls Tryz.prog 75 #[plV bR (wds s.length),.int .i64 a,.int .i64 e,.func (.func 96) #[] #[.pointer (some ⟨bT,0,none⟩),.pointer (some ⟨bX,0,none⟩),.pointer (some ⟨bD,0,none⟩),.pointer (some ⟨bE,0,none⟩)]] w0 fun e' w'=>e'=.returned (.int .i64 (longF (endsF s k a) (fun p=>turnsS s.length x (endsF s k) p (d+1) e) a e:Nat))∧TbAt s Nm tb r lo q w'∧Chg (fun y=>y=r) w w':=by
 have hin:∀ p,endsF s k a p=true→p≤s.length:=fun p h=>(endsF_rises s k a p ha h).2
 have iD:bD < w.heap.size:=Blk.inHeap hD (by simp)
 have hV:OnV (.func (.func 96) #[] #[.pointer (some ⟨bT,0,none⟩),.pointer (some ⟨bX,0,none⟩),.pointer (some ⟨bD,0,none⟩),.pointer (some ⟨bE,0,none⟩)]) (endsF s k a) (fun p=>turnsS s.length x (endsF s k) p (d+1) e) a e 96 #[.pointer (some ⟨bT,0,none⟩),.pointer (some ⟨bX,0,none⟩),.pointer (some ⟨bD,0,none⟩),.pointer (some ⟨bE,0,none⟩)] (fun wj=>TbAt s Nm tb r lo q wj∧Chg (fun y=>y=r) w wj):=by
  refine ⟨rfl,enters_within1,fun p wj h1 h2 h3 ⟨h4,h5⟩=>?_⟩
  have vj:=hv.chg h5 ⟨hne.1,hne.2.1,hne.2.2.1⟩
  have hsz:=h5.size
  refine (within1_any hs hN d e p id K kn kc A cap q wj vj.t vj.x ((chg_blk h5 iD hne.2.2.2.1).trans hD) vj.e hid hall (hnf.chg h5 fun b _ hb e=>by have:=ht.lr;omega) h4 (fun b hb=>hq b (by omega)) (hin p h3) he hd hne.2.2.1).mono ?_
  rintro e' w' ⟨rfl,g1,g2⟩
  exact ⟨rfl,g1,h5.trans g2⟩
 refine (longest_any (w:=w0) (b:=bR) (e:=e) hV ⟨ht.grows hg,Chg.of_grows hg⟩ (fun wj ⟨h4,h5⟩=>hB.chg h5 hne.2.2.2.2) (wds_le hs) (wds_lt he)).mono ?_
 rintro e' w' ⟨rfl,h1,h2⟩
 exact ⟨rfl,h1,h2⟩
theorem give_long (hs:s.length≤60000) (hN:NumOk Nm) {f a1 k rest:Fr} {x:NdV} (m b0 o0 cap i a e:Nat) (hf:f=a1.app (.cons x k rest)) (hi:a1.len=i) (q:Nat→Prop) {w w0:World} {bT bL bI bE c:Nat} {P:Pl}
  (hT:blk w bT=#[.pointer (some ⟨tb,0,none⟩)]) (hL:blk w bL=#[.slice (some ⟨b0,o0,none⟩) f.len cap]) (hI:blk w bI=#[.int .i64 i]) (hE:blk w bE=#[.int .i64 e]) (hB:PlAt w c (wds s.length) P) (hin:∀ p,P p=true→p≤s.length)
  (hall:AllNum Nm f m) (hnf:NfAt (fun b=>b < lo) w (some ⟨b0,o0,none⟩) cap f m) (ht:TbAt s Nm tb r lo q w) (hq:∀ b,w.heap.size≤b→q b) (he:e≤s.length) (hne:bT≠r∧bL≠r∧bI≠r∧bE≠r∧c≠r) (hg:Grows w w0) :
  Calls Tryz.prog 75 #[plV c (wds s.length),.int .i64 a,.int .i64 e,.func (.func 76) #[] #[.pointer (some ⟨bT,0,none⟩),.pointer (some ⟨bL,0,none⟩),.pointer (some ⟨bI,0,none⟩),.pointer (some ⟨bE,0,none⟩)]] w0 fun e' w'=>e'=.returned (.int .i64 (longF P (fun p=>endsF s rest p e) a e:Nat))∧TbAt s Nm tb r lo q w'∧Chg (fun y=>y=r) w w':=by
 have iT:bT < w.heap.size:=Blk.inHeap hT (by simp)
 have iL:bL < w.heap.size:=Blk.inHeap hL (by simp)
 have iI:bI < w.heap.size:=Blk.inHeap hI (by simp)
 have iE:bE < w.heap.size:=Blk.inHeap hE (by simp)
 have hV:OnV (.func (.func 76) #[] #[.pointer (some ⟨bT,0,none⟩),.pointer (some ⟨bL,0,none⟩),.pointer (some ⟨bI,0,none⟩),.pointer (some ⟨bE,0,none⟩)]) P (fun p=>endsF s rest p e) a e 76 #[.pointer (some ⟨bT,0,none⟩),.pointer (some ⟨bL,0,none⟩),.pointer (some ⟨bI,0,none⟩),.pointer (some ⟨bE,0,none⟩)] (fun wj=>TbAt s Nm tb r lo q wj∧Chg (fun y=>y=r) w wj):=by
  refine ⟨rfl,enters_give1,fun p wj h1 h2 h3 ⟨h4,h5⟩=>?_⟩
  have hsz:=h5.size
  refine (give1_any hs hN m b0 o0 cap i e p hf hi q wj ((chg_blk h5 iT hne.1).trans hT) ((chg_blk h5 iL hne.2.1).trans hL) ((chg_blk h5 iI hne.2.2.1).trans hI) ((chg_blk h5 iE hne.2.2.2.1).trans hE) hall (hnf.chg h5 fun b _ hb e=>by have:=ht.lr;omega) h4 (fun b hb=>hq b (by omega)) (hin p h3) he hne.2.2.2.1).mono ?_
  rintro e' w' ⟨rfl,g1,g2⟩
  exact ⟨rfl,g1,h5.trans g2⟩
 refine (longest_any (w:=w0) (b:=c) (e:=e) hV ⟨ht.grows hg,Chg.of_grows hg⟩ (fun wj ⟨h4,h5⟩=>hB.chg h5 hne.2.2.2.2) (wds_le hs) (wds_lt he)).mono ?_
 rintro e' w' ⟨rfl,h1,h2⟩
 exact ⟨rfl,h1,h2⟩
end
end Go.Proofs.YtnjagecmhdagkaaGreatDoor
namespace Go.Proofs.YtnjagecmhdagkaaGreatDoor
open Go.RowKit
attribute [local go_sem ↓] zeroNm ldNm_eq stNm_eq
attribute [local go_sem] loadNm loadNm_if storeNm storeNm_if nm_one_nd nm_size_nd over_nm span_nm
section
variable {s:List UInt8} {Nm:Nat→NdV→Fr→Prop} {tb r lo:Nat}
structure WtAt (s:List UInt8) (Nm:Nat→NdV→Fr→Prop) (tb r lo:Nat) (x:NdV) (K:Option Addr) (kn kc id:Nat) (A:Option Addr) (kl cap e bT bX bE G bD d:Nat) (g:Spn) (q:Nat→Prop) (w wr:World):Prop where
 v:WvAt tb x K kn kc id A kl cap e bT bX bE wr
 d:blk wr bD=#[.int .i64 d]
 sp:SpAt wr G g
 tab:TbAt s Nm tb r lo q wr
 chg:Chg (fun y=>y=r∨y=G) w wr
 low:w.heap.size≤bD
set_option maxRecDepth 100000 in
set_option maxHeartbeats 8000000 in
theorem within_any (hs:s.length≤60000) (hN:NumOk Nm) {x:NdV} {k:Fr} (hgive:GiveC s Nm tb r lo k):WithinC s Nm tb r lo x k:=by
 intro id K kn kc A cap a e G g q w hid hall hnf ht hq hae hen hnode hG hqG hGr hGt hGlo
 have hW:=wds_le hs
 obtain ⟨hok,hidl⟩:=hN.ok id x k hid
 have hmn:=hok.mn
 have hxn:=hok.n
 have hxi:(x.n:Int) < 10:=by omega
 have H:=Lib.hid ht
 have HNF:=Lib.hid hnf
 have HALL:=Lib.hid hall
 have HQ:=Lib.hid hq
 have HID:=Lib.hid hid
 have HG:=Lib.hid hG
 have HQG:=Lib.hid hqG
 have HN:=Lib.hid hN
 have HND:=Lib.hid hnode
 have irw:r < w.heap.size:=ht.rlt
 have itw:tb < w.heap.size:=ht.inh
 have iGw:G < w.heap.size:=hG.inh
 clear ht hnf hall hq hid hG hqG hN hok hnode
 obtain ⟨S,hS⟩:∃ S,withinV s x k (giveV s k) a e g=S:=⟨_,rfl⟩
 rw [hS]
 have HS:=Lib.hid hS
 clear hS
 go_enter Tryz.func78,Tryz.ntmps78
 go_upto_region 1 with fail
 have hL:=(((LaidAt.start w).alloc #[.pointer (some ⟨tb,0,none⟩)] 112).alloc (nmC x (.slice K kn kc) id (.slice A k.len cap)) 102).alloc #[.int .i64 e] 3
 generalize ((w.alloc (Obj.cells #[.pointer (some ⟨tb,0,none⟩)] 112)).alloc (Obj.cells (nmC x (.slice K kn kc) id (.slice A k.len cap)) 102)).alloc (Obj.cells #[.int .i64 e] 3)=w1 at *
 obtain ⟨bE,hbE⟩:∃ z,z=w.heap.size+1+1:=⟨_,rfl⟩
 obtain ⟨bX,hbX⟩:∃ z,z=w.heap.size+1:=⟨_,rfl⟩
 obtain ⟨bT,hbT⟩:∃ z,z=w.heap.size:=⟨_,rfl⟩
 rw [← hbE,← hbX,← hbT]
 have hV1:WvAt tb x K kn kc id A k.len cap e bT bX bE w1:=⟨by rw [hbT];exact hL.blk 0 _ rfl,by rw [hbX];exact hL.blk 1 _ rfl,by rw [hbE];exact hL.blk 2 _ rfl⟩
 have hg1:=hL.grows
 have hz1:w1.heap.size=w.heap.size+3:=hL.size
 have HB:Hid (bT=w.heap.size∧bX=w.heap.size+1∧bE=w.heap.size+1+1):=Lib.hid ⟨hbT,hbX,hbE⟩
 have hne:bT≠r∧bX≠r∧bE≠r:=by omega
 have hneG:bT≠G∧bX≠G∧bE≠G:=by omega
 clear hL hbE hbX hbT
 have e0:=hV1.kind
 have V1:=Lib.hid hV1
 have G1:=Lib.hid hg1
 have T1:=Lib.hid (H.out.grows hg1)
 have S1:=Lib.hid (HG.out.grows hg1)
 have NF1:Hid (NfAt (fun b=>b < lo) w1 A cap k (id+1)):=Lib.hid (HNF.out.chg (Chg.of_grows (p:=fun _=>False) hg1) fun _ _ _ h=>h)
 have HQ1:Hid (∀ b,w1.heap.size≤b→q b):=Lib.hid fun b hb=>HQ.out b (by omega)
 have NE:=Lib.hid (And.intro hne hneG)
 have NFW:=HNF
 clear hV1 hg1 H HNF hne hneG
 by_cases h7:x.kind=7
 ·have b7:((x.kind:Int) == 7)=true:=by simp;omega
  have hends:endsF s k a e=true:=by have:=HND.out;rw [nodeS_7 h7] at this;exact this
  have hcall:=hgive (id+1) A cap a e G g q w1 HALL.out NF1.out T1.out HQ1.out hae hen hends S1.out HQG.out hGr hGt hGlo
  have hSe:S=spSet (giveV s k a e g) x.n a e:=by rw [← HS.out];unfold withinV;rw [if_pos h7]
  have k1:=V1.out.kids
  have e1:=V1.out.ec
  have t1:=V1.out.tc
  subst hSe
  have hgl:(giveV s k a e g).length=20:=by rw [give_len];exact HG.out.len
  clear h7 HS hends
  go_wp2_with fail
  (with_reducible refine hcall.mono ?_)
  rintro e9 w2 ⟨rfl,hS2,hT2,hC2⟩
  have V2:=V1.out.chg hC2 ⟨fun h=>h.elim NE.out.1.1 NE.out.2.1,fun h=>h.elim NE.out.1.2.1 NE.out.2.2.1,fun h=>h.elim NE.out.1.2.2 NE.out.2.2.2⟩
  have c258:=V2.n
  have cE:=V2.ec
  have g0:=hS2.cell (k:=x.n*2) (by omega)
  have g1:=hS2.cell (k:=x.n*2+1) (by omega)
  have gf:=hS2.free
  have iG:InHeap G w2:=hS2.inh
  have iX:InHeap bX w2:=V2.lts.2.1
  have iE:InHeap bE w2:=V2.lts.2.2
  generalize hz0:(giveV s k a e g).getD (x.n*2) 0=z0 at g0
  generalize hz1:(giveV s k a e g).getD (x.n*2+1) 0=z1 at g1
  have hputT:=hT2.put (sp_chg w2 G x.n (.int .i64 a) (.int .i64 e)) HQG.out hGr hGt hGlo
  have HPT:=Lib.hid hputT
  have S2:=Lib.hid hS2
  have C2:=Lib.hid ((Chg.of_grows G1.out).trans hC2)
  clear hcall hS2 hT2 hC2 hputT V2 hz0 hz1 k1 e1 t1 e0
  go_upto_region 4 with fail
  go_region_law (fail)
  all_goals
   go_wp2_with fail
   exact ⟨rfl,.tuple #[],results_none rfl _ _ _,rfl,(S2.out.put _ _ _).grows (by repeat' first | exact Grows.refl _ | refine Grows.drewN ?_ _ | refine Grows.drew ?_),HPT.out.grows (by repeat' first | exact Grows.refl _ | refine Grows.drewN ?_ _ | refine Grows.drew ?_),C2.out.trans (((sp_chg _ _ _ _ _).mono fun _ _ h=>.inr h).trans (Chg.of_grows (by repeat' first | exact Grows.refl _ | refine Grows.drewN ?_ _ | refine Grows.drew ?_)))⟩
 have b7:((x.kind:Int) == 7)=false:=by simp;omega
 by_cases h8:x.kind=8
 ·have b8:((x.kind:Int) == 8)=true:=by simp;omega
  have ht0:turnsS s.length x (endsF s k) a 0 e=true:=by have:=HND.out;rw [nodeS_8 h8] at this;exact this
  have hSe:turnLoop s.length x (endsF s k) (giveV s k) (unsetV k) ((e - a)+x.mn+1) a e 0 g=S:=by rw [← HS.out];unfold withinV;rw [if_neg h7,if_pos h8]
  have HT0:=Lib.hid ht0
  have HSE:=Lib.hid hSe
  clear h7 h8 HS HND ht0 hSe
  have hT2:WtAt s Nm tb r lo x K kn kc id A k.len cap e bT bX bE G (w.heap.size+3) 0 g q w (w1.alloc (.cells #[.int .i64 0] 3)):=by
   have hg2:Grows w1 (w1.alloc (.cells #[.int .i64 0] 3)):=(Grows.refl _).alloc _
   exact ⟨V1.out.grows hg2,blk_alloc_at _ _ _ _ hz1.symm,S1.out.grows hg2,T1.out.grows hg2,Chg.of_grows (G1.out.trans hg2),by omega⟩
  have HT2:=Lib.hid hT2
  have hz2:(w1.alloc (.cells #[.int .i64 0] 3)).heap.size=w.heap.size+4:=by simp [hz1]
  clear hT2
  go_wp2_with fail
  obtain ⟨bD0,hbD0⟩:∃ z,z=w.heap.size+3:=⟨_,rfl⟩
  rw [← hbD0] at HT2 ⊢
  obtain ⟨F0,hF0⟩:∃ z,z=(e - a)+x.mn+1:=⟨_,rfl⟩
  rw [← hF0] at HSE
  generalize w1.alloc (.cells #[.int .i64 0] 3)=w2 at *
  clear hbD0 hz2 e0 b7 b8
  go_loopg [2,10] F0 (fun q0 v2 v10 wr=>∃ (t d bD:Nat) (g':Spn),v2=.int .i64 t∧v10=.pointer (some ⟨bD,0,none⟩)∧WtAt s Nm tb r lo x K kn kc id A k.len cap e bT bX bE G bD d g' q w wr∧t≤e∧turnsS s.length x (endsF s k) t d e=true∧turnLoop s.length x (endsF s k) (giveV s k) (unsetV k) q0 t e d g'=S∧(e - t)+(x.mn - d)+1≤q0∧d+q0=F0)
  case atStart=>exact ⟨a,0,bD0,g,rfl,rfl,HT2.out,hae,HT0.out,HSE.out,by omega,by omega⟩
  case round =>
   obtain ⟨t,d,bD,g',rfl,rfl,hWt,hte,htu,hlo,hF,hdF⟩:=hrel
   clear HT2 HT0 HSE S1 T1 V1 G1 NF1 HQ1 hz1
   have e1:=hWt.v.ec
   have e2:=hWt.v.mn
   have e3:wr.cell? ⟨bD,0,none⟩=some (.int .i64 d):=Blk.cell hWt.d (by simp) 0
   have W:=Lib.hid hWt
   have HTU:=Lib.hid htu
   have HLO:=Lib.hid hlo
   have HF:=Lib.hid (And.intro hF hdF)
   have hte9:t≤60000:=by omega
   have hd9:d≤62000:=by omega
   have HF0:=Lib.hid hF0
   clear hWt htu hlo hF hdF hF0
   obtain ⟨B,hB⟩:∃ B,(decide (t < e) || decide (d < x.mn))=B:=⟨_,rfl⟩
   go_upto_region 7 with fail
   go_cut [44] (fun v44 wx=>v44=.bool B∧wx=wr)
   case first =>
    by_cases h1:t < e
    ·have h1i:(t:Int) < (e:Int):=by omega
     have hBt:B=true:=by rw [← hB,decide_eq_true h1];rfl
     subst hBt
     clear hB
     go_wp2_with fail
     go_meet
     exact ⟨rfl,rfl⟩
    ·have h1b:decide (t < e)=false:=decide_eq_false h1
     rw [h1b,Bool.false_or] at hB
     go_wp2_with fail
     go_meet
     exact ⟨rfl,rfl⟩
   case rest =>
    obtain ⟨rfl,hw⟩:=hcut
    have hw:=hw.symm
    subst hw
    cases B with
    | false =>
     have hno:¬ (t < e∨d < x.mn):=by simpa using hB
     have hSe:g'=S:=by
      have h1:=HLO.out
      obtain ⟨F,hFF⟩:∃ F,gk=F+1:=⟨gk - 1,by have:=HF.out.1;omega⟩
      rw [hFF] at h1
      unfold turnLoop at h1
      rw [if_neg hno] at h1
      exact h1
     subst hSe
     clear hB hno HLO e1 e2 e3
     go_wp2_with fail
     exact ⟨rfl,.tuple #[],results_none rfl _ _ _,rfl,W.out.sp,W.out.tab,W.out.chg⟩
    | true =>
     have hgo:t < e∨d < x.mn:=by simpa using hB
     obtain ⟨s1,s2,s3,s4,s5⟩:=loop_spec (endsF_rises s k) hte hen HTU.out hgo
     have hLO2:turnLoop s.length x (endsF s k) (giveV s k) (unsetV k) (gk - 1) (longF (endsF s k t) (fun p=>turnsS s.length x (endsF s k) p (d+1) e) t e) e (d+1) (giveV s k t (longF (endsF s k t) (fun p=>turnsS s.length x (endsF s k) p (d+1) e) t e) (unsetV k g'))=S:=by
      have h1:=HLO.out
      obtain ⟨F,hFF⟩:∃ F,gk=F+1:=⟨gk - 1,by have:=HF.out.1;omega⟩
      rw [hFF] at h1
      unfold turnLoop at h1
      rw [if_pos hgo] at h1
      rw [hFF]
      exact h1
     have hlongD:=fun (w0 w9:World) (bR:Nat) (h1:Chg (fun y=>y=r) wr w9) (h2:TbAt s Nm tb r lo q w9) (h3:PlAt w9 bR (wds s.length) (endsF s k t)) (h4:wr.heap.size≤bR) (h5:Grows w9 w0)=>(show Calls Tryz.prog 75 #[plV bR (wds s.length),.int .i64 t,.int .i64 e,.func (.func 96) #[] #[.pointer (some ⟨bT,0,none⟩),.pointer (some ⟨bX,0,none⟩),.pointer (some ⟨bD,0,none⟩),.pointer (some ⟨bE,0,none⟩)]] w0 fun e' w'=>e'=.returned (.int .i64 (longF (endsF s k t) (fun p=>turnsS s.length x (endsF s k) p (d+1) e) t e:Nat))∧TbAt s Nm tb r lo q w'∧Chg (fun y=>y=r) w9 w' from by
      have hrl:=W.out.tab.rlt
      have hsz:=h1.size
      have hl:=W.out.low
      have hv:=W.out.v.lts
      have hws:=W.out.chg.size
      have hDl:bD < wr.heap.size:=Blk.inHeap W.out.d (by simp)
      exact within_long hs HN.out t d e id K kn kc A cap q (W.out.v.chg h1 NE.out.1) ((chg_blk h1 hDl (by omega)).trans W.out.d) h3 HID.out HALL.out ((NFW.out.chg W.out.chg fun b _ hb e=>by have:=W.out.tab.lr;omega).chg h1 fun b _ hb e=>by have:=W.out.tab.lr;omega) h2 (fun b hb=>HQ.out b (by omega)) (by omega) hen (by omega) ⟨NE.out.1.1,NE.out.1.2.1,NE.out.1.2.2,by omega,by omega⟩ h5)
     obtain ⟨uu,huu⟩:∃ z,longF (endsF s k t) (fun p=>turnsS s.length x (endsF s k) p (d+1) e) t e=z:=⟨_,rfl⟩
     rw [huu] at s1 s2 s3 s4 s5 hLO2
     simp only [huu] at hlongD
     have HLD:=Lib.hid hlongD
     have HLO2:=Lib.hid hLO2
     have HS9:=Lib.hid (And.intro s1 (And.intro s2 (And.intro s3 (And.intro s4 s5))))
     have hNFr:NfAt (fun b=>b < lo) wr A cap k (id+1):=NFW.out.chg W.out.chg fun b _ hb e=>by have:=W.out.tab.lr;omega
     have HNFr:=Lib.hid hNFr
     have hszw:=W.out.chg.size
     have HQr:Hid (∀ b,wr.heap.size≤b→q b):=Lib.hid fun b hb=>HQ.out b (by omega)
     have hu9:uu≤60000:=by omega
     have htn:t≤s.length:=by omega
     have t1:=W.out.v.tc
     have k1:=W.out.v.kids
     have iT:InHeap bT wr:=W.out.v.lts.1
     have iX:InHeap bX wr:=W.out.v.lts.2.1
     have iE:InHeap bE wr:=W.out.v.lts.2.2
     clear hlongD hLO2 s1 s2 s3 s4 s5 huu hgo hB hNFr HLO HTU e2
     go_upto_region 9 with fail
     go_cut [11] (fun v11 wx=>v11=.int .i64 uu∧TbAt s Nm tb r lo q wx∧Chg (fun y=>y=r) wr wx)
     case first =>
      go_region_law (first
       | (go_simp;(with_reducible refine Calls.mono (row_drew (mrow_ok hs HN.out k) _ A cap t HALL.out HNFr.out W.out.tab HQr.out htn (by repeat' first | exact Grows.refl _ | refine Grows.drewN ?_ _ | refine Grows.drew ?_)) ?_);rintro e' w3 ⟨bR,rfl,hB3,hbl3,hT3,hC3⟩;have eE3:w3.cell? ⟨bE,0,none⟩=some (.int .i64 e):=(W.out.v.chg hC3 NE.out.1).ec;have B3:=Lib.hid hB3;have T3:=Lib.hid hT3;have C3:=Lib.hid hC3;have L3:=Lib.hid hbl3;clear hB3 hT3 hC3 hbl3;dsimp only)
       | (go_simp;(with_reducible refine Calls.mono (HLD.out _ w3 bR C3.out T3.out B3.out L3.out (by repeat' first | exact Grows.refl _ | refine Grows.drewN ?_ _ | refine Grows.drew ?_)) ?_);rintro e' w4 ⟨rfl,hT4,hC4⟩;have T4:=Lib.hid hT4;have C4:=Lib.hid hC4;clear hT4 hC4;dsimp only))
      all_goals
       go_wp2_with fail
       go_meet
       exact ⟨rfl,T4.out.grows (by repeat' first | exact Grows.refl _ | refine Grows.drewN ?_ _ | refine Grows.drew ?_),(C3.out.trans C4.out).trans (Chg.of_grows (by repeat' first | exact Grows.refl _ | refine Grows.drewN ?_ _ | refine Grows.drew ?_))⟩
     case rest =>
      obtain ⟨rfl,hT5,hC5⟩:=hcut
      have hDl:bD < wr.heap.size:=Blk.inHeap W.out.d (by simp)
      have hDr:bD≠r∧bD≠G:=by have:=W.out.low;omega
      have V5:=W.out.v.chg hC5 NE.out.1
      have D5:=(chg_blk hC5 hDl hDr.1).trans W.out.d
      have S5:=W.out.sp.chg hC5 hGr
      have NF5:NfAt (fun b=>b < lo) wc A cap k (id+1):=HNFr.out.chg hC5 fun b _ hb e=>by have:=W.out.tab.lr;omega
      have hun:=unset_any (fun b=>b < lo) k.size k (id+1) A cap wc G g' (Nat.le_refl _) (AllNum.nd HN.out HALL.out) NF5 S5 (by omega)
      have k5:=V5.kids
      have hs5:=hC5.size
      have HV5:=Lib.hid V5
      have HD5:=Lib.hid D5
      have HNF5:=Lib.hid NF5
      have HT5:=Lib.hid hT5
      have HC5:=Lib.hid (W.out.chg.trans (hC5.mono fun _ _ h=>.inl h))
      clear HLD V5 D5 S5 NF5 hT5 hC5 e1 e3 t1 k1 iT iX iE
      go_wp2_with fail
      (with_reducible refine hun.mono ?_)
      rintro e9 w6 ⟨rfl,hS6,hC6⟩
      have V6:=HV5.out.chg hC6 NE.out.2
      have D6:=(chg_blk hC6 (by have:=hs5;omega) hDr.2).trans HD5.out
      have NF6:NfAt (fun b=>b < lo) w6 A cap k (id+1):=HNF5.out.chg hC6 fun b _ hb e=>by omega
      have T6:=HT5.out.put hC6 HQG.out hGr hGt hGlo
      have hs6:=hC6.size
      have hgv:=hgive (id+1) A cap t uu G _ q w6 HALL.out NF6 T6 (fun b hb=>HQ.out b (by omega)) HS9.out.2.2.1 (by have:=HS9.out.2.2.2.1;omega) HS9.out.1 hS6 HQG.out hGr hGt hGlo
      have t6:=V6.tc
      have k6:=V6.kids
      have HV6:=Lib.hid V6
      have HD6:=Lib.hid D6
      have HC6:=Lib.hid (HC5.out.trans (hC6.mono fun _ _ h=>.inr h))
      clear hun hS6 hC6 V6 D6 NF6 T6 k5 HV5 HD5 HNF5 HT5 HC5
      go_wp2_with fail
      (with_reducible refine hgv.mono ?_)
      rintro e9 w7 ⟨rfl,hS7,hT7,hC7⟩
      have V7:=HV6.out.chg hC7 ⟨fun h=>h.elim NE.out.1.1 NE.out.2.1,fun h=>h.elim NE.out.1.2.1 NE.out.2.2.1,fun h=>h.elim NE.out.1.2.2 NE.out.2.2.2⟩
      have D7:=(chg_blk hC7 (by omega) (fun h=>h.elim hDr.1 hDr.2)).trans HD6.out
      have d7:w7.cell? ⟨bD,0,none⟩=some (.int .i64 d):=Blk.cell D7 (by simp) 0
      have hs7:=hC7.size
      have hgE:Grows w7 (w7.alloc (.cells #[.int .i64 ((d:Int)+1)] 3)):=(Grows.refl _).alloc _
      have W9:WtAt s Nm tb r lo x K kn kc id A k.len cap e bT bX bE G w7.heap.size (d+1) (giveV s k t uu (unsetV k g')) q w (w7.alloc (.cells #[.int .i64 ((d:Int)+1)] 3)) :=
       ⟨V7.grows hgE,blk_alloc_at _ _ _ _ rfl,hS7.grows hgE,hT7.grows hgE,(HC6.out.trans hC7).trans (Chg.of_grows hgE),by omega⟩
      have HW9:=Lib.hid W9
      clear hgv hS7 hT7 hC7 V7 D7 t6 k6 HV6 HD6 HC6 hgE W9 W
      go_wp2_with fail
      go_roundg (gk - 1)
      case measure=>have:=HF.out;omega
      case rel=>exact ⟨uu,d+1,w7.heap.size,_,rfl,rfl,HW9.out,HS9.out.2.2.2.1,HS9.out.2.1,HLO2.out,by have:=HF.out;have:=HS9.out.2.2.2.2;omega,by have:=HF.out;omega⟩
 have b8:((x.kind:Int) == 8)=false:=by simp;omega
 have hSe:S=g:=by rw [← HS.out];unfold withinV;rw [if_neg h7,if_neg h8]
 subst hSe
 clear h7 h8 HS
 go_wp2_with fail
 exact ⟨rfl,.tuple #[],results_none rfl _ _ _,rfl,S1.out,T1.out,Chg.of_grows G1.out⟩
end
end Go.Proofs.YtnjagecmhdagkaaGreatDoor
