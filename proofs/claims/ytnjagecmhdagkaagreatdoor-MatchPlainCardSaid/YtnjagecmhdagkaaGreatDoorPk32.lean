/-
 Several texts of the proof: MatH, MatSc.
-/
import Derived.Test.YtnjagecmhdagkaaGreatDoorPk31
set_option linter.unusedSimpArgs false
set_option linter.unusedVariables false
set_option maxRecDepth 3000
/-
  Matches: what is asked of a place, walked.
-/
namespace Go.Proofs.YtnjagecmhdagkaaGreatDoor
open Go.RowKit
theorem NfAt.drop {ok:Nat→Prop} {w:World} {b o cap m:Nat} {a c:Fr} (h:NfAt ok w (some ⟨b,o,none⟩) cap (a.app c) m) (A:Option Addr) (hA:0 < c.len→A=some ⟨b,o+a.len*264,none⟩) (hne:A≠none):NfAt ok w A (cap - a.len) c (m+a.size):=by
 obtain ⟨xs,h1,h2⟩:=h
 have hsplit:∀ {a:Fr} {m:Nat} {xs:List Value},NfRow ok w (a.app c) m xs→∃ ys zs,xs=ys++zs∧ys.length=a.len*264∧NfRow ok w c (m+a.size) zs:=by
  intro a
  induction a with
  | nil=>intro m xs h;exact ⟨[],xs,rfl,by simp [Fr.len],h⟩
  | cons x k r _ ihr =>
   rintro m xs ⟨KA,kn,kc,K,capk,us,zs,e,h1,h2,h3⟩
   obtain ⟨ys,zs2,e2,hl,h4⟩:=ihr h3
   refine ⟨(nmC x (.slice KA kn kc) m (.slice K k.len capk)).toList++ys,zs2,by rw [e,e2,List.append_assoc],?_,?_⟩
   ·rw [List.length_append,Array.length_toList,nmC_size,hl,Fr.len];omega
   ·rw [show m+(Fr.cons x k r).size=m+1+k.size+r.size by simp [Fr.size];omega];exact h4
 obtain ⟨ys,zs,e,hl,h3⟩:=hsplit h2
 have hlen:=h1.rd.1
 have hle:=h1.le
 rw [Fr.len_app] at hlen hle
 refine ⟨zs,⟨⟨?_,fun hc=>?_⟩,fun e=>absurd e hne,by omega,by have:=h1.cap63;omega,fun hc a2 e2=>?_⟩,h3⟩
 ·rw [e,List.length_append,hl] at hlen
  have:(a.len+c.len)*264=a.len*264+c.len*264:=Nat.add_mul _ _ _
  omega
 ·obtain ⟨b',o',e2,hb,hcell⟩:=h1.rd.2 (by rw [Fr.len_app];omega)
  cases e2
  refine ⟨b,o+a.len*264,hA hc,hb,fun j u hu=>?_⟩
  rw [Nat.add_assoc]
  refine hcell (a.len*264+j) u ?_
  rw [e,List.getElem?_append_right (by omega),hl,Nat.add_sub_cancel_left]
  exact hu
 ·have:=hA hc
  rw [this] at e2
  cases e2
  exact h1.ok (by rw [Fr.len_app];omega) ⟨b,o,none⟩ rfl
section
variable {s:List UInt8} {Nm:Nat→NdV→Fr→Prop} {tb r lo:Nat}
theorem row_drew {f:Fr} (h:RowC s Nm tb r lo f) (m:Nat) (A:Option Addr) (cap a:Nat) {q:Nat→Prop} {w w0:World} (hall:AllNum Nm f m) (hnf:NfAt (fun b=>b < lo) w A cap f m) (ht:TbAt s Nm tb r lo q w) (hq:∀ b,w.heap.size≤b→q b) (ha:a≤s.length) (hg:Grows w w0) :
  Calls Tryz.prog 45 #[.pointer (some ⟨tb,0,none⟩),.slice A f.len cap,.int .i64 a] w0 fun e w'=>∃ b,e=.returned (plV b (wds s.length))∧PlAt w' b (wds s.length) (endsF s f a)∧w.heap.size≤b∧TbAt s Nm tb r lo q w'∧Chg (fun x=>x=r) w w' :=
 (h m A cap a q w0 hall (hnf.chg (Chg.of_grows (p:=fun _=>False) hg) fun _ _ _ h=>h) (ht.grows hg) (fun b hb=>hq b (Nat.le_trans hg.below.size hb)) ha).mono fun e w' ⟨b,h1,h2,h3,h4,h5⟩=>⟨b,h1,h2,Nat.le_trans hg.below.size h3,h4,(Chg.of_grows hg).trans h5⟩
theorem mhas_drew {w w0:World} {b W:Nat} {P:Pl} (h:PlAt w b W P) (a:Nat) (ha:a < 64*W) (hW:W≤1000) (hg:Grows w w0) :
  Calls Tryz.prog 77 #[plV b W,.int .i64 a] w0 fun e w'=>e=.returned (.bool (P a))∧w'=w0:=has_any (h.grows hg) a ha hW
theorem enters_give1:Enters 76:=enters_of Tryz.func76 (by kernel_rfl) rfl
theorem enters_within1:Enters 96:=enters_of Tryz.func96 (by kernel_rfl) rfl
attribute [local go_sem ↓] zeroNm ldNm_eq stNm_eq
attribute [local go_sem] loadNm loadNm_if storeNm storeNm_if nm_one_nd nm_size_nd over_nm span_nm
set_option maxRecDepth 100000 in
set_option maxHeartbeats 4000000 in
theorem give1_any (hs:s.length≤60000) (hN:NumOk Nm) {f a1 k rest:Fr} {x:NdV} (m b0 o0 cap i e p:Nat) (hf:f=a1.app (.cons x k rest)) (hi:a1.len=i) (q:Nat→Prop) (w:World) {bT bL bI bE:Nat}
  (hT:blk w bT=#[.pointer (some ⟨tb,0,none⟩)]) (hL:blk w bL=#[.slice (some ⟨b0,o0,none⟩) f.len cap]) (hI:blk w bI=#[.int .i64 i]) (hE:blk w bE=#[.int .i64 e])
  (hall:AllNum Nm f m) (hnf:NfAt (fun b=>b < lo) w (some ⟨b0,o0,none⟩) cap f m) (ht:TbAt s Nm tb r lo q w) (hq:∀ b,w.heap.size≤b→q b) (hp:p≤s.length) (he:e≤s.length) (hEr:bE≠r) :
  Calls Tryz.prog 76 #[.int .i64 p,.pointer (some ⟨bT,0,none⟩),.pointer (some ⟨bL,0,none⟩),.pointer (some ⟨bI,0,none⟩),.pointer (some ⟨bE,0,none⟩)] w fun e' w'=>e'=.returned (.bool (endsF s rest p e))∧TbAt s Nm tb r lo q w'∧Chg (fun x=>x=r) w w':=by
 have hW:=wds_le hs
 have dT:w.cell? ⟨bT,0,none⟩=some (.pointer (some ⟨tb,0,none⟩)):=Blk.cell hT (by simp) 0
 have dL:w.cell? ⟨bL,0,none⟩=some (.slice (some ⟨b0,o0,none⟩) f.len cap):=Blk.cell hL (by simp) 0
 have dI:w.cell? ⟨bI,0,none⟩=some (.int .i64 i):=Blk.cell hI (by simp) 0
 have dE:w.cell? ⟨bE,0,none⟩=some (.int .i64 e):=Blk.cell hE (by simp) 0
 have iE:InHeap bE w:=Blk.inHeap hE (by simp)
 have iT:InHeap bT w:=Blk.inHeap hT (by simp)
 have iL:InHeap bL w:=Blk.inHeap hL (by simp)
 have iI:InHeap bI w:=Blk.inHeap hI (by simp)
 have hlen:f.len=i+1+rest.len:=by rw [hf,Fr.len_app,hi];simp [Fr.len];omega
 have hcap:f.len≤cap∧cap≤9223372036854775807:=by
  obtain ⟨xs,h1,_⟩:=hnf
  exact ⟨h1.le,h1.cap63⟩
 have H:=Lib.hid ht
 have HQ:=Lib.hid hq
 have HE:=Lib.hid hE
 obtain ⟨FL,hFL⟩:∃ z,f.len=z:=⟨_,rfl⟩
 rw [hFL] at hlen hcap dL
 obtain ⟨j,hj⟩:∃ z,i+1=z:=⟨_,rfl⟩
 have hjl:j≤FL:=by omega
 have hwr:IntKind.i64.wrap ((i:Int)+1)=(j:Int):=by rw [wrap_small (by omega) (by omega)];omega
 have hfj:FL - j=rest.len:=by omega
 obtain ⟨A3,hA3⟩:∃ z,(if cap=j then (some ⟨b0,o0,none⟩:Option Addr) else some ⟨b0,o0+j*264,none⟩)=z:=⟨_,rfl⟩
 have hdrop:NfAt (fun b=>b < lo) w A3 (cap - j) rest (m+a1.size+1+k.size):=by
  have e2:f=(a1.app (Fr.one x k)).app rest:=by rw [hf,Fr.app_assoc];rfl
  rw [e2] at hnf
  have hl2:(a1.app (Fr.one x k)).len=j:=by rw [Fr.len_app,hi];exact hj
  have:=hnf.drop A3 (fun hr=>by rw [hl2,← hA3,if_neg (by omega)]) (by rw [← hA3];split <;> simp)
  rw [hl2] at this
  rw [show m+a1.size+1+k.size=m+(a1.app (Fr.one x k)).size by rw [Fr.size_app];simp [Fr.one,Fr.size];omega]
  exact this
 have hall2:AllNum Nm rest (m+a1.size+1+k.size):=by
  rw [hf,AllNum.app] at hall
  exact hall.2.2.2
 have HD:=Lib.hid hdrop
 have HA2:=Lib.hid hall2
 have HJ:=Lib.hid (And.intro hj hlen)
 clear ht hq hT hL hI hE hcap hj hlen hdrop hall2 hnf hall hf hi hFL
 go_enter Tryz.func76,Tryz.ntmps76
 go_upto_region 1 with fail
 go_region_law (first
  | (go_simp;(with_reducible refine Calls.mono (row_drew (mrow_ok hs hN rest) _ A3 (cap - j) p HA2.out HD.out H.out HQ.out hp (by repeat' first | exact Grows.refl _ | refine Grows.drewN ?_ _ | refine Grows.drew ?_)) ?_);rintro e' w2 ⟨b2,rfl,hB2,hbl2,hT2,hC2⟩;have dE2:w2.cell? ⟨bE,0,none⟩=some (.int .i64 e):=Blk.cell ((chg_blk hC2 iE hEr).trans HE.out) (by simp) 0;have B2:=Lib.hid hB2;have T2:=Lib.hid hT2;have C2:=Lib.hid hC2;clear hB2 hT2 hC2;dsimp only)
  | (go_simp;(with_reducible refine Calls.mono (mhas_drew B2.out e (wds_lt he) hW (by repeat' first | exact Grows.refl _ | refine Grows.drewN ?_ _ | refine Grows.drew ?_)) ?_);rintro e' w3 ⟨rfl,hw3⟩;subst hw3;dsimp only))
 all_goals
  go_wp2_with fail
  go_ret
  exact ⟨rfl,T2.out.grows (by repeat' first | exact Grows.refl _ | refine Grows.drewN ?_ _ | refine Grows.drew ?_),C2.out.trans (Chg.of_grows (by repeat' first | exact Grows.refl _ | refine Grows.drewN ?_ _ | refine Grows.drew ?_))⟩
set_option maxRecDepth 100000 in
set_option maxHeartbeats 4000000 in
theorem within1_any (hs:s.length≤60000) (hN:NumOk Nm) {x:NdV} {k:Fr} (d e p:Nat) (id:Nat) (K:Option Addr) (kn kc:Nat) (A:Option Addr) (cap:Nat) (q:Nat→Prop) (w:World) {bT bX bD bE:Nat}
  (hT:blk w bT=#[.pointer (some ⟨tb,0,none⟩)]) (hX:blk w bX=nmC x (.slice K kn kc) id (.slice A k.len cap)) (hD:blk w bD=#[.int .i64 d]) (hE:blk w bE=#[.int .i64 e])
  (hid:Nm id x k) (hall:AllNum Nm k (id+1)) (hnf:NfAt (fun b=>b < lo) w A cap k (id+1)) (ht:TbAt s Nm tb r lo q w) (hq:∀ b,w.heap.size≤b→q b) (hp:p≤s.length) (he:e≤s.length) (hd:d≤90000) (hEr:bE≠r) :
  Calls Tryz.prog 96 #[.int .i64 p,.pointer (some ⟨bT,0,none⟩),.pointer (some ⟨bX,0,none⟩),.pointer (some ⟨bD,0,none⟩),.pointer (some ⟨bE,0,none⟩)] w fun e' w'=>e'=.returned (.bool (turnsS s.length x (endsF s k) p (d+1) e))∧TbAt s Nm tb r lo q w'∧Chg (fun x=>x=r) w w':=by
 have hW:=wds_le hs
 have hturn:TurnsC s Nm tb r lo x k p (d+1):=mturns_ok hs hN (hN.ok id x k hid).1 (mrow_ok hs hN k) p (d+1) hp (by omega)
 have dT:w.cell? ⟨bT,0,none⟩=some (.pointer (some ⟨tb,0,none⟩)):=Blk.cell hT (by simp) 0
 have dD:w.cell? ⟨bD,0,none⟩=some (.int .i64 d):=Blk.cell hD (by simp) 0
 have dE:w.cell? ⟨bE,0,none⟩=some (.int .i64 e):=Blk.cell hE (by simp) 0
 have iE:InHeap bE w:=Blk.inHeap hE (by simp)
 have iT:InHeap bT w:=Blk.inHeap hT (by simp)
 have iX:InHeap bX w:=Blk.inHeap hX (by rw [nmC_size];decide)
 have iD:InHeap bD w:=Blk.inHeap hD (by simp)
 have hwr:IntKind.i64.wrap ((d:Int)+1)=(d:Int)+1:=wrap_small (by omega) (by omega)
 have H:=Lib.hid ht
 have HQ:=Lib.hid hq
 have HE:=Lib.hid hE
 have HID:=Lib.hid hid
 have HALL:=Lib.hid hall
 have HNF:=Lib.hid hnf
 have HTU:=Lib.hid hturn
 clear ht hq hT hD hE hid hall hnf hturn
 go_enter Tryz.func96,Tryz.ntmps96
 go_upto_region 1 with fail
 go_region_law (first
  | (go_simp;(with_reducible refine Calls.mono (turn_next HTU.out id K kn kc A cap HID.out HALL.out HNF.out H.out HQ.out (by repeat' first | exact Grows.refl _ | refine Grows.drewN ?_ _ | refine Grows.drew ?_)) ?_);rintro e' w2 ⟨b2,rfl,hB2,hqb2,hbr2,hbt2,hT2,hC2⟩;have dE2:w2.cell? ⟨bE,0,none⟩=some (.int .i64 e):=Blk.cell ((chg_blk hC2 iE hEr).trans HE.out) (by simp) 0;have B2:=Lib.hid hB2;have T2:=Lib.hid hT2;have C2:=Lib.hid hC2;clear hB2 hT2 hC2 hqb2;dsimp only)
  | (go_simp;(with_reducible refine Calls.mono (mhas_drew B2.out e (wds_lt he) hW (by repeat' first | exact Grows.refl _ | refine Grows.drewN ?_ _ | refine Grows.drew ?_)) ?_);rintro e' w3 ⟨rfl,hw3⟩;subst hw3;dsimp only))
 all_goals
  go_wp2_with fail
  go_ret
  exact ⟨rfl,T2.out.grows (by repeat' first | exact Grows.refl _ | refine Grows.drewN ?_ _ | refine Grows.drew ?_),C2.out.trans (Chg.of_grows (by repeat' first | exact Grows.refl _ | refine Grows.drewN ?_ _ | refine Grows.drew ?_))⟩
end
end Go.Proofs.YtnjagecmhdagkaaGreatDoor
namespace Go.Proofs.YtnjagecmhdagkaaGreatDoor
open Go.RowKit
section
variable (s:List UInt8) (fuel:Int) (sb rb ob:Nat)
def MutB:Nat→Prop:=fun b=>b=sb∨b=rb∨b=ob
def SrAt (σ:Sg) (w:World):Prop:=∃ (A:Option Addr) (n c:Nat),blk w sb=srC s fuel σ.spent (.slice A n c) (.slice none 0 0)∧(match σ.best with
 | none=>A=none∧n=0∧c=0∧blk w rb=spC spZero∧blk w ob=#[.bool false]
 | some (g,ws)=>n=ws.len∧WyAt (fun b=>¬ MutB sb rb ob b) w A c ws∧blk w rb=spC g∧g.length=20∧blk w ob=#[.bool true])
def ContC (W0:World) (v:Value) (K:Nat→Spn→Wy→Sg→Sg) (lb:Nat):Prop:=∃ (f:FuncId) (caps:Array Value),v=.func (.func f) #[] caps∧Enters f ∧
 ∀ (a:Nat) (g:Spn) (ws:Wy) (A:Option Addr) (c:Nat) (σ:Sg) (w:World),Chg (MutB sb rb ob) W0 w→lb≤a→a≤s.length→SpIn s.length g→WyAt (fun b=>¬ MutB sb rb ob b) w A c ws→ws.len≤90000→SrAt s fuel sb rb ob σ w→overB fuel σ=false →
  Calls Tryz.prog f (#[.int .i64 a,spV g,.slice A ws.len c]++caps) w fun e w'=>e=.returned (.tuple #[])∧SrAt s fuel sb rb ob (K a g ws σ) w'∧Chg (MutB sb rb ob) w w'
def SRowC (lo:Nat) (f:Fr):Prop:=∀ (m:Nat) (A:Option Addr) (cap a:Nat) (g:Spn) (ws:Wy) (WA:Option Addr) (wc:Nat) (v:Value) (K:Nat→Spn→Wy→Sg→Sg) (σ:Sg) (w:World),AllNd f→NfAt (fun b=>b < lo) w A cap f m→a≤s.length→SpIn s.length g→WyAt (fun b=>¬ MutB sb rb ob b) w WA wc ws→ws.len+f.size≤90000→ContC s fuel sb rb ob w v K a→SrAt s fuel sb rb ob σ w →
 Calls Tryz.prog 40 #[.pointer (some ⟨sb,0,none⟩),.slice A f.len cap,.int .i64 a,spV g,.slice WA ws.len wc,v] w fun e w'=>e=.returned (.tuple #[])∧SrAt s fuel sb rb ob (runE K fuel (evR s f a g ws) σ) w'∧Chg (MutB sb rb ob) w w'
def STurnC (lo:Nat) (x:NdV) (k:Fr) (F a d:Nat):Prop:=∀ (id:Nat) (KA:Option Addr) (kn kc:Nat) (A:Option Addr) (cap:Nat) (g:Spn) (ws:Wy) (WA:Option Addr) (wc:Nat) (v:Value) (K:Nat→Spn→Wy→Sg→Sg) (σ:Sg) (w:World),AllNd k→NdOk x→NfAt (fun b=>b < lo) w A cap k (id+1)→a≤s.length→SpIn s.length g→WyAt (fun b=>¬ MutB sb rb ob b) w WA wc ws→ws.len≤d→d+F≤80000→k.size≤90000→ContC s fuel sb rb ob w v K a→SrAt s fuel sb rb ob σ w→overB fuel σ=false →
 Calls Tryz.prog 67 #[.pointer (some ⟨sb,0,none⟩),.agg (nmC x (.slice KA kn kc) id (.slice A k.len cap)),.int .i64 d,.int .i64 a,spV g,.slice WA ws.len wc,v] w fun e w'=>e=.returned (.tuple #[])∧SrAt s fuel sb rb ob (runE K fuel (evT x (fun a g=>evR s k a g .nil) (unsetV k) F d a g ws) σ) w'∧Chg (MutB sb rb ob) w w'
end
section
variable {s:List UInt8} {fuel:Int} {sb rb ob lo:Nat} {σ:Sg} {w w':World}
theorem SrAt.sbblk (h:SrAt s fuel sb rb ob σ w):∃ b,blk w sb=srC s fuel σ.spent b (.slice none 0 0):=by
 obtain ⟨A,n,c,h1,_⟩:=h
 exact ⟨_,h1⟩
theorem SrAt.lts (h:SrAt s fuel sb rb ob σ w):sb < w.heap.size∧rb < w.heap.size∧ob < w.heap.size:=by
 obtain ⟨A,n,c,h1,h2⟩:=h
 refine ⟨Blk.inHeap h1 (by simp [srC]),?_⟩
 split at h2
 ·obtain ⟨-,-,-,h3,h4⟩:=h2
  exact ⟨Blk.inHeap h3 (by rw [spC_size];decide),Blk.inHeap h4 (by simp)⟩
 ·obtain ⟨-,-,h3,h5,h4⟩:=h2
  exact ⟨Blk.inHeap h3 (by rw [spC_size,h5];decide),Blk.inHeap h4 (by simp)⟩
theorem SrAt.grows (h:SrAt s fuel sb rb ob σ w) (hg:Grows w w'):SrAt s fuel sb rb ob σ w':=by
 have hl:=h.lts
 have hc:Chg (fun _=>False) w w':=Chg.of_grows hg
 obtain ⟨A,n,c,h1,h2⟩:=h
 refine ⟨A,n,c,(chg_blk hc hl.1 fun h=>h).trans h1,?_⟩
 cases hb:σ.best with
 | none =>
  rw [hb] at h2
  obtain ⟨g1,g2,g3,g4,g5⟩:=h2
  exact ⟨g1,g2,g3,(chg_blk hc hl.2.1 fun h=>h).trans g4,(chg_blk hc hl.2.2 fun h=>h).trans g5⟩
 | some y =>
  rw [hb] at h2
  obtain ⟨g1,g2,g3,g4,g5⟩:=h2
  exact ⟨g1,g2.grows hg,(chg_blk hc hl.2.1 fun h=>h).trans g3,g4,(chg_blk hc hl.2.2 fun h=>h).trans g5⟩
theorem ContC.mono {W0:World} {v:Value} {K:Nat→Spn→Wy→Sg→Sg} {lb lb2:Nat} (h:ContC s fuel sb rb ob W0 v K lb) (hc:Chg (MutB sb rb ob) W0 w) (hl:lb≤lb2):ContC s fuel sb rb ob w v K lb2:=by
 obtain ⟨f,caps,h1,h2,h3⟩:=h
 exact ⟨f,caps,h1,h2,fun a g ws A c σ w2 g1 g2 g3 g4 g5 g6 g7 g8=>h3 a g ws A c σ w2 (hc.trans g1) (by omega) g3 g4 g5 g6 g7 g8⟩
theorem srow_drew {f:Fr} (h:SRowC s fuel sb rb ob lo f) (m:Nat) (A:Option Addr) (cap a:Nat) (g:Spn) (ws:Wy) (WA:Option Addr) (wc:Nat) (v:Value) (K:Nat→Spn→Wy→Sg→Sg) (σ:Sg) {w w0:World} (h1:AllNd f) (h2:NfAt (fun b=>b < lo) w A cap f m) (h3:a≤s.length) (h4:SpIn s.length g) (h5:WyAt (fun b=>¬ MutB sb rb ob b) w WA wc ws) (h6:ws.len+f.size≤90000) (h7:ContC s fuel sb rb ob w v K a) (h8:SrAt s fuel sb rb ob σ w) (hg:Grows w w0) :
  Calls Tryz.prog 40 #[.pointer (some ⟨sb,0,none⟩),.slice A f.len cap,.int .i64 a,spV g,.slice WA ws.len wc,v] w0 fun e w'=>e=.returned (.tuple #[])∧SrAt s fuel sb rb ob (runE K fuel (evR s f a g ws) σ) w'∧Chg (MutB sb rb ob) w w' :=
 (h m A cap a g ws WA wc v K σ w0 h1 (h2.chg (Chg.of_grows (p:=fun _=>False) hg) fun _ _ _ h=>h) h3 h4 (h5.grows hg) h6 (h7.mono (Chg.of_grows hg) (Nat.le_refl _)) (h8.grows hg)).mono fun e w' ⟨k1,k2,k3⟩=>⟨k1,k2,(Chg.of_grows hg).trans k3⟩
theorem and_drew {ok:Nat→Prop} (A:Option Addr) (cap:Nat) (ws:Wy) (l:Nat) (kA:Option Addr) (kc:Nat) (kids:Wy) {w w0:World} (h:WyAt ok w A cap ws) (hk:WyAt ok w kA kc kids) (hf:∀ b,w.heap.size≤b→ok b) (hlen:ws.len≤100000) (hl:l≤100000) (hg:Grows w w0) :
  Calls Tryz.prog 66 #[.slice A ws.len cap,.agg #[.int .i64 l,.slice kA kids.len kc]] w0 fun e w'=>∃ A' cap',e=.returned (.slice A' (ws.snoc l kids).len cap')∧WyAt ok w' A' cap' (ws.snoc l kids)∧Grows w w' :=
 (and_any A cap ws l kA kc kids w0 (h.grows hg) (hk.grows hg) (fun b hb=>hf b (Nat.le_trans hg.below.size hb)) hlen hl).mono fun e w' ⟨A',c',k1,k2,k3⟩=>⟨A',c',k1,k2,hg.trans k3⟩
theorem cellG {w w':World} {b i:Nat} {v:Value} (h:w.cell? ⟨b,i,none⟩=some v) (hg:Grows w w'):w'.cell? ⟨b,i,none⟩=some v:=by
 have ib:InHeap b w:=World.block_lt_of_cell? _ _ h
 obtain ⟨m,rfl⟩:=hg
 rw [cell_more _ _ _ ib]
 exact h
theorem blkG {w w':World} {b:Nat} {c:Array Value} (h:blk w b=c) (hz:0 < c.size) (hg:Grows w w'):blk w' b=c:=(chg_blk (Chg.of_grows (p:=fun _=>False) hg) (Blk.inHeap h hz) fun h=>h).trans h
theorem cellC {p:Nat→Prop} {w w':World} {b i:Nat} {v:Value} (h:w.cell? ⟨b,i,none⟩=some v) (hc:Chg p w w') (hp:¬ p b):w'.cell? ⟨b,i,none⟩=some v:=(hc.cell (a:=⟨b,i,none⟩) (World.block_lt_of_cell? _ _ h) hp).trans h
theorem chgDrew {p:Nat→Prop} {w w':World} (h:Chg p w w'):Chg p w w'.drew:=h.trans (Chg.of_grows ((Grows.refl _).drew))
theorem chgDrewN {p:Nat→Prop} {w w':World} (h:Chg p w w') (n:Nat):Chg p w (w'.drewN n):=h.trans (Chg.of_grows ((Grows.refl _).drewN n))
theorem enters_srow1:Enters 65:=enters_of Tryz.func65 (by kernel_rfl) rfl
theorem enters_srow2:Enters 68:=enters_of Tryz.func68 (by kernel_rfl) rfl
theorem enters_sturns1:Enters 93:=enters_of Tryz.func93 (by kernel_rfl) rfl
attribute [local go_sem ↓] zeroNm ldNm_eq stNm_eq ldSp_eq stSp_eq
attribute [local go_sem] loadNm loadNm_if storeNm storeNm_if nm_one_nd nm_size_nd over_nm span_nm loadSp loadSp_if storeSp storeSp_if spC_one
set_option maxRecDepth 100000 in
set_option maxHeartbeats 8000000 in
theorem srow2_any {r:Fr} (hrow:SRowC s fuel sb rb ob lo r) (m:Nat) (RA:Option Addr) (rc a0:Nat) (ws0:Wy) (WA:Option Addr) (wc:Nat) (v:Value) (K:Nat→Spn→Wy→Sg→Sg) (W1:World) {bM bR bW bA bO:Nat}
  (hM:blk W1 bM=#[.pointer (some ⟨sb,0,none⟩)]) (hR:blk W1 bR=#[.slice RA r.len rc]) (hW:blk W1 bW=#[.slice WA ws0.len wc]) (hA:blk W1 bA=#[.int .i64 a0]) (hO:blk W1 bO=#[v])
  (hne:(¬ MutB sb rb ob bM∧¬ MutB sb rb ob bR∧¬ MutB sb rb ob bW)∧¬ MutB sb rb ob bA∧¬ MutB sb rb ob bO) (hlo:lo≤sb∧lo≤rb∧lo≤ob) (hmx:sb < W1.heap.size∧rb < W1.heap.size∧ob < W1.heap.size)
  (hnd:AllNd r) (hnf:NfAt (fun b=>b < lo) W1 RA rc r m) (hws:WyAt (fun b=>¬ MutB sb rb ob b) W1 WA wc ws0) (hlen:ws0.len+1+r.size≤90000) (hK:ContC s fuel sb rb ob W1 v K a0) (hs:s.length≤60000) :
  ContC s fuel sb rb ob W1 (.func (.func 68) #[] #[.pointer (some ⟨bM,0,none⟩),.pointer (some ⟨bR,0,none⟩),.pointer (some ⟨bW,0,none⟩),.pointer (some ⟨bA,0,none⟩),.pointer (some ⟨bO,0,none⟩)]) (fun e g i σ=>runE K fuel (evR s r e g (ws0.snoc (e - a0) i)) σ) a0:=by
 refine ⟨_,_,rfl,enters_srow2,fun a g ws A c σ w hc hla han hg hwy hwl hsr hov=>?_⟩
 have iM:bM < W1.heap.size:=Blk.inHeap hM (by simp)
 have iR:bR < W1.heap.size:=Blk.inHeap hR (by simp)
 have iW:bW < W1.heap.size:=Blk.inHeap hW (by simp)
 have iA:bA < W1.heap.size:=Blk.inHeap hA (by simp)
 have iO:bO < W1.heap.size:=Blk.inHeap hO (by simp)
 have d1:w.cell? ⟨bM,0,none⟩=some (.pointer (some ⟨sb,0,none⟩)):=Blk.cell ((chg_blk hc iM hne.1.1).trans hM) (by simp) 0
 have d2:w.cell? ⟨bR,0,none⟩=some (.slice RA r.len rc):=Blk.cell ((chg_blk hc iR hne.1.2.1).trans hR) (by simp) 0
 have d3:w.cell? ⟨bW,0,none⟩=some (.slice WA ws0.len wc):=Blk.cell ((chg_blk hc iW hne.1.2.2).trans hW) (by simp) 0
 have d4:w.cell? ⟨bA,0,none⟩=some (.int .i64 a0):=Blk.cell ((chg_blk hc iA hne.2.1).trans hA) (by simp) 0
 have d5:w.cell? ⟨bO,0,none⟩=some v:=Blk.cell ((chg_blk hc iO hne.2.2).trans hO) (by simp) 0
 have hsz:=hc.size
 have j1:InHeap bM w:=Nat.lt_of_lt_of_le iM hsz
 have j2:InHeap bR w:=Nat.lt_of_lt_of_le iR hsz
 have j3:InHeap bW w:=Nat.lt_of_lt_of_le iW hsz
 have j4:InHeap bA w:=Nat.lt_of_lt_of_le iA hsz
 have j5:InHeap bO w:=Nat.lt_of_lt_of_le iO hsz
 have hnfw:NfAt (fun b=>b < lo) w RA rc r m:=hnf.chg hc fun b _ hb e=>by unfold MutB at e;omega
 have hww:WyAt (fun b=>¬ MutB sb rb ob b) w WA wc ws0:=hws.chg hc fun _ _ h=>h
 have hKw:=hK.mono hc hla
 have hfr:∀ b,w.heap.size≤b→¬ MutB sb rb ob b:=fun b hb e=>by unfold MutB at e;omega
 have hsub:(a:Int) - a0=((a - a0:Nat):Int):=by omega
 obtain ⟨D,hD⟩:∃ D,a - a0=D:=⟨_,rfl⟩
 rw [hD] at hsub
 obtain ⟨f,caps,hv,_,_⟩:=hK
 dsimp only
 rw [hD]
 have hgl:=hg.len
 have hspz:(spC g).size=20:=by rw [spC_size];exact hgl
 have HNF:=Lib.hid hnfw
 have HWW:=Lib.hid hww
 have HWY:=Lib.hid hwy
 have HKW:=Lib.hid hKw
 have HFR:=Lib.hid hfr
 have HSR:=Lib.hid hsr
 have HG:=Lib.hid hg
 have HND:=Lib.hid hnd
 have HLEN:=Lib.hid hlen
 have hD6:D≤60000:=by omega
 have ha6:a≤60000:=by omega
 have ha06:a0≤60000:=by omega
 have NE:=Lib.hid hne
 clear hM hR hW hA hO hne iM iR iW iA iO hnfw hww hwy hKw hfr hsr hg hnd hlen hD hgl hnf hws hov hwl hmx hlo
 subst hv
 go_enter Tryz.func68,Tryz.ntmps68
 go_upto_region 1 with fail
 have hgA:Grows w (w.alloc (Obj.cells (spC g) 35)):=(Grows.refl _).alloc _
 have hbG:blk (w.alloc (Obj.cells (spC g) 35)) w.heap.size=spC g:=blk_alloc_at _ _ _ _ rfl
 have hzA:(w.alloc (Obj.cells (spC g) 35)).heap.size=w.heap.size+1:=by simp
 obtain ⟨bG,hbGe⟩:∃ z,z=w.heap.size:=⟨_,rfl⟩
 have hnG:¬ MutB sb rb ob bG:=by rw [hbGe];exact HFR.out _ (Nat.le_refl _)
 rw [← hbGe] at hbG ⊢
 generalize w.alloc (Obj.cells (spC g) 35)=w1 at *
 have y1:=cellG d1 hgA
 have y2:=cellG d2 hgA
 have y3:=cellG d3 hgA
 have y4:=cellG d4 hgA
 have y5:=cellG d5 hgA
 have iG:InHeap bG w1:=Blk.inHeap hbG (by omega)
 have hsp:span (spC g) 0 20=spC g:=span_all hspz
 have hwD:IntKind.i64.wrap (D:Int)=(D:Int):=wrap_small (by omega) (by omega)
 have HNF1:Hid (NfAt (fun b=>b < lo) w1 RA rc r m):=Lib.hid (HNF.out.chg (Chg.of_grows (p:=fun _=>False) hgA) fun _ _ _ h=>h)
 have HWW1:=Lib.hid (HWW.out.grows hgA)
 have HWY1:=Lib.hid (HWY.out.grows hgA)
 have HKW1:=Lib.hid (HKW.out.mono (Chg.of_grows hgA) (Nat.le_refl _))
 have HFR1:Hid (∀ b,w1.heap.size≤b→¬ MutB sb rb ob b):=Lib.hid fun b hb=>HFR.out b (by omega)
 have HSR1:=Lib.hid (HSR.out.grows hgA)
 have HGA:=Lib.hid hgA
 have z1:InHeap bM w1:=by unfold InHeap at *;omega
 have z2:InHeap bR w1:=by unfold InHeap at *;omega
 have z3:InHeap bW w1:=by unfold InHeap at *;omega
 have z4:InHeap bA w1:=by unfold InHeap at *;omega
 have z5:InHeap bO w1:=by unfold InHeap at *;omega
 clear d1 d2 d3 d4 d5 j1 j2 j3 j4 j5 hgA hzA hbGe HNF HWW HWY HKW HFR HSR hsz
 have HSA:Hid (∀ w',Chg (MutB sb rb ob) w1 w'→(w'.cell? ⟨bM,0,none⟩=some (.pointer (some ⟨sb,0,none⟩))∧w'.cell? ⟨bR,0,none⟩=some (.slice RA r.len rc)∧w'.cell? ⟨bW,0,none⟩=some (.slice WA ws0.len wc)∧w'.cell? ⟨bA,0,none⟩=some (.int .i64 a0)∧w'.cell? ⟨bO,0,none⟩=some (.func (.func f) #[] caps)∧w'.rangeAt bG 0 (spC g).toList)):=Lib.hid fun w' hg=>⟨cellC y1 hg NE.out.1.1,cellC y2 hg NE.out.1.2.1,cellC y3 hg NE.out.1.2.2,cellC y4 hg NE.out.2.1,cellC y5 hg NE.out.2.2,fun j v hj=>by
  rw [Nat.zero_add,Blk.cell ((chg_blk hg iG hnG).trans hbG) (by omega),← Array.getElem?_toList];exact hj⟩
 have hu23:=Tryz.underlying35
 have hi23:(Tryz.prog.info? 35).map (·.size)=some (spC g).toList.length:=by rw [Array.length_toList,hspz];kernel_rfl
 clear y1 y2 y3 y4 y5 hbG hsp
 go_region_held3 (fun w'=>w'.cell? ⟨bM,0,none⟩=some (.pointer (some ⟨sb,0,none⟩))∧w'.cell? ⟨bR,0,none⟩=some (.slice RA r.len rc)∧w'.cell? ⟨bW,0,none⟩=some (.slice WA ws0.len wc)∧w'.cell? ⟨bA,0,none⟩=some (.int .i64 a0)∧w'.cell? ⟨bO,0,none⟩=some (.func (.func f) #[] caps)∧w'.rangeAt bG 0 (spC g).toList)
  (exact HSA.out _ (by repeat' first | exact Chg.refl _ _ | exact (Chg.of_grows G2.out).trans C3.out | exact Chg.of_grows G2.out | refine chgDrewN ?_ _ | refine chgDrew ?_))
  (first
   | (go_at_call 66;(refine Calls.mono (and_drew WA wc ws0 D A c ws HWW1.out HWY1.out HFR1.out (by have:=HLEN.out;omega) (by omega) ?_) ?_);(repeat' first | exact Grows.refl _ | exact G2.out | refine Grows.drewN ?_ _ | refine Grows.drew ?_);rintro e9 w2 ⟨A2,c2,rfl,hW2,hG2⟩;have W2:=Lib.hid hW2;have G2:=Lib.hid hG2;clear hW2 hG2)
   | (go_at_call 40;(refine Calls.mono (srow_drew hrow m RA rc a g (ws0.snoc D ws) A2 c2 (.func (.func f) #[] caps) K σ HND.out (HNF1.out.chg (Chg.of_grows (p:=fun _=>False) G2.out) (fun _ _ _ h=>h)) han HG.out W2.out (by have:=HLEN.out;rw [Wy.len_snoc];omega) (HKW1.out.mono (Chg.of_grows G2.out) (Nat.le_refl _)) (HSR1.out.grows G2.out) ?_) ?_);(repeat' first | exact Grows.refl _ | exact G2.out | refine Grows.drewN ?_ _ | refine Grows.drew ?_);rintro e9 w3 ⟨rfl,hS3,hC3⟩;have S3:=Lib.hid hS3;have C3:=Lib.hid hC3;clear hS3 hC3))
 go_wp2_with fail
 exact ⟨rfl,.tuple #[],results_none rfl _ _ _,rfl,S3.out.grows (by repeat' first | exact Grows.refl _ | refine Grows.drewN ?_ _ | refine Grows.drew ?_),(Chg.of_grows HGA.out).trans ((Chg.of_grows G2.out).trans (C3.out.trans (Chg.of_grows (by repeat' first | exact Grows.refl _ | refine Grows.drewN ?_ _ | refine Grows.drew ?_))))⟩
set_option maxRecDepth 100000 in
set_option maxHeartbeats 8000000 in
theorem srow1_any {r k:Fr} {x:NdV} (KA:Option Addr) (kn kc2 id:Nat) (XA:Option Addr) (xcap:Nat) (hrow:SRowC s fuel sb rb ob lo r) (m:Nat) (RA:Option Addr) (rc a0:Nat) (ws0:Wy) (WA:Option Addr) (wc:Nat) (v:Value) (K:Nat→Spn→Wy→Sg→Sg) (W1:World) {bM bR bW bA bO bX:Nat}
  (hM:blk W1 bM=#[.pointer (some ⟨sb,0,none⟩)]) (hR:blk W1 bR=#[.slice RA r.len rc]) (hW:blk W1 bW=#[.slice WA ws0.len wc]) (hA:blk W1 bA=#[.int .i64 a0]) (hO:blk W1 bO=#[v]) (hX:blk W1 bX=nmC x (.slice KA kn kc2) id (.slice XA k.len xcap)) (hxn:x.n < 10) (hnX:¬ MutB sb rb ob bX)
  (hne:(¬ MutB sb rb ob bM∧¬ MutB sb rb ob bR∧¬ MutB sb rb ob bW)∧¬ MutB sb rb ob bA∧¬ MutB sb rb ob bO) (hlo:lo≤sb∧lo≤rb∧lo≤ob) (hmx:sb < W1.heap.size∧rb < W1.heap.size∧ob < W1.heap.size)
  (hnd:AllNd r) (hnf:NfAt (fun b=>b < lo) W1 RA rc r m) (hws:WyAt (fun b=>¬ MutB sb rb ob b) W1 WA wc ws0) (hlen:ws0.len+1+r.size≤90000) (hK:ContC s fuel sb rb ob W1 v K a0) (hs:s.length≤60000) :
  ContC s fuel sb rb ob W1 (.func (.func 65) #[] #[.pointer (some ⟨bA,0,none⟩),.pointer (some ⟨bX,0,none⟩),.pointer (some ⟨bM,0,none⟩),.pointer (some ⟨bR,0,none⟩),.pointer (some ⟨bW,0,none⟩),.pointer (some ⟨bO,0,none⟩)]) (fun e g i σ=>runE K fuel (evR s r e (spSet g x.n a0 e) (ws0.snoc (e - a0) i)) σ) a0:=by
 refine ⟨_,_,rfl,enters_srow1,fun a g ws A c σ w hc hla han hg hwy hwl hsr hov=>?_⟩
 have iM:bM < W1.heap.size:=Blk.inHeap hM (by simp)
 have iR:bR < W1.heap.size:=Blk.inHeap hR (by simp)
 have iW:bW < W1.heap.size:=Blk.inHeap hW (by simp)
 have iA:bA < W1.heap.size:=Blk.inHeap hA (by simp)
 have iO:bO < W1.heap.size:=Blk.inHeap hO (by simp)
 have d1:w.cell? ⟨bM,0,none⟩=some (.pointer (some ⟨sb,0,none⟩)):=Blk.cell ((chg_blk hc iM hne.1.1).trans hM) (by simp) 0
 have d2:w.cell? ⟨bR,0,none⟩=some (.slice RA r.len rc):=Blk.cell ((chg_blk hc iR hne.1.2.1).trans hR) (by simp) 0
 have d3:w.cell? ⟨bW,0,none⟩=some (.slice WA ws0.len wc):=Blk.cell ((chg_blk hc iW hne.1.2.2).trans hW) (by simp) 0
 have d4:w.cell? ⟨bA,0,none⟩=some (.int .i64 a0):=Blk.cell ((chg_blk hc iA hne.2.1).trans hA) (by simp) 0
 have d5:w.cell? ⟨bO,0,none⟩=some v:=Blk.cell ((chg_blk hc iO hne.2.2).trans hO) (by simp) 0
 have d258:w.cell? ⟨bX,258,none⟩=some (.int .i64 x.n):=((Blk.cell ((chg_blk hc (Blk.inHeap hX (by rw [nmC_size];decide)) hnX).trans hX) (by rw [nmC_size];decide) 258).trans (nmA_lt (ndA_size _ _ _ _ _ _ _) (by decide))).trans (ndA_258 _ _ _ _ _ _ _)
 have hxi:(x.n:Int) < 10:=by omega
 have hsz:=hc.size
 have j1:InHeap bM w:=Nat.lt_of_lt_of_le iM hsz
 have j2:InHeap bR w:=Nat.lt_of_lt_of_le iR hsz
 have j3:InHeap bW w:=Nat.lt_of_lt_of_le iW hsz
 have j4:InHeap bA w:=Nat.lt_of_lt_of_le iA hsz
 have j5:InHeap bO w:=Nat.lt_of_lt_of_le iO hsz
 have hnfw:NfAt (fun b=>b < lo) w RA rc r m:=hnf.chg hc fun b _ hb e=>by unfold MutB at e;omega
 have hww:WyAt (fun b=>¬ MutB sb rb ob b) w WA wc ws0:=hws.chg hc fun _ _ h=>h
 have hKw:=hK.mono hc hla
 have hfr:∀ b,w.heap.size≤b→¬ MutB sb rb ob b:=fun b hb e=>by unfold MutB at e;omega
 have hsub:(a:Int) - a0=((a - a0:Nat):Int):=by omega
 obtain ⟨D,hD⟩:∃ D,a - a0=D:=⟨_,rfl⟩
 rw [hD] at hsub
 obtain ⟨f,caps,hv,_,_⟩:=hK
 dsimp only
 rw [hD]
 obtain ⟨g2,hg2e⟩:∃ z,spSet g x.n a0 a=z:=⟨_,rfl⟩
 rw [hg2e]
 have HG2E:=Lib.hid hg2e
 clear hg2e
 have hgl:=hg.len
 have HNF:=Lib.hid hnfw
 have HWW:=Lib.hid hww
 have HWY:=Lib.hid hwy
 have HKW:=Lib.hid hKw
 have HFR:=Lib.hid hfr
 have HSR:=Lib.hid hsr
 have HG:=Lib.hid hg
 have HND:=Lib.hid hnd
 have HLEN:=Lib.hid hlen
 have hD6:D≤60000:=by omega
 have ha6:a≤60000:=by omega
 have ha06:a0≤60000:=by omega
 have NE:=Lib.hid hne
 clear hX hnX hM hR hW hA hO hne iM iR iW iA iO hnfw hww hwy hKw hfr hsr hg hnd hlen hD hgl hnf hws hov hwl hmx hlo
 subst hv
 go_enter Tryz.func65,Tryz.ntmps65
 go_upto_region 1 with fail
 have hgB:Grows w (w.alloc (Obj.cells (spC g) 35)):=(Grows.refl _).alloc _
 have hSB:SpAt (w.alloc (Obj.cells (spC g) 35)) w.heap.size g:=⟨blk_alloc_at _ _ _ _ rfl,HG.out.len⟩
 obtain ⟨bG,hbGe⟩:∃ z,z=w.heap.size:=⟨_,rfl⟩
 have hnG:¬ MutB sb rb ob bG:=by rw [hbGe];exact HFR.out _ (Nat.le_refl _)
 rw [← hbGe] at hSB ⊢
 generalize w.alloc (Obj.cells (spC g) 35)=wB at *
 have q1:=cellG d258 hgB
 have q2:=cellG d4 hgB
 have q3:=hSB.cell (k:=x.n*2) (by omega)
 have q4:=hSB.cell (k:=x.n*2+1) (by omega)
 have q5:=hSB.free
 have q6:InHeap bG wB:=hSB.inh
 have q7:InHeap bX wB:=World.block_lt_of_cell? _ _ q1
 have q8:InHeap bA wB:=World.block_lt_of_cell? _ _ q2
 have hS1:=hSB.put x.n a0 a
 have hg':SpIn s.length (spSet g x.n a0 a):=HG.out.set hxn (by omega) (by omega) (by omega)
 have hgA:Grows w ((wB.setCell ⟨bG,x.n*2,none⟩ (.int .i64 a0)).setCell ⟨bG,x.n*2+1,none⟩ (.int .i64 a)):=Chg.grows (n:=0) hgB (sp_chg wB bG x.n (.int .i64 a0) (.int .i64 a)) fun b hb=>by omega
 generalize g.getD (x.n*2) 0=u0 at q3
 generalize g.getD (x.n*2+1) 0=u1 at q4
 have HG2:=Lib.hid hg'
 clear hgB hSB HG hg' hbGe
 go_upto_region 2 with fail
 clear q1 q2 q3 q4 q5 q6 q7 q8 d258 hxi
 generalize (wB.setCell ⟨bG,x.n*2,none⟩ (.int .i64 a0)).setCell ⟨bG,x.n*2+1,none⟩ (.int .i64 a)=w1 at *
 rw [HG2E.out] at hS1 HG2
 have hbG:=hS1.eq
 have hspz:(spC g2).size=20:=by rw [spC_size];exact hS1.len
 have HG:=HG2
 have hzA:w.heap.size≤w1.heap.size:=hgA.below.size
 clear hS1 HG2
 have y1:=cellG d1 hgA
 have y2:=cellG d2 hgA
 have y3:=cellG d3 hgA
 have y4:=cellG d4 hgA
 have y5:=cellG d5 hgA
 have iG:InHeap bG w1:=Blk.inHeap hbG (by omega)
 have hsp:span (spC g2) 0 20=spC g2:=span_all hspz
 have hwD:IntKind.i64.wrap (D:Int)=(D:Int):=wrap_small (by omega) (by omega)
 have HNF1:Hid (NfAt (fun b=>b < lo) w1 RA rc r m):=Lib.hid (HNF.out.chg (Chg.of_grows (p:=fun _=>False) hgA) fun _ _ _ h=>h)
 have HWW1:=Lib.hid (HWW.out.grows hgA)
 have HWY1:=Lib.hid (HWY.out.grows hgA)
 have HKW1:=Lib.hid (HKW.out.mono (Chg.of_grows hgA) (Nat.le_refl _))
 have HFR1:Hid (∀ b,w1.heap.size≤b→¬ MutB sb rb ob b):=Lib.hid fun b hb=>HFR.out b (by omega)
 have HSR1:=Lib.hid (HSR.out.grows hgA)
 have HGA:=Lib.hid hgA
 have z1:InHeap bM w1:=by unfold InHeap at *;omega
 have z2:InHeap bR w1:=by unfold InHeap at *;omega
 have z3:InHeap bW w1:=by unfold InHeap at *;omega
 have z4:InHeap bA w1:=by unfold InHeap at *;omega
 have z5:InHeap bO w1:=by unfold InHeap at *;omega
 clear d1 d2 d3 d4 d5 j1 j2 j3 j4 j5 hgA hzA HNF HWW HWY HKW HFR HSR hsz
 have HSA:Hid (∀ w',Chg (MutB sb rb ob) w1 w'→(w'.cell? ⟨bM,0,none⟩=some (.pointer (some ⟨sb,0,none⟩))∧w'.cell? ⟨bR,0,none⟩=some (.slice RA r.len rc)∧w'.cell? ⟨bW,0,none⟩=some (.slice WA ws0.len wc)∧w'.cell? ⟨bA,0,none⟩=some (.int .i64 a0)∧w'.cell? ⟨bO,0,none⟩=some (.func (.func f) #[] caps)∧w'.rangeAt bG 0 (spC g2).toList)):=Lib.hid fun w' hg=>⟨cellC y1 hg NE.out.1.1,cellC y2 hg NE.out.1.2.1,cellC y3 hg NE.out.1.2.2,cellC y4 hg NE.out.2.1,cellC y5 hg NE.out.2.2,fun j v hj=>by
  rw [Nat.zero_add,Blk.cell ((chg_blk hg iG hnG).trans hbG) (by omega),← Array.getElem?_toList];exact hj⟩
 have hu23:=Tryz.underlying35
 have hi23:(Tryz.prog.info? 35).map (·.size)=some (spC g2).toList.length:=by rw [Array.length_toList,hspz];kernel_rfl
 clear y1 y2 y3 y4 y5 hbG hsp
 go_region_held3 (fun w'=>w'.cell? ⟨bM,0,none⟩=some (.pointer (some ⟨sb,0,none⟩))∧w'.cell? ⟨bR,0,none⟩=some (.slice RA r.len rc)∧w'.cell? ⟨bW,0,none⟩=some (.slice WA ws0.len wc)∧w'.cell? ⟨bA,0,none⟩=some (.int .i64 a0)∧w'.cell? ⟨bO,0,none⟩=some (.func (.func f) #[] caps)∧w'.rangeAt bG 0 (spC g2).toList)
  (exact HSA.out _ (by repeat' first | exact Chg.refl _ _ | exact (Chg.of_grows G2.out).trans C3.out | exact Chg.of_grows G2.out | refine chgDrewN ?_ _ | refine chgDrew ?_))
  (first
   | (go_at_call 66;(refine Calls.mono (and_drew WA wc ws0 D A c ws HWW1.out HWY1.out HFR1.out (by have:=HLEN.out;omega) (by omega) ?_) ?_);(repeat' first | exact Grows.refl _ | exact G2.out | refine Grows.drewN ?_ _ | refine Grows.drew ?_);rintro e9 w2 ⟨A2,c2,rfl,hW2,hG2⟩;have W2:=Lib.hid hW2;have G2:=Lib.hid hG2;clear hW2 hG2)
   | (go_at_call 40;(refine Calls.mono (srow_drew hrow m RA rc a g2 (ws0.snoc D ws) A2 c2 (.func (.func f) #[] caps) K σ HND.out (HNF1.out.chg (Chg.of_grows (p:=fun _=>False) G2.out) (fun _ _ _ h=>h)) han HG.out W2.out (by have:=HLEN.out;rw [Wy.len_snoc];omega) (HKW1.out.mono (Chg.of_grows G2.out) (Nat.le_refl _)) (HSR1.out.grows G2.out) ?_) ?_);(repeat' first | exact Grows.refl _ | exact G2.out | refine Grows.drewN ?_ _ | refine Grows.drew ?_);rintro e9 w3 ⟨rfl,hS3,hC3⟩;have S3:=Lib.hid hS3;have C3:=Lib.hid hC3;clear hS3 hC3))
 go_wp2_with fail
 exact ⟨rfl,.tuple #[],results_none rfl _ _ _,rfl,S3.out.grows (by repeat' first | exact Grows.refl _ | refine Grows.drewN ?_ _ | refine Grows.drew ?_),(Chg.of_grows HGA.out).trans ((Chg.of_grows G2.out).trans (C3.out.trans (Chg.of_grows (by repeat' first | exact Grows.refl _ | refine Grows.drewN ?_ _ | refine Grows.drew ?_))))⟩
end
end Go.Proofs.YtnjagecmhdagkaaGreatDoor
