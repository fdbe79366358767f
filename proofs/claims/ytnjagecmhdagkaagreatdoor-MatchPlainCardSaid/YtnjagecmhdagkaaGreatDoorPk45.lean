/-
 Matches, the document's table: all rows and nodes; the stretches of a row's groups (give), walked.
-/
import Derived.Test.YtnjagecmhdagkaaGreatDoorPk44
set_option linter.unusedSimpArgs false
set_option linter.unusedVariables false
set_option maxRecDepth 3000
namespace Go.Proofs.YtnjagecmhdagkaaGreatDoor
open Go.RowKit
section
variable {s:List UInt8} {f:Fr} {tb:Nat}
theorem fuelT_low {x:NdV} (hx:NdOk x) (a d:Nat):fuelT s.length x a d≤s.length+1001:=by
 have h1:=hx.mn
 have h2:=hx.mx
 unfold fuelT
 split <;> omega
theorem drow_all (hs:s.length≤900) (hf:f.size≤1000):∀ (N:Nat) (l:Fr),l.size≤N→l.size≤1000→AllNd l→DrowC s f tb l:=by
 intro N
 induction N with
 | zero =>
  intro l hN _ hnd
  exact drow_any hs hf l (by omega) fun a1 x k c a e=>by rw [e,Fr.size_app] at hN;simp only [Fr.size] at hN;omega
 | succ N ih =>
  intro l hN h9 hnd
  refine drow_any hs hf l h9 fun a1 x k c a e ha=>?_
  have hsz:k.size+1≤l.size:=by rw [e,Fr.size_app];simp only [Fr.size];omega
  rw [e,AllNd.app] at hnd
  have hl:=fuelT_low (s:=s) hnd.2.1 a 0
  exact dnode_any hs hf hnd.2.1 (ih k (by omega) (by omega) hnd.2.2.1) _ a 0 (Nat.le_refl _) ha (by omega) (fun h=>h)
theorem dnode_all (hs:s.length≤900) (hf:f.size≤1000) {x:NdV} {k:Fr} (hx:NdOk x) (hk:AllNd k) (h9:k.size≤1000) {a d:Nat} (ha:a≤s.length) (hd:d≤5000) (hm:0≤x.mx→(d:Int)≤x.mx):DnodeC s f tb x k a d:=by
 have hl:=fuelT_low (s:=s) hx a d
 exact dnode_any hs hf hx (drow_all hs hf _ k (Nat.le_refl _) h9 hk) _ a d (Nat.le_refl _) ha (by omega) hm
end
theorem ids_drop {ok:Nat→Prop} {w:World} {b o cap m:Nat} {a c:Fr} (h:SlZ 1 ok w (some ⟨b,o,none⟩) cap (a.app c).len (idsV (a.app c) m)) (A:Option Addr) (hA:0 < c.len→A=some ⟨b,o+a.len,none⟩) (hne:A≠none):SlZ 1 ok w A (cap - a.len) c.len (idsV c (m+a.size)):=by
 have hle:=h.le
 have hlen:=h.rd.1
 rw [Fr.len_app] at hle
 refine ⟨⟨by rw [idsV_len];omega,fun hc=>?_⟩,fun e=>absurd e hne,by omega,by have:=h.cap63;omega,fun hc a2 e2=>?_⟩
 ·obtain ⟨b',o',e2,hb,hcell⟩:=h.rd.2 (by rw [Fr.len_app];omega)
  cases e2
  refine ⟨b,o+a.len,hA hc,hb,fun j u hu=>?_⟩
  rw [Nat.add_assoc]
  refine hcell (a.len+j) u ?_
  rw [idsV_app,List.getElem?_append_right (by rw [idsV_len];omega),idsV_len,Nat.add_sub_cancel_left]
  exact hu
 ·have:=hA hc
  rw [this] at e2
  cases e2
  exact h.ok (by rw [Fr.len_app];omega) ⟨b,o,none⟩ rfl
theorem longF_down {p on:Nat→Bool} {a t:Nat} (h:a < t) (hp:(p t && on t)=false):longF p on a t=longF p on a (t - 1):=by
 obtain ⟨e,rfl⟩:∃ e,t=e+1:=⟨t - 1,by omega⟩
 conv=>lhs;unfold longF
 rw [if_neg (by omega),hp]
 rfl
theorem longF_stop {p on:Nat→Bool} {a t:Nat} (h:a < t) (hp:(p t && on t)=true):longF p on a t=t:=by
 obtain ⟨e,rfl⟩:∃ e,t=e+1:=⟨t - 1,by omega⟩
 unfold longF
 rw [if_neg (by omega),hp]
 rfl
theorem longF_low {p on:Nat→Bool} {a t:Nat} (h:t=a):longF p on a t=a:=by
 subst h
 cases t with
 | zero=>rfl
 | succ t=>unfold longF;rw [if_pos (Nat.le_refl _)]
section
variable (s:List UInt8) (f:Fr) (tb:Nat)
def DgiveC (l:Fr):Prop:=∀ (ow:Nat→Nat) (w:World) (I:Option Addr) (ic m a e:Nat) (g:Spn),DtAt s f tb ow w→SlZ 1 (fun b=>ow b=1) w I ic l.len (idsV l m)→AllNum (fun i x k=>nthF f i=some (x,k)) l m→a≤e→e≤s.length→endsF s l a e=true→g.length=20 →
 Calls Tryz.prog 29 #[.pointer (some ⟨tb,0,none⟩),.slice I l.len ic,.int .i64 a,.int .i64 e,spV g] w fun e' w'=>∃ ow2,e'=.returned (spV (giveV s l a e g))∧DtAt s f tb ow2 w'∧DtNext f tb ow ow2 w w'
def DwithC (x:NdV) (k:Fr):Prop:=∀ (ow:Nat→Nat) (w:World) (i a e:Nat) (g:Spn),DtAt s f tb ow w→nthF f i=some (x,k)→AllNum (fun i x k=>nthF f i=some (x,k)) k (i+1)→a≤e→e≤s.length→nodeS s x (endsF s k) a e=true→g.length=20 →
 Calls Tryz.prog 51 #[.pointer (some ⟨tb,0,none⟩),.int .i64 i,.int .i64 a,.int .i64 e,spV g] w fun e' w'=>∃ ow2,e'=.returned (spV (withinV s x k (giveV s k) a e g))∧DtAt s f tb ow2 w'∧DtNext f tb ow ow2 w w'
end
theorem withV_len {s:List UInt8} {x:NdV} {k:Fr} {a e:Nat} {g:Spn}:(withinV s x k (giveV s k) a e g).length=g.length:=by
 have h:=give_len (s:=s) (f:=.cons x k .nil) (a:=a) (e:=e) (g:=g)
 unfold withinV
 split
 ·rw [spSet_len,give_len]
 ·split
  ·have:∀ (F a d:Nat) (g:Spn),(turnLoop s.length x (endsF s k) (giveV s k) (unsetV k) F a e d g).length=g.length:=by
    intro F
    induction F with
    | zero=>intro a d g;rfl
    | succ F ih =>
     intro a d g
     unfold turnLoop
     split
     ·rw [ih,give_len,unset_len]
     ·rfl
   exact this _ _ _ _
  ·rfl
attribute [local go_sem ↓] ldSp_eq stSp_eq zeroSp
attribute [local go_sem] loadSp storeSp storeSp_if loadSp_if spC_one
set_option maxRecDepth 100000 in
set_option maxHeartbeats 8000000 in
theorem dgive_any {s:List UInt8} {f:Fr} {tb:Nat} (hs:s.length≤900) (hf:f.size≤1000) (l:Fr) (hnd:AllNd l) (hl9:l.size≤1000) (hwith:∀ (a1:Fr) (x:NdV) (k c:Fr),l=a1.app (.cons x k c)→DwithC s f tb x k):DgiveC s f tb l:=by
 intro ow w I ic m a e g ht hI hall hae hen hends hg
 have hsz:(spC g).size=20:=by rw [spC_size];exact hg
 have hz0:(spC spZero).size=20:=by rw [spC_size];rfl
 have hll:l.len≤1000:=by have:=l.len_size;omega
 obtain ⟨R,hR⟩:∃ z,giveV s l a e g=z:=⟨_,rfl⟩
 rw [hR]
 have HR:=Lib.hid hR
 have HT:=Lib.hid ht
 have HI:=Lib.hid hI
 have HALL:=Lib.hid hall
 have HND:=Lib.hid hnd
 have HW:=Lib.hid hwith
 have HE:=Lib.hid hends
 clear hR ht hI hall hnd hwith hends
 go_enter Tryz.func29,Tryz.ntmps29
 go_upto_region 1 with fail
 have HT0:=Lib.hid (TwoAt.start w (spC g) (spC spZero) 35 35)
 generalize (w.alloc (Obj.cells (spC g) 35)).alloc (Obj.cells (spC spZero) 35)=w1 at *
 have hz1:=HT0.out.size
 obtain ⟨bS,hbS⟩:∃ z,z=w.heap.size:=⟨_,rfl⟩
 obtain ⟨bR,hbR⟩:∃ z,z=w.heap.size+1:=⟨_,rfl⟩
 rw [← hbR,← hbS]
 have hnew:∀ b,w.heap.size≤b→ow b=0:=fun b hb=>by
  rcases Nat.eq_zero_or_pos (ow b) with h | h
  ·exact h
  ·have:=HT.out.old b (by omega)
   omega
 have HB1:Hid (blk w1 bS=spC g∧blk w1 bR=spC spZero∧ow bS=0∧ow bR=0):=Lib.hid ⟨by rw [hbS];exact HT0.out.fst,by rw [hbR];exact HT0.out.snd,hnew _ (by omega),hnew _ (by omega)⟩
 have HNE:Hid (bS≠bR∧w.heap.size≤bS∧w.heap.size≤bR):=Lib.hid (by omega)
 have HT1:=Lib.hid (HT.out.grows HT0.out.grows)
 have HN1:=Lib.hid (DtNext.of_grows f tb ow HT0.out.grows)
 clear HT0 hz1 hbS hbR hnew
 go_wp2_with fail
 go_loopg [2,11,12,13] l.len (fun q v2 v11 _ _ wr=>∃ (i a2:Nat) (a1 c1:Fr) (g2:Spn) (ow2:Nat→Nat),q+i=l.len∧v2=.int .i64 a2∧v11=.int .i64 i∧l=a1.app c1∧a1.len=i∧a2≤e∧endsF s c1 a2 e=true∧g2.length=20∧giveV s c1 a2 e g2=R∧blk wr bS=spC g2∧blk wr bR=spC spZero∧ow2 bS=0∧ow2 bR=0∧DtAt s f tb ow2 wr∧DtNext f tb ow ow2 w wr)
 case atStart=>exact ⟨0,a,.nil,l,g,ow,by omega,rfl,rfl,rfl,rfl,hae,HE.out,hg,HR.out,HB1.out.1,HB1.out.2.1,HB1.out.2.2.1,HB1.out.2.2.2,HT1.out,HN1.out⟩
 case round =>
  obtain ⟨i,a2,a1,c1,g2,ow2,hq,rfl,rfl,hl1,hi1,hae2,hen2,hg2,hR2,hS,hRr,hoS,hoR,ht2,hn2⟩:=hrel
  have hsz2:(spC g2).size=20:=by rw [spC_size];exact hg2
  cases c1 with
  | nil =>
   have hil:i=l.len:=by rw [hl1,Fr.app_nil];exact hi1.symm
   subst hil
   obtain rfl:g2=R:=hR2
   have hld:=loadSp_all wr bS (spC g2) hS hsz2
   have hst:=storeSp_all wr bR (spC g2) hRr hz0 hsz2 (spC_one _)
   have HF:Hid (_∧_∧_∧_):=Lib.hid ⟨hRr,hoR,ht2,hn2⟩
   clear hq hl1 hi1 hen2 hS hRr hoS hoR ht2 hn2
   go_wp2_with fail
   have hc:Chg (fun b=>b=bR) wr (setBlk wr bR (spC g2)):=chg_setBlkM (K:=fun b=>b=bR) rfl
   exact bodyPost_ret (results_sp 10 rfl rfl (Blk.get _ HF.out.1 (by omega)) hsz2) rfl ⟨ow2,rfl,HF.out.2.2.1.chg hc fun b e=>by rw [e];exact HF.out.2.1,HF.out.2.2.2.own HF.out.2.2.1 hc (fun b e=>by rw [e];exact HNE.out.2.2) fun b e=>by rw [e];exact HF.out.2.1⟩
  | cons x k c1 =>
   have hil:i < l.len:=by rw [hl1,Fr.len_app,hi1];simp only [Fr.len];omega
   have hii:(i:Int) < (l.len:Int):=by omega
   have hxk:NdOk x∧AllNd k∧AllNd c1:=by have h:=HND.out;rw [hl1,AllNd.app] at h;exact h.2
   have hksz:k.size≤1000∧c1.size≤1000:=by rw [hl1,Fr.size_app] at hl9;simp only [Fr.size] at hl9;omega
   have hall:nthF f (m+a1.size)=some (x,k)∧AllNum (fun i x k=>nthF f i=some (x,k)) k (m+a1.size+1)∧AllNum (fun i x k=>nthF f i=some (x,k)) c1 (m+a1.size+1+k.size):=by
    have h:=HALL.out
    rw [hl1,AllNum.app] at h
    exact h.2
   have hgs:=give_spec hae2 hen hen2
   have hgv:giveV s (.cons x k c1) a2 e g2=giveV s c1 (longF (nodeS s x (endsF s k) a2) (fun q=>endsF s c1 q e) a2 e) e (withinV s x k (giveV s k) a2 (longF (nodeS s x (endsF s k) a2) (fun q=>endsF s c1 q e) a2 e) g2):=by rw [giveV]
   rw [hgv] at hR2
   obtain ⟨T,hT⟩:∃ z,longF (nodeS s x (endsF s k) a2) (fun q=>endsF s c1 q e) a2 e=z:=⟨_,rfl⟩
   rw [hT] at hgs hR2
   have hIr:=HI.out.next hn2.cl
   rw [hl1] at hIr
   obtain ⟨bi,oi,hIe,hci,hoi,hbi⟩:=ids_cell hIr
   subst hIe
   rw [hi1] at hci
   obtain ⟨id,hid⟩:∃ z,m+a1.size=z:=⟨_,rfl⟩
   rw [hid] at hci hall
   have hm9:id≤1000:=by have:=nthF_lt hall.1;omega
   have hrow:DrowC s f tb c1:=drow_all hs hf _ c1 (Nat.le_refl _) hksz.2 hxk.2.2
   have hnode:DnodeC s f tb x k a2 0:=dnode_all hs hf hxk.1 hxk.2.1 hksz.1 (by omega) (by omega) (fun h=>h)
   have hcap:l.len≤ic∧ic≤9223372036854775807:=⟨HI.out.le,HI.out.cap63⟩
   obtain ⟨RA,hRA⟩:∃ z,(if ic=i+1 then (some ⟨bi,oi,none⟩:Option Addr) else some ⟨bi,oi+(i+1),none⟩)=z:=⟨_,rfl⟩
   have HDROP:Hid (∀ w' ow',DtNext f tb ow ow' w w'→SlZ 1 (fun b=>ow' b=1) w' RA (ic - (i+1)) c1.len (idsV c1 (id+1+k.size))):=Lib.hid fun w' ow' h=>by
    have h2:=HI.out.next h.cl
    rw [hl1,show a1.app (.cons x k c1)=(a1.app (Fr.one x k)).app c1 by rw [Fr.app_assoc];rfl] at h2
    have hle:(a1.app (Fr.one x k)).len=i+1:=by rw [Fr.len_app,hi1];rfl
    have h3:=ids_drop h2 RA (fun hc=>by
     have h4:=h2.le
     rw [Fr.len_app,hle] at h4
     rw [← hRA,if_neg (by omega),hle]) (by rw [← hRA];split <;> simp)
    rw [hle,Fr.size_app] at h3
    rw [show id+1+k.size=m+(a1.size+(Fr.one x k).size) by simp only [Fr.one,Fr.size];omega]
    exact h3
   have HCI:Hid (∀ w' ow',DtNext f tb ow ow' w w'→w'.cell? ⟨bi,oi+i,none⟩=some (.int .i64 (id:Nat))):=Lib.hid fun w' ow' h=>by
    have h2:=HI.out
    rw [hl1] at h2
    obtain ⟨b',o',e1,h3,h4,h5⟩:=ids_cell h2
    cases e1
    rw [hi1,hid] at h3
    exact cellC h3 h.cl.chg (by omega)
   have HF:=Lib.hid (And.intro hl1 hi1)
   have HRA:=Lib.hid hRA
   have HLT:=Lib.hid hT
   have HGS:=Lib.hid hgs
   have HR2:=Lib.hid hR2
   have HALL2:=Lib.hid hall
   have HROW:=Lib.hid hrow
   have HXK:=Lib.hid hxk
   have HQ:=Lib.hid hq
   have HS2:Hid (_∧_∧_∧_):=Lib.hid ⟨hS,hRr,hoS,hoR⟩
   have HT2:=Lib.hid ht2
   have HN2:=Lib.hid hn2
   have hcall:=hnode ow2 wr id ht2 hall.1 hall.2.1
   rw [Int.natCast_zero,nodeT_zero] at hcall
   have ibi:InHeap bi wr:=hbi
   obtain ⟨gi,hgi⟩:∃ z,z=gk:=⟨_,rfl⟩
   subst hgi
   clear hl1 hi1 hRA hT hgs hR2 hall hrow hxk hq hS hRr hoS hoR ht2 hn2 hIr hoi hbi hnode hgv hen2 hid
   go_wp2_with fail
   (with_reducible refine hcall.mono ?_)
   rintro e9 w3 ⟨ow3,bF,rfl,hF,ho3,hf3,ht3,hn3⟩
   have hbS3:=hn3.blk HS2.out.1 (by omega) (by rw [HS2.out.2.2.1];exact Nat.zero_le _)
   have hbR3:=hn3.blk HS2.out.2.1 (by omega) (by rw [HS2.out.2.2.2];exact Nat.zero_le _)
   have HS3:Hid (_∧_∧_∧_∧_∧_∧_∧_):=Lib.hid ⟨hbS3,hbR3,(hn3.cl.same bS (Blk.inHeap HS2.out.1 (by omega))).trans HS2.out.2.2.1,(hn3.cl.same bR (Blk.inHeap HS2.out.2.1 (by omega))).trans HS2.out.2.2.2,hF,ho3,ht3,HN2.out.trans hn3⟩
   obtain ⟨P,hP⟩:∃ z,nodeS s x (endsF s k) a2=z:=⟨_,rfl⟩
   have HP:=Lib.hid hP
   clear hcall hbS3 hbR3 hF ho3 hf3 ht3 hn3 hci ibi hP
   go_upto_block 2 with fail
   go_cut [13] (fun v13 wx=>∃ ow4,v13=.int .i64 (T:Nat)∧blk wx bS=spC g2∧blk wx bR=spC spZero∧ow4 bS=0∧ow4 bR=0∧DtAt s f tb ow4 wx∧DtNext f tb ow ow4 w wx)
   case first =>
    go_wp2_with fail
    go_loopg [13] (e - a2) (fun q v13 wr=>∃ (t:Nat) (ow4:Nat→Nat),q+a2=t∧t≤e∧v13=.int .i64 t∧longF P (fun q=>endsF s c1 q e) a2 t=T∧blk wr bS=spC g2∧blk wr bR=spC spZero∧ow4 bS=0∧ow4 bR=0∧blk wr bF=BA (s.length+1) P∧ow4 bF≤1∧DtAt s f tb ow4 wr∧DtNext f tb ow ow4 w wr)
    case atStart =>
     obtain ⟨s1,s2,s3,s4,s5,s6,s7,s8⟩:=HS3.out
     exact ⟨e,ow3,by omega,Nat.le_refl _,rfl,by rw [← HP.out];exact HLT.out,s1,s2,s3,s4,by rw [← HP.out];exact s5,s6,s7,s8⟩
    case round =>
     obtain ⟨t,ow4,hq,hte,rfl,hlt,s1,s2,s3,s4,s5,s6,s7,s8⟩:=hrel
     have HQ2:=Lib.hid hq
     have HLT2:=Lib.hid hlt
     have iF:=Blk.inHeap s5 (ba_pos _ _)
     have HS4:Hid (_∧_∧_∧_∧_∧_∧_∧_):=Lib.hid ⟨s1,s2,s3,s4,s5,s6,s7,s8⟩
     by_cases hta:a2 < t
     ·have htb:decide (a2 < t)=true:=decide_eq_true hta
      have hti:(a2:Int) < (t:Int):=by omega
      have ht2:(t:Int) < (s.length:Int)+1:=by omega
      have ht3:((t - 1:Nat):Int)=(t:Int) - 1:=by omega
      have HT3:=Lib.hid ht3
      have cF:=(Blk.cell s5 (ba_pos _ _) t).trans (BA_get (by omega))
      obtain ⟨pv,hpv⟩:∃ z,P t=z:=⟨_,rfl⟩
      rw [hpv] at cF
      have HPV:=Lib.hid hpv
      obtain ⟨wy,hwy⟩:∃ z,z=wr:=⟨_,rfl⟩
      subst hwy
      clear hq hlt s1 s2 s3 s4 s5 s6 s7 s8 hpv ht3
      cases pv with
      | false =>
       go_wp2_with fail
       go_roundg (gk - 1)
       case measure=>have:=HQ2.out;omega
       case rel =>
        obtain ⟨s1,s2,s3,s4,s5,s6,s7,s8⟩:=HS4.out
        exact ⟨t - 1,ow4,by have:=HQ2.out;omega,by omega,by rw [HT3.out],by rw [← longF_down hta (by rw [HPV.out];rfl)];exact HLT2.out,s1,s2,s3,s4,s5,s6,s7,s8⟩
      | true =>
       have hrows:=HROW.out ow4 wy RA (ic - (i+1)) (id+1+k.size) t HS4.out.2.2.2.2.2.2.1 (HDROP.out _ _ HS4.out.2.2.2.2.2.2.2) HALL2.out.2.2 (by omega)
       have hra:=HRA.out
       have hl5:l.len - (i+1)=c1.len:=by rw [HF.out.1,Fr.len_app,HF.out.2];simp only [Fr.len];omega
       have hi5:(i:Int)+1≤(l.len:Int):=by omega
       have hi6:(i:Int)+1≤(ic:Int):=by omega
       have hi7:i+1≤l.len:=by omega
       have hei:(e:Int) < (s.length:Int)+1:=by omega
       rw [← hl5] at hrows
       clear hl5
       go_wp2_with fail
       (with_reducible refine hrows.mono ?_)
       rintro e9 w5 ⟨ow5,bV,rfl,hV,ho5,hf5,ht5,hn5⟩
       obtain ⟨s1,s2,s3,s4,s5,s6,s7,s8⟩:=HS4.out
       have b1:=hn5.blk s1 (by omega) (by rw [s3];exact Nat.zero_le _)
       have b2:=hn5.blk s2 (by omega) (by rw [s4];exact Nat.zero_le _)
       have b5:=hn5.blk s5 (ba_pos _ _) s6
       have HS5:Hid (_∧_∧_∧_∧_∧_∧_∧_):=Lib.hid ⟨b1,b2,(hn5.cl.same bS (Blk.inHeap s1 (by omega))).trans s3,(hn5.cl.same bR (Blk.inHeap s2 (by omega))).trans s4,b5,(show ow5 bF≤1 by rw [hn5.cl.same bF (Blk.inHeap s5 (ba_pos _ _))];exact s6),ht5,s8.trans hn5⟩
       have cV:=(Blk.cell hV (ba_pos _ _) e).trans (BA_get (by omega))
       have iV:=Blk.inHeap hV (ba_pos _ _)
       obtain ⟨vv,hvv⟩:∃ z,endsF s c1 t e=z:=⟨_,rfl⟩
       rw [hvv] at cV
       have HVV:=Lib.hid hvv
       clear hrows hV ho5 hf5 ht5 hn5 s1 s2 s3 s4 s5 s6 s7 s8 b1 b2 b5 hvv cF iF
       cases vv with
       | false =>
        go_wp2_with fail
        go_roundg (gk - 1)
        case measure=>have:=HQ2.out;omega
        case rel =>
         obtain ⟨s1,s2,s3,s4,s5,s6,s7,s8⟩:=HS5.out
         exact ⟨t - 1,ow5,by have:=HQ2.out;omega,by omega,by rw [HT3.out],by rw [← longF_down hta (by rw [HPV.out,HVV.out];rfl)];exact HLT2.out,s1,s2,s3,s4,s5,s6,s7,s8⟩
       | true =>
        go_wp2_with fail
        go_meet
        obtain ⟨s1,s2,s3,s4,s5,s6,s7,s8⟩:=HS5.out
        exact ⟨ow5,by rw [← HLT2.out,longF_stop hta (by rw [HPV.out,HVV.out];rfl)],s1,s2,s3,s4,s7,s8⟩
     ·have htb:decide (a2 < t)=false:=decide_eq_false hta
      have hti:¬ (a2:Int) < (t:Int):=by omega
      clear hq hlt s1 s2 s3 s4 s5 s6 s7 s8
      go_wp2_with fail
      go_meet
      obtain ⟨s1,s2,s3,s4,s5,s6,s7,s8⟩:=HS4.out
      exact ⟨ow4,by rw [← HLT2.out,longF_low (by have:=HQ2.out;omega),show t=a2 by have:=HQ2.out;omega],s1,s2,s3,s4,s7,s8⟩
   case rest =>
    obtain ⟨ow4,rfl,s1,s2,s3,s4,s5,s6⟩:=hcut
    have HCW:Hid (∀ w',Grows wc w'→Calls Tryz.prog 51 #[.pointer (some ⟨tb,0,none⟩),.int .i64 (id:Nat),.int .i64 (a2:Nat),.int .i64 (T:Nat),spV g2] w' fun e' w''=>∃ ow5,e'=.returned (spV (withinV s x k (giveV s k) a2 T g2))∧DtAt s f tb ow5 w''∧DtNext f tb ow ow5 w w''∧blk w'' bS=spC g2∧blk w'' bR=spC spZero∧ow5 bS=0∧ow5 bR=0):=Lib.hid fun w' hg=>by
     refine (HW.out a1 x k c1 HF.out.1 ow4 w' id a2 T g2 (s5.grows hg) HALL2.out.1 HALL2.out.2.1 HGS.out.2.2.1 (Nat.le_trans HGS.out.2.2.2 hen) HGS.out.1 hg2).mono ?_
     rintro e9 w5 ⟨ow5,r1,r2,r3⟩
     have b1:=blkG s1 (by omega) hg
     have b2:=blkG s2 (by omega) hg
     exact ⟨ow5,r1,r2,(s6.trans (DtNext.of_grows f tb ow4 hg)).trans r3,r3.blk b1 (by omega) (by rw [s3];exact Nat.zero_le _),r3.blk b2 (by omega) (by rw [s4];exact Nat.zero_le _),(r3.cl.same bS (Blk.inHeap b1 (by omega))).trans s3,(r3.cl.same bR (Blk.inHeap b2 (by omega))).trans s4⟩
    have hci:=HCI.out _ _ s6
    have ibi:InHeap bi wc:=World.block_lt_of_cell? _ _ hci
    obtain ⟨G,hG⟩:∃ z,withinV s x k (giveV s k) a2 T g2=z:=⟨_,rfl⟩
    have hGl:G.length=20:=by rw [← hG,withV_len];exact hg2
    have hszG:(spC G).size=20:=by rw [spC_size];exact hGl
    have hCW:=HCW.out
    rw [hG] at hCW
    have HCW2:=Lib.hid hCW
    have HR3:=HR2.out
    rw [hG] at HR3
    have HR4:=Lib.hid HR3
    have hov:over (spC g2) 0 (spC G)=spC G:=over_all (by omega)
    have hsp2:span (spC g2) 0 20=spC g2:=span_all hsz2
    clear HCW hCW hG HR3 s3 s4 s5 s6 s2
    go_upto_region 8 with fail
    go_cut [] (fun wz=>∃ ow5,blk wz bS=spC G∧blk wz bR=spC spZero∧ow5 bS=0∧ow5 bR=0∧DtAt s f tb ow5 wz∧DtNext f tb ow ow5 w wz)
    case first =>
     go_region_law (go_simp;(refine Calls.mono (HCW2.out _ ?_) ?_);(repeat' first | exact Grows.refl _ | refine Grows.drewN ?_ _ | refine Grows.drew ?_);rintro e9 w5 ⟨ow5,rfl,r1,r2,r3,r4,r5,r6⟩;have HS5:Hid (_∧_∧_∧_∧_):=Lib.hid ⟨r1,r2,r4,r5,r6⟩;clear r1 r2 r4 r5 r6;dsimp only)
     all_goals (
      go_wp2_with fail
      go_meet
      obtain ⟨r1,r2,r4,r5,r6⟩:=HS5.out
      have hc5:Chg (fun b=>b=bS) w5 (setBlk w5 bS (spC G)):=chg_setBlkM (K:=fun b=>b=bS) rfl
      have hq5:∀ b,b=bS→ow5 b=0:=fun b e=>by rw [e];exact r5
      exact ⟨ow5,Blk.get _ r3 (by omega),(chg_blk hc5 (Blk.inHeap r4 (by omega)) fun e=>HNE.out.1 e.symm).trans r4,r5,r6,r1.chg hc5 hq5,r2.own r1 hc5 (fun b e=>by rw [e];exact HNE.out.2.1) hq5⟩)
    case rest =>
     obtain ⟨ow5,r1,r2,r3,r4,r5,r6⟩:=hcut
     have HS6:Hid (_∧_∧_∧_∧_∧_):=Lib.hid ⟨r1,r2,r3,r4,r5,r6⟩
     clear r1 r2 r3 r4 r5 r6 s1 hci ibi
     go_wp2_with fail
     go_roundg (gi - 1)
     case measure=>have:=HQ.out;omega
     case rel =>
      obtain ⟨r1,r2,r3,r4,r5,r6⟩:=HS6.out
      exact ⟨i+1,T,a1.app (Fr.one x k),c1,G,ow5,by have:=HQ.out;omega,rfl,by go_num,by rw [Fr.app_assoc];exact HF.out.1,by rw [Fr.len_app,HF.out.2];rfl,HGS.out.2.2.2,HGS.out.2.1,hGl,HR4.out,r1,r2,r3,r4,r5,r6⟩
end Go.Proofs.YtnjagecmhdagkaaGreatDoor
