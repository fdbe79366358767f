/-
 Patterns: the document's reader: repetitions.
-/
import Derived.Test.YtnjagecmhdagkaaGreatDoorPk17
set_option linter.unusedSimpArgs false
set_option linter.unusedVariables false
set_option maxRecDepth 3000
namespace Go.Proofs.YtnjagecmhdagkaaGreatDoor
open Go.RowKit
structure TR (g:Nat) (p:Nat→Prop) (W:World) (pb rb:Nat) (A:Option Addr) (cap:Nat) (x:Nk) (w:World):Prop where
 pg:∀ b,p b→b≠g
 pn:∀ b,W.heap.size≤b→p b
 chg:Chg (fun b=>b=g) W w
 box:blk w pb=ndC x.1 (.slice A x.2.len cap)
 res:blk w rb=ndA 0 0 noSet 0 0 0 (.slice none 0 0)
 kids:FrAt (fun b=>p b∧b≠pb∧b≠rb) w A cap x.2
section
variable {g pb rb:Nat} {p:Nat→Prop} {W w w' w2:World} {A:Option Addr} {cap:Nat} {x:Nk}
theorem TR.pin (h:TR g p W pb rb A cap x w):InHeap pb w:=Blk.inHeap h.box (by simp [ndA_size])
theorem TR.rin (h:TR g p W pb rb A cap x w):InHeap rb w:=Blk.inHeap h.res (by simp [ndA_size])
theorem TR.step (h:TR g p W pb rb A cap x w) (hp:pb≠g) (hr:rb≠g) (hC:Chg (fun b=>b=g) w w'):TR g p W pb rb A cap x w' :=
 ⟨h.pg,h.pn,h.chg.trans hC,(chg_blk hC h.pin hp).trans h.box,(chg_blk hC h.rin hr).trans h.res,h.kids.chg hC fun b _ k=>h.pg b k.1⟩
theorem TR.wrap {c:Array Value} (h:TR g p W pb rb A cap x w) (hg:InHeap g w) (hC:Chg (fun b=>b=g) (w.alloc (.cells (ndC x.1 (.slice A x.2.len cap)) 91)) w2) (hp:pb≠g) (hr:rb≠g) (hpr:pb≠rb) (hW:W.heap.size≤pb) (y:NdV) (hc:c=ndC y (.slice (some ⟨w.heap.size,0,none⟩) 1 1)) :
  TR g p W pb rb (some ⟨w.heap.size,0,none⟩) 1 (y,Fr.one x.1 x.2) (setBlk w2 pb c):=by
 subst hc
 have hgr:Grows w (w.alloc (.cells (ndC x.1 (.slice A x.2.len cap)) 91)):=(Grows.refl _).alloc _
 have hb1:blk (w.alloc (.cells (ndC x.1 (.slice A x.2.len cap)) 91)) w.heap.size=ndC x.1 (.slice A x.2.len cap):=blk_alloc_at _ _ _ _ rfl
 have hpi:=h.pin
 have hri:=h.rin
 unfold InHeap at hpi hri hg
 have k1:=(chg_blk hC (by simp) (by omega)).trans hb1
 have p1:blk w2 pb=ndC x.1 (.slice A x.2.len cap):=(chg_blk hC (by simp;omega) hp).trans ((blk_alloc_past _ _ _ h.pin).trans h.box)
 have r1:blk w2 rb=ndA 0 0 noSet 0 0 0 (.slice none 0 0):=(chg_blk hC (by simp;omega) hr).trans ((blk_alloc_past _ _ _ h.rin).trans h.res)
 have hcs:Chg (fun b=>b=pb) w2 (setBlk w2 pb (ndC y (.slice (some ⟨w.heap.size,0,none⟩) 1 1))):=chg_row
 have hf:=((h.kids.grows hgr).chg hC fun b _ k=>h.pg b k.1).chg hcs fun b _ h=>h.2.1
 refine ⟨h.pg,h.pn,chg_late ((h.chg.trans (Chg.of_grows hgr)).trans hC) hcs fun b hb e=>by omega,Blk.get _ p1 (by simp [ndA_size]),(chg_blk hcs (Blk.inHeap r1 (by simp [ndA_size])) (fun e=>hpr e.symm)).trans r1,fr_one ?_ hf ⟨h.pn _ (by omega),by omega,by omega⟩⟩
 exact (chg_blk hcs (Blk.inHeap k1 (by simp [ndA_size])) (by omega)).trans k1
end
theorem node_lit {w:World} {g at_:Nat} {s:List UInt8} {r:RdS} {bad:Bool} (h:StAt w g s at_ r bad) (hl:s.length≤1000) (k:Nat) (kI:Int) (hkI:kI=(k:Int)) (hk:1≤k) (hkl:k≤r.left.length) (kind byte:Int) (q:Nat→Bool) (n mn mx:Int) (a:Option Addr) (m c:Nat) :
  Calls Tryz.prog 62 #[.pointer (some ⟨g,0,none⟩),.agg (ndA kind byte q n mn mx (.slice a m c)),.int .i64 kI] w fun e w'=>e=.returned (.agg (ndA kind byte q n mn mx (.slice a m c)))∧StAt w' g s (at_+k) (r.node k) bad∧Chg (fun b=>b=g) w w':=by
 subst hkI
 exact node_at h hl k hk hkl kind byte q n mn mx a m c
theorem bounds_eqR {l r rr:List UInt8} {m:Nat} {b:Bool} {n:Int} (h1:digitsR l=(m,b,r)) (h2:mostR m r=(n,rr)):boundsR l=if b=true∧ahead [92,125] rr=true∧m≤255∧n≤255∧(n < 0∨(m:Int)≤n) then some (m,n,rr) else none:=by
 unfold boundsR
 simp only [h1,h2]
def TimesR (p:Nat→Prop) (w:World) (g:Nat) (s:List UInt8) (r:Option (Nk × RdS)) (e:Ending) (w':World):Prop :=
 match r with
 | none=>(∃ x A l c,e=.returned (.agg (ndC x (.slice A l c))))∧Bad w' g s∧Chg (fun b=>b=g) w w'
 | some y=>∃ A cap,e=.returned (.agg (ndC y.1.1 (.slice A y.1.2.len cap)))∧FrAt p w' A cap y.1.2∧(∃ at2,StAt w' g s at2 y.2 false)∧Chg (fun b=>b=g) w w'
attribute [local go_sem ↓] zeroNodeR bldNdR_eq ldNodeR_eq stNodeR_eq bldSlR_eq
attribute [local go_sem] bldR_star bldR_times loadNodeR loadNodeR_if storeNodeR storeNodeR_if ndA_one_slice bldSlR_run
set_option maxHeartbeats 4000000 in
theorem rtimes_any {w:World} {g at_:Nat} {s:List UInt8} {r:RdS} (h:StAt w g s at_ r false) (hl:s.length≤1000) (x:Nk) (A:Option Addr) (cap:Nat) {p:Nat→Prop} (hpg0:∀ b,p b→b≠g) (hpn:∀ b,w.heap.size≤b→p b) (hx:FrAt p w A cap x.2) :
  Calls Tryz.prog 38 #[.pointer (some ⟨g,0,none⟩),.agg (ndC x.1 (.slice A x.2.len cap))] w (TimesR p w g s (timesR (r.left.length+1) x r)):=by
 have hgl:g < w.heap.size:=h.inh
 obtain ⟨pb,hpb⟩:∃ n,n=w.heap.size:=⟨_,rfl⟩
 obtain ⟨rb,hrb⟩:∃ n,n=w.heap.size+1:=⟨_,rfl⟩
 obtain ⟨R,hR⟩:∃ R,timesR (r.left.length+1) x r=R:=⟨_,rfl⟩
 have hpg:pb≠g:=by omega
 have hrg:rb≠g:=by omega
 have hpr:pb≠rb:=by omega
 have hWp:w.heap.size≤pb:=by omega
 have hWr:w.heap.size≤rb:=by omega
 have T0:Hid (TR g p w pb rb A cap x ((w.alloc (.cells (ndC x.1 (.slice A x.2.len cap)) 91)).alloc (.cells (ndA 0 0 noSet 0 0 0 (.slice none 0 0)) 91))):=Lib.hid
  ⟨hpg0,hpn,Chg.of_grows (((Grows.refl _).alloc _).alloc _),by rw [blk_alloc_past _ _ _ (by unfold InHeap;simp;omega)];exact blk_alloc_at _ _ _ _ hpb,blk_alloc_at _ _ _ _ (by simp [hrb]),
   (hx.mono fun b hb ho=>⟨ho,by omega,by omega⟩).grows (((Grows.refl _).alloc _).alloc _)⟩
 have S0:Hid (StAt ((w.alloc (.cells (ndC x.1 (.slice A x.2.len cap)) 91)).alloc (.cells (ndA 0 0 noSet 0 0 0 (.slice none 0 0)) 91)) g s at_ r false):=Lib.hid (h.grows (((Grows.refl _).alloc _).alloc _))
 have HR:=Lib.hid hR
 have HPB:=Lib.hid hpb
 have HRB:=Lib.hid hrb
 rw [hR]
 clear h hx hR
 go_enter Tryz.func38,Tryz.ntmps38
 go_wp2_with fail
 rw [← hpb,show pb+1=rb by omega]
 clear hpb hrb
 generalize ((w.alloc (.cells (ndC x.1 (.slice A x.2.len cap)) 91)).alloc (.cells (ndA 0 0 noSet 0 0 0 (.slice none 0 0)) 91))=w1 at *
 go_loopg [5,6,7,8,9] (r.left.length+1) (fun q _ _ _ _ _ wr=>(∃ (y:Nk) (t:RdS) (B:Option Addr) (cb at2 n:Nat),q=t.left.length+1∧timesR n y t=R∧t.left.length < n∧StAt wr g s at2 t false∧TR g p w pb rb B cb y wr)∨(∃ (y:Nk) (t:RdS) (B:Option Addr) (cb at2:Nat),q=0∧R=none∧StAt wr g s at2 t true∧TR g p w pb rb B cb y wr))
 case atStart=>exact .inl ⟨x,r,A,cap,at_,r.left.length+1,rfl,HR.out,by omega,S0.out,T0.out⟩
 case round =>
  obtain ⟨wx,hwx⟩:∃ z,z=wr:=⟨_,rfl⟩
  subst hwx
  clear T0 S0 HR
  rcases hrel with ⟨y,t,B,cb,at2,n,hq,hT,hn,hS,hB⟩ | ⟨y,t,B,cb,at2,hq,hT,hS,hB⟩
  ·have HQ:=Lib.hid hq
   have HB:=Lib.hid hB
   have HS:=Lib.hid hS
   have HN:=Lib.hid hn
   obtain ⟨-,-,-,-,-,c5⟩:=hS.rd.cells
   have ig:=hS.inh
   obtain ⟨n,rfl⟩:∃ k,n=k+1:=⟨n - 1,by omega⟩
   rw [timesR] at hT
   have HT:=Lib.hid hT
   clear hq hB hS hT hn
   cases hst:ahead [42] t.left with
   | true =>
    rw [hst] at HT
    have hlen:=ahead_len hst
    simp only [List.length_cons,List.length_nil] at hlen
    go_wp2_with fail
    (with_reducible refine (is_at HS.out hl [42] (by decide) ⟨#[42]⟩ rfl true hst).mono ?_)
    rintro e w2 ⟨rfl,k2⟩
    have B2:=Lib.hid (HB.out.step hpg hrg (Chg.of_grows k2))
    have S2:=Lib.hid (HS.out.grows k2)
    clear k2 HB HS hst c5 ig
    have hb2:=B2.out.box
    have ip2:=B2.out.pin
    go_wp2_with fail
    (with_reducible refine (node_lit (S2.out.grows ((Grows.refl _).alloc _)) hl 1 1 rfl (Nat.le_refl 1) hlen 8 0 noSet 0 0 (-1) (some ⟨w2.heap.size,0,none⟩) 1 1).mono ?_)
    rintro e w9 ⟨rfl,hS9,hC⟩
    have B9:=B2.out.wrap S2.out.inh hC hpg hrg hpr hWp (timesN 0 (-1)) (c:=ndA 8 0 noSet 0 0 (-1) (.slice (some ⟨w2.heap.size,0,none⟩) 1 1)) rfl
    have p9:blk w9 pb=ndC y.1 (.slice B y.2.len cb):=(chg_blk hC (by have:=B2.out.pin;unfold InHeap at this;simp;omega) hpg).trans ((blk_alloc_past _ _ _ B2.out.pin).trans B2.out.box)
    have i9:InHeap pb w9:=Blk.inHeap p9 (by simp [ndA_size])
    have H9:=Lib.hid B9
    have S9:=Lib.hid (hS9.chg (w':=setBlk w9 pb (ndA 8 0 noSet 0 0 (-1) (.slice (some ⟨w2.heap.size,0,none⟩) 1 1))) (q:=fun b=>b=pb) chg_row (fun e=>hpg e.symm))
    clear hS9 hC B9 B2 S2 hb2 ip2
    go_wp2_with fail
    go_roundg ((t.left.drop 1).length+1)
    case measure=>have:=HQ.out;simp;omega
    case rel=>exact .inl ⟨(timesN 0 (-1),Fr.one y.1 y.2),t.node 1,some ⟨w2.heap.size,0,none⟩,1,at2+1,n,rfl,HT.out,by have:=HN.out;simp [RdS.node];omega,S9.out,H9.out⟩
   | false =>
    rw [hst] at HT
    go_wp2_with fail
    (with_reducible refine (is_at HS.out hl [42] (by decide) ⟨#[42]⟩ rfl false hst).mono ?_)
    rintro e w2 ⟨rfl,k2⟩
    have B2:=Lib.hid (HB.out.step hpg hrg (Chg.of_grows k2))
    have S2:=Lib.hid (HS.out.grows k2)
    clear k2 HB HS hst c5 ig
    cases hsb:ahead [92,123] t.left with
    | true =>
     rw [hsb] at HT
     have hsl:=ahead_len hsb
     simp only [List.length_cons,List.length_nil] at hsl
     obtain ⟨-,-,-,-,-,c5⟩:=S2.out.rd.cells
     go_wp2_with fail
     (with_reducible refine (is_at S2.out hl [92,123] (by decide) ⟨#[92,123]⟩ rfl true hsb).mono ?_)
     rintro e w3 ⟨rfl,k3⟩
     have B3:=Lib.hid (B2.out.step hpg hrg (Chg.of_grows k3))
     have S3:=Lib.hid (S2.out.grows k3)
     clear k3 B2 S2 hsb c5
     obtain ⟨-,c1,-,-,-,-⟩:=S3.out.rd.cells
     have ig:=S3.out.inh
     have ff:=S3.out.rd.free
     have ha2:at2≤1000:=by have:=S3.out.ale;omega
     obtain ⟨⟨m,b,l1⟩,hn⟩:∃ z,digitsR (t.left.drop 2)=z:=⟨_,rfl⟩
     have S4:StAt (w3.setCell ⟨g,1,none⟩ (.int .i64 ((at2:Int)+2))) g s (at2+2) { t with left:=t.left.drop 2 } false:=S3.out.skip (by omega) rfl (by rw [Int.natCast_add];exact S3.out.rd.set1 _)
     have B4:=B3.out.step hpg hrg (chg_cell w3 g 1 (.int .i64 ((at2:Int)+2)))
     have S4:=Lib.hid S4
     have B4:=Lib.hid B4
     go_upto_region 7 with fail
     generalize w3.setCell ⟨g,1,none⟩ (.int .i64 ((at2:Int)+2))=w4 at *
     clear c1 ig ff B3 S3
     go_wp2_with fail
     (with_reducible refine (digits_at S4.out hl m b l1 hn).mono ?_)
     rintro e w5 ⟨rfl,⟨at3,hS5⟩,hC5⟩
     have B5:=Lib.hid (B4.out.step hpg hrg hC5)
     have S5:=Lib.hid hS5
     clear hS5 hC5 B4 S4
     cases hcm:ahead [44] l1 with
     | true =>
      go_wp2_with fail
      (with_reducible refine (is_at S5.out hl [44] (by decide) ⟨#[44]⟩ rfl true hcm).mono ?_)
      rintro e w6 ⟨rfl,k6⟩
      have h0:=HT.out
      simp only [Bool.false_eq_true,if_false,if_true] at h0
      clear HT
      have HT:=Lib.hid h0
      clear h0
      have HL1:Hid (l1.length+2≤t.left.length):=Lib.hid (by have e:(t.left.drop 2).dropWhile isDig=l1:=congrArg (fun z=>z.2.2) hn;have:=dropWhile_le (t.left.drop 2);rw [e] at this;simp at this;omega)
      have B6:=Lib.hid (B5.out.step hpg hrg (Chg.of_grows k6))
      have S6:=Lib.hid (S5.out.grows k6)
      clear k6 B5 S5
      obtain ⟨-,c1,-,-,-,-⟩:=S6.out.rd.cells
      have ig:=S6.out.inh
      have ff:=S6.out.rd.free
      have ha3:at3≤1000:=by have:=S6.out.ale;omega
      have hcl1:=ahead_len hcm
      simp only [List.length_cons,List.length_nil] at hcl1
      have S7:StAt (w6.setCell ⟨g,1,none⟩ (.int .i64 ((at3:Int)+1))) g s (at3+1) { t with left:=l1.drop 1 } false:=S6.out.skip (k:=1) hcl1 rfl (by rw [Int.natCast_add];exact S6.out.rd.set1 _)
      have B7:=B6.out.step hpg hrg (chg_cell w6 g 1 (.int .i64 ((at3:Int)+1)))
      have S7:=Lib.hid S7
      have B7:=Lib.hid B7
      go_wp2_with fail
      generalize w6.setCell ⟨g,1,none⟩ (.int .i64 ((at3:Int)+1))=w7 at *
      clear c1 ig ff B6 S6
      obtain ⟨⟨k,i9,l2⟩,hk⟩:∃ z,digitsR (l1.drop 1)=z:=⟨_,rfl⟩
      (with_reducible refine (digits_at S7.out hl k i9 l2 hk).mono ?_)
      rintro e wA ⟨rfl,⟨atA,hSA⟩,hCA⟩
      have BA:=Lib.hid (B7.out.step hpg hrg hCA)
      have SA:=Lib.hid hSA
      clear hSA hCA B7 S7
      have HL2:Hid (l2.length < t.left.length):=Lib.hid (by have e:(l1.drop 1).dropWhile isDig=l2:=congrArg (fun z=>z.2.2) hk;have:=dropWhile_le (l1.drop 1);rw [e] at this;have:=HL1.out;simp at *;omega)
      cases i9 with
      | true =>
       have hm:mostR m l1=((k:Int),l2):=by unfold mostR;rw [hcm,hk];rfl
       cases b with
       | false =>
        obtain ⟨-,-,-,-,-,c5⟩:=SA.out.rd.cells
        have ig:=SA.out.inh
        have ff:=SA.out.rd.free
        have hV:R=none:=by have:=HT.out;rw [bounds_eqR hn hm,if_neg (fun h=>absurd h.1 (by decide))] at this;exact this.symm
        go_wp2_with fail
        go_roundg 0
        case measure=>have:=HQ.out;omega
        case rel=>exact .inr ⟨y,{ t with left:=l2 },B,cb,atA,rfl,hV,⟨SA.out.rd.set1005 true,SA.out.left,SA.out.ale,SA.out.many,SA.out.groups⟩,BA.out.step hpg hrg (chg_cell _ _ _ _)⟩
       | true =>
        cases hcl:ahead [92,125] l2 with
        | false =>
         obtain ⟨-,-,-,-,-,c5⟩:=SA.out.rd.cells
         have ig:=SA.out.inh
         have ff:=SA.out.rd.free
         go_wp2_with fail
         (with_reducible refine (is_at SA.out hl [92,125] (by decide) ⟨#[92,125]⟩ rfl false hcl).mono ?_)
         rintro e wC ⟨rfl,kC⟩
         have SC:=Lib.hid (SA.out.grows kC)
         have BC:=Lib.hid (BA.out.step hpg hrg (Chg.of_grows kC))
         clear c5 ig ff kC SA BA
         obtain ⟨wA,hwA⟩:∃ z,z=wC:=⟨_,rfl⟩
         subst hwA
         have SA:=SC
         have BA:=BC
         clear SC BC
         obtain ⟨-,-,-,-,-,c5⟩:=SA.out.rd.cells
         have ig:=SA.out.inh
         have ff:=SA.out.rd.free
         have hV:R=none:=by have:=HT.out;rw [bounds_eqR hn hm,if_neg (fun h=>by rw [hcl] at h;exact absurd h.2.1 (by decide))] at this;exact this.symm
         go_wp2_with fail
         go_roundg 0
         case measure=>have:=HQ.out;omega
         case rel=>exact .inr ⟨y,{ t with left:=l2 },B,cb,atA,rfl,hV,⟨SA.out.rd.set1005 true,SA.out.left,SA.out.ale,SA.out.many,SA.out.groups⟩,BA.out.step hpg hrg (chg_cell _ _ _ _)⟩
        | true =>
         obtain ⟨-,-,-,-,-,c5⟩:=SA.out.rd.cells
         have ig:=SA.out.inh
         have ff:=SA.out.rd.free
         go_wp2_with fail
         (with_reducible refine (is_at SA.out hl [92,125] (by decide) ⟨#[92,125]⟩ rfl true hcl).mono ?_)
         rintro e wC ⟨rfl,kC⟩
         have SC:=Lib.hid (SA.out.grows kC)
         have BC:=Lib.hid (BA.out.step hpg hrg (Chg.of_grows kC))
         clear c5 ig ff kC SA BA
         obtain ⟨wA,hwA⟩:∃ z,z=wC:=⟨_,rfl⟩
         subst hwA
         have SA:=SC
         have BA:=BC
         clear SC BC
         obtain ⟨-,-,-,-,-,c5⟩:=SA.out.rd.cells
         have ig:=SA.out.inh
         have ff:=SA.out.rd.free
         have g0:(0:Int)≤(k:Int):=by omega
         by_cases c1:m≤k
         ·have g1:decide ((k:Int) < (m:Int))=false:=by rw [decide_eq_false_iff_not];omega
          have g1n:decide (k < m)=false:=by rw [decide_eq_false_iff_not];omega
          by_cases c2:m≤255
          ·have g2:decide ((255:Int) < (m:Int))=false:=by rw [decide_eq_false_iff_not];omega
           by_cases c3:k≤255
           ·have g3:decide ((255:Int) < (k:Int))=false:=by rw [decide_eq_false_iff_not];omega
            have hV:timesR n (timesN m (k:Int),Fr.one y.1 y.2) (RdS.node { t with left:=l2 } 2)=R:=by have:=HT.out;rw [bounds_eqR hn hm,if_pos ⟨rfl,hcl,by omega,by omega,by first | (left;omega) | (right;omega)⟩] at this;exact this
            have HV:=Lib.hid hV
            have hl2:=ahead_len hcl
            simp only [List.length_cons,List.length_nil] at hl2
            clear hV HT
            go_upto_region 16 with fail
            have S9:StAt (wA.setCell ⟨g,1005,none⟩ (.bool false)) g s atA { t with left:=l2 } false:=⟨SA.out.rd.set1005 false,SA.out.left,SA.out.ale,SA.out.many,SA.out.groups⟩
            have B9:=BA.out.step hpg hrg (chg_cell wA g 1005 (.bool false))
            clear c5 ig ff SA BA
            generalize wA.setCell ⟨g,1005,none⟩ (.bool false)=wB at *
            obtain ⟨-,-,-,-,-,c5⟩:=S9.rd.cells
            have ig:=S9.inh
            have hb3:=B9.box
            have ip3:=B9.pin
            have S9:=Lib.hid S9
            have B9:=Lib.hid B9
            go_wp2_with fail
            have S9:=S9.out
            have B9:=B9.out
            clear hb3 ip3 c5 ig
            (with_reducible refine (node_lit (S9.grows ((Grows.refl _).alloc _)) hl 2 2 rfl (by omega) hl2 8 0 noSet 0 m (k:Int) (some ⟨wB.heap.size,0,none⟩) 1 1).mono ?_)
            rintro e w9 ⟨rfl,hS9,hC⟩
            have B10:=B9.wrap S9.inh hC hpg hrg hpr hWp (timesN m (k:Int)) (c:=ndA 8 0 noSet 0 m (k:Int) (.slice (some ⟨wB.heap.size,0,none⟩) 1 1)) rfl
            have p9:blk w9 pb=ndC y.1 (.slice B y.2.len cb):=(chg_blk hC (by have:=B9.pin;unfold InHeap at this;simp;omega) hpg).trans ((blk_alloc_past _ _ _ B9.pin).trans B9.box)
            have i9:InHeap pb w9:=Blk.inHeap p9 (by simp [ndA_size])
            have H10:=Lib.hid B10
            have S10:=Lib.hid (hS9.chg (w':=setBlk w9 pb (ndA 8 0 noSet 0 m (k:Int) (.slice (some ⟨wB.heap.size,0,none⟩) 1 1))) (q:=fun b=>b=pb) chg_row (fun e=>hpg e.symm))
            clear hS9 hC B10 B9 S9
            go_wp2_with fail
            go_roundg ((l2.drop 2).length+1)
            case measure=>have:=HQ.out;have:=HL2.out;simp;omega
            case rel=>exact .inl ⟨(timesN m (k:Int),Fr.one y.1 y.2),RdS.node { t with left:=l2 } 2,some ⟨wB.heap.size,0,none⟩,1,atA+2,n,rfl,HV.out,by have:=HN.out;have:=HL2.out;simp [RdS.node];omega,S10.out,H10.out⟩
           ·have g3:(255:Int) < (k:Int):=by omega
            have hV:R=none:=by have:=HT.out;rw [bounds_eqR hn hm,if_neg (fun h=>by obtain ⟨-,-,h3,h4,h5⟩:=h;omega)] at this;exact this.symm
            go_wp2_with fail
            go_roundg 0
            case measure=>have:=HQ.out;omega
            case rel=>exact .inr ⟨y,{ t with left:=l2 },B,cb,atA,rfl,hV,⟨SA.out.rd.set1005 true,SA.out.left,SA.out.ale,SA.out.many,SA.out.groups⟩,BA.out.step hpg hrg (chg_cell _ _ _ _)⟩
          ·have g2:(255:Int) < (m:Int):=by omega
           have hV:R=none:=by have:=HT.out;rw [bounds_eqR hn hm,if_neg (fun h=>by obtain ⟨-,-,h3,h4,h5⟩:=h;omega)] at this;exact this.symm
           go_wp2_with fail
           go_roundg 0
           case measure=>have:=HQ.out;omega
           case rel=>exact .inr ⟨y,{ t with left:=l2 },B,cb,atA,rfl,hV,⟨SA.out.rd.set1005 true,SA.out.left,SA.out.ale,SA.out.many,SA.out.groups⟩,BA.out.step hpg hrg (chg_cell _ _ _ _)⟩
         ·have g1:(k:Int) < (m:Int):=by omega
          have hV:R=none:=by have:=HT.out;rw [bounds_eqR hn hm,if_neg (fun h=>by obtain ⟨-,-,h3,h4,h5⟩:=h;omega)] at this;exact this.symm
          go_wp2_with fail
          go_roundg 0
          case measure=>have:=HQ.out;omega
          case rel=>exact .inr ⟨y,{ t with left:=l2 },B,cb,atA,rfl,hV,⟨SA.out.rd.set1005 true,SA.out.left,SA.out.ale,SA.out.many,SA.out.groups⟩,BA.out.step hpg hrg (chg_cell _ _ _ _)⟩
      | false =>
       have hm:mostR m l1=(-1,l2):=by unfold mostR;rw [hcm,hk];rfl
       cases b with
       | false =>
        obtain ⟨-,-,-,-,-,c5⟩:=SA.out.rd.cells
        have ig:=SA.out.inh
        have ff:=SA.out.rd.free
        have hV:R=none:=by have:=HT.out;rw [bounds_eqR hn hm,if_neg (fun h=>absurd h.1 (by decide))] at this;exact this.symm
        go_wp2_with fail
        go_roundg 0
        case measure=>have:=HQ.out;omega
        case rel=>exact .inr ⟨y,{ t with left:=l2 },B,cb,atA,rfl,hV,⟨SA.out.rd.set1005 true,SA.out.left,SA.out.ale,SA.out.many,SA.out.groups⟩,BA.out.step hpg hrg (chg_cell _ _ _ _)⟩
       | true =>
        cases hcl:ahead [92,125] l2 with
        | false =>
         obtain ⟨-,-,-,-,-,c5⟩:=SA.out.rd.cells
         have ig:=SA.out.inh
         have ff:=SA.out.rd.free
         go_wp2_with fail
         (with_reducible refine (is_at SA.out hl [92,125] (by decide) ⟨#[92,125]⟩ rfl false hcl).mono ?_)
         rintro e wC ⟨rfl,kC⟩
         have SC:=Lib.hid (SA.out.grows kC)
         have BC:=Lib.hid (BA.out.step hpg hrg (Chg.of_grows kC))
         clear c5 ig ff kC SA BA
         obtain ⟨wA,hwA⟩:∃ z,z=wC:=⟨_,rfl⟩
         subst hwA
         have SA:=SC
         have BA:=BC
         clear SC BC
         obtain ⟨-,-,-,-,-,c5⟩:=SA.out.rd.cells
         have ig:=SA.out.inh
         have ff:=SA.out.rd.free
         have hV:R=none:=by have:=HT.out;rw [bounds_eqR hn hm,if_neg (fun h=>by rw [hcl] at h;exact absurd h.2.1 (by decide))] at this;exact this.symm
         go_wp2_with fail
         go_roundg 0
         case measure=>have:=HQ.out;omega
         case rel=>exact .inr ⟨y,{ t with left:=l2 },B,cb,atA,rfl,hV,⟨SA.out.rd.set1005 true,SA.out.left,SA.out.ale,SA.out.many,SA.out.groups⟩,BA.out.step hpg hrg (chg_cell _ _ _ _)⟩
        | true =>
         obtain ⟨-,-,-,-,-,c5⟩:=SA.out.rd.cells
         have ig:=SA.out.inh
         have ff:=SA.out.rd.free
         go_wp2_with fail
         (with_reducible refine (is_at SA.out hl [92,125] (by decide) ⟨#[92,125]⟩ rfl true hcl).mono ?_)
         rintro e wC ⟨rfl,kC⟩
         have SC:=Lib.hid (SA.out.grows kC)
         have BC:=Lib.hid (BA.out.step hpg hrg (Chg.of_grows kC))
         clear c5 ig ff kC SA BA
         obtain ⟨wA,hwA⟩:∃ z,z=wC:=⟨_,rfl⟩
         subst hwA
         have SA:=SC
         have BA:=BC
         clear SC BC
         obtain ⟨-,-,-,-,-,c5⟩:=SA.out.rd.cells
         have ig:=SA.out.inh
         have ff:=SA.out.rd.free
         by_cases c2:m≤255
         ·have g2:decide ((255:Int) < (m:Int))=false:=by rw [decide_eq_false_iff_not];omega
          have hV:timesR n (timesN m (-1:Int),Fr.one y.1 y.2) (RdS.node { t with left:=l2 } 2)=R:=by have:=HT.out;rw [bounds_eqR hn hm,if_pos ⟨rfl,hcl,by omega,by omega,by first | (left;omega) | (right;omega)⟩] at this;exact this
          have HV:=Lib.hid hV
          have hl2:=ahead_len hcl
          simp only [List.length_cons,List.length_nil] at hl2
          clear hV HT
          go_upto_region 16 with fail
          have S9:StAt (wA.setCell ⟨g,1005,none⟩ (.bool false)) g s atA { t with left:=l2 } false:=⟨SA.out.rd.set1005 false,SA.out.left,SA.out.ale,SA.out.many,SA.out.groups⟩
          have B9:=BA.out.step hpg hrg (chg_cell wA g 1005 (.bool false))
          clear c5 ig ff SA BA
          generalize wA.setCell ⟨g,1005,none⟩ (.bool false)=wB at *
          obtain ⟨-,-,-,-,-,c5⟩:=S9.rd.cells
          have ig:=S9.inh
          have hb3:=B9.box
          have ip3:=B9.pin
          have S9:=Lib.hid S9
          have B9:=Lib.hid B9
          go_wp2_with fail
          have S9:=S9.out
          have B9:=B9.out
          clear hb3 ip3 c5 ig
          (with_reducible refine (node_lit (S9.grows ((Grows.refl _).alloc _)) hl 2 2 rfl (by omega) hl2 8 0 noSet 0 m (-1:Int) (some ⟨wB.heap.size,0,none⟩) 1 1).mono ?_)
          rintro e w9 ⟨rfl,hS9,hC⟩
          have B10:=B9.wrap S9.inh hC hpg hrg hpr hWp (timesN m (-1:Int)) (c:=ndA 8 0 noSet 0 m (-1:Int) (.slice (some ⟨wB.heap.size,0,none⟩) 1 1)) rfl
          have p9:blk w9 pb=ndC y.1 (.slice B y.2.len cb):=(chg_blk hC (by have:=B9.pin;unfold InHeap at this;simp;omega) hpg).trans ((blk_alloc_past _ _ _ B9.pin).trans B9.box)
          have i9:InHeap pb w9:=Blk.inHeap p9 (by simp [ndA_size])
          have H10:=Lib.hid B10
          have S10:=Lib.hid (hS9.chg (w':=setBlk w9 pb (ndA 8 0 noSet 0 m (-1:Int) (.slice (some ⟨wB.heap.size,0,none⟩) 1 1))) (q:=fun b=>b=pb) chg_row (fun e=>hpg e.symm))
          clear hS9 hC B10 B9 S9
          go_wp2_with fail
          go_roundg ((l2.drop 2).length+1)
          case measure=>have:=HQ.out;have:=HL2.out;simp;omega
          case rel=>exact .inl ⟨(timesN m (-1:Int),Fr.one y.1 y.2),RdS.node { t with left:=l2 } 2,some ⟨wB.heap.size,0,none⟩,1,atA+2,n,rfl,HV.out,by have:=HN.out;have:=HL2.out;simp [RdS.node];omega,S10.out,H10.out⟩
         ·have g2:(255:Int) < (m:Int):=by omega
          have hV:R=none:=by have:=HT.out;rw [bounds_eqR hn hm,if_neg (fun h=>by obtain ⟨-,-,h3,h4,h5⟩:=h;omega)] at this;exact this.symm
          go_wp2_with fail
          go_roundg 0
          case measure=>have:=HQ.out;omega
          case rel=>exact .inr ⟨y,{ t with left:=l2 },B,cb,atA,rfl,hV,⟨SA.out.rd.set1005 true,SA.out.left,SA.out.ale,SA.out.many,SA.out.groups⟩,BA.out.step hpg hrg (chg_cell _ _ _ _)⟩
     | false =>
      go_wp2_with fail
      (with_reducible refine (is_at S5.out hl [44] (by decide) ⟨#[44]⟩ rfl false hcm).mono ?_)
      rintro e w6 ⟨rfl,k6⟩
      have h0:=HT.out
      simp only [Bool.false_eq_true,if_false,if_true] at h0
      clear HT
      have HT:=Lib.hid h0
      clear h0
      have HL1:Hid (l1.length+2≤t.left.length):=Lib.hid (by have e:(t.left.drop 2).dropWhile isDig=l1:=congrArg (fun z=>z.2.2) hn;have:=dropWhile_le (t.left.drop 2);rw [e] at this;simp at this;omega)
      have BA:=Lib.hid (B5.out.step hpg hrg (Chg.of_grows k6))
      have SA:=Lib.hid (S5.out.grows k6)
      clear k6 B5 S5
      obtain ⟨wA,hwA⟩:∃ z,z=w6:=⟨_,rfl⟩
      subst hwA
      obtain ⟨atA,hatA⟩:∃ z,z=at3:=⟨_,rfl⟩
      subst hatA
      obtain ⟨l2,hl2'⟩:∃ z,z=l1:=⟨_,rfl⟩
      subst hl2'
      have HL2:Hid (l2.length < t.left.length):=Lib.hid (by have:=HL1.out;omega)
      have hm:mostR m l2=((m:Int),l2):=by unfold mostR;rw [hcm];rfl
      cases b with
      | false =>
       obtain ⟨-,-,-,-,-,c5⟩:=SA.out.rd.cells
       have ig:=SA.out.inh
       have ff:=SA.out.rd.free
       have hV:R=none:=by have:=HT.out;rw [bounds_eqR hn hm,if_neg (fun h=>absurd h.1 (by decide))] at this;exact this.symm
       go_wp2_with fail
       go_roundg 0
       case measure=>have:=HQ.out;omega
       case rel=>exact .inr ⟨y,{ t with left:=l2 },B,cb,atA,rfl,hV,⟨SA.out.rd.set1005 true,SA.out.left,SA.out.ale,SA.out.many,SA.out.groups⟩,BA.out.step hpg hrg (chg_cell _ _ _ _)⟩
      | true =>
       cases hcl:ahead [92,125] l2 with
       | false =>
        obtain ⟨-,-,-,-,-,c5⟩:=SA.out.rd.cells
        have ig:=SA.out.inh
        have ff:=SA.out.rd.free
        go_wp2_with fail
        (with_reducible refine (is_at SA.out hl [92,125] (by decide) ⟨#[92,125]⟩ rfl false hcl).mono ?_)
        rintro e wC ⟨rfl,kC⟩
        have SC:=Lib.hid (SA.out.grows kC)
        have BC:=Lib.hid (BA.out.step hpg hrg (Chg.of_grows kC))
        clear c5 ig ff kC SA BA
        obtain ⟨wA,hwA⟩:∃ z,z=wC:=⟨_,rfl⟩
        subst hwA
        have SA:=SC
        have BA:=BC
        clear SC BC
        obtain ⟨-,-,-,-,-,c5⟩:=SA.out.rd.cells
        have ig:=SA.out.inh
        have ff:=SA.out.rd.free
        have hV:R=none:=by have:=HT.out;rw [bounds_eqR hn hm,if_neg (fun h=>by rw [hcl] at h;exact absurd h.2.1 (by decide))] at this;exact this.symm
        go_wp2_with fail
        go_roundg 0
        case measure=>have:=HQ.out;omega
        case rel=>exact .inr ⟨y,{ t with left:=l2 },B,cb,atA,rfl,hV,⟨SA.out.rd.set1005 true,SA.out.left,SA.out.ale,SA.out.many,SA.out.groups⟩,BA.out.step hpg hrg (chg_cell _ _ _ _)⟩
       | true =>
        obtain ⟨-,-,-,-,-,c5⟩:=SA.out.rd.cells
        have ig:=SA.out.inh
        have ff:=SA.out.rd.free
        go_wp2_with fail
        (with_reducible refine (is_at SA.out hl [92,125] (by decide) ⟨#[92,125]⟩ rfl true hcl).mono ?_)
        rintro e wC ⟨rfl,kC⟩
        have SC:=Lib.hid (SA.out.grows kC)
        have BC:=Lib.hid (BA.out.step hpg hrg (Chg.of_grows kC))
        clear c5 ig ff kC SA BA
        obtain ⟨wA,hwA⟩:∃ z,z=wC:=⟨_,rfl⟩
        subst hwA
        have SA:=SC
        have BA:=BC
        clear SC BC
        obtain ⟨-,-,-,-,-,c5⟩:=SA.out.rd.cells
        have ig:=SA.out.inh
        have ff:=SA.out.rd.free
        by_cases c2:m≤255
        ·have g2:decide ((255:Int) < (m:Int))=false:=by rw [decide_eq_false_iff_not];omega
         have hV:timesR n (timesN m (m:Int),Fr.one y.1 y.2) (RdS.node { t with left:=l2 } 2)=R:=by have:=HT.out;rw [bounds_eqR hn hm,if_pos ⟨rfl,hcl,by omega,by omega,by first | (left;omega) | (right;omega)⟩] at this;exact this
         have HV:=Lib.hid hV
         have hl2:=ahead_len hcl
         simp only [List.length_cons,List.length_nil] at hl2
         clear hV HT
         go_upto_region 16 with fail
         have S9:StAt (wA.setCell ⟨g,1005,none⟩ (.bool false)) g s atA { t with left:=l2 } false:=⟨SA.out.rd.set1005 false,SA.out.left,SA.out.ale,SA.out.many,SA.out.groups⟩
         have B9:=BA.out.step hpg hrg (chg_cell wA g 1005 (.bool false))
         clear c5 ig ff SA BA
         generalize wA.setCell ⟨g,1005,none⟩ (.bool false)=wB at *
         obtain ⟨-,-,-,-,-,c5⟩:=S9.rd.cells
         have ig:=S9.inh
         have hb3:=B9.box
         have ip3:=B9.pin
         have S9:=Lib.hid S9
         have B9:=Lib.hid B9
         go_wp2_with fail
         have S9:=S9.out
         have B9:=B9.out
         clear hb3 ip3 c5 ig
         (with_reducible refine (node_lit (S9.grows ((Grows.refl _).alloc _)) hl 2 2 rfl (by omega) hl2 8 0 noSet 0 m (m:Int) (some ⟨wB.heap.size,0,none⟩) 1 1).mono ?_)
         rintro e w9 ⟨rfl,hS9,hC⟩
         have B10:=B9.wrap S9.inh hC hpg hrg hpr hWp (timesN m (m:Int)) (c:=ndA 8 0 noSet 0 m (m:Int) (.slice (some ⟨wB.heap.size,0,none⟩) 1 1)) rfl
         have p9:blk w9 pb=ndC y.1 (.slice B y.2.len cb):=(chg_blk hC (by have:=B9.pin;unfold InHeap at this;simp;omega) hpg).trans ((blk_alloc_past _ _ _ B9.pin).trans B9.box)
         have i9:InHeap pb w9:=Blk.inHeap p9 (by simp [ndA_size])
         have H10:=Lib.hid B10
         have S10:=Lib.hid (hS9.chg (w':=setBlk w9 pb (ndA 8 0 noSet 0 m (m:Int) (.slice (some ⟨wB.heap.size,0,none⟩) 1 1))) (q:=fun b=>b=pb) chg_row (fun e=>hpg e.symm))
         clear hS9 hC B10 B9 S9
         go_wp2_with fail
         go_roundg ((l2.drop 2).length+1)
         case measure=>have:=HQ.out;have:=HL2.out;simp;omega
         case rel=>exact .inl ⟨(timesN m (m:Int),Fr.one y.1 y.2),RdS.node { t with left:=l2 } 2,some ⟨wB.heap.size,0,none⟩,1,atA+2,n,rfl,HV.out,by have:=HN.out;have:=HL2.out;simp [RdS.node];omega,S10.out,H10.out⟩
        ·have g2:(255:Int) < (m:Int):=by omega
         have hV:R=none:=by have:=HT.out;rw [bounds_eqR hn hm,if_neg (fun h=>by obtain ⟨-,-,h3,h4,h5⟩:=h;omega)] at this;exact this.symm
         go_wp2_with fail
         go_roundg 0
         case measure=>have:=HQ.out;omega
         case rel=>exact .inr ⟨y,{ t with left:=l2 },B,cb,atA,rfl,hV,⟨SA.out.rd.set1005 true,SA.out.left,SA.out.ale,SA.out.many,SA.out.groups⟩,BA.out.step hpg hrg (chg_cell _ _ _ _)⟩
    | false =>
     rw [hsb] at HT
     go_wp2_with fail
     (with_reducible refine (is_at S2.out hl [92,123] (by decide) ⟨#[92,123]⟩ rfl false hsb).mono ?_)
     rintro e w3 ⟨rfl,k3⟩
     have B3:=Lib.hid (B2.out.step hpg hrg (Chg.of_grows k3))
     have S3:=Lib.hid (S2.out.grows k3)
     have hb3:=B3.out.box
     have hr3:=B3.out.res
     have ip3:=B3.out.pin
     have ir3:=B3.out.rin
     clear k3 B2 S2 hsb
     go_wp2_with fail
     have hV:R=some (y,t):=by have:=HT.out;simp only [Bool.false_eq_true,if_false] at this;exact this.symm
     have hcs:Chg (fun b=>b=rb) w3 (setBlk w3 rb (ndC y.1 (.slice B y.2.len cb))):=chg_row
     rw [hV]
     exact bodyPost_ret (results_nodeR 4 rfl rfl (Blk.get _ hr3 (by simp [ndA_size])) (ndA_size _ _ _ _ _ _ _)) rfl ⟨B,cb,rfl,(B3.out.kids.chg hcs fun b _ h=>h.2.2).mono fun b _ h=>h.1,⟨at2,S3.out.chg hcs (fun e=>hrg e.symm)⟩,chg_late B3.out.chg hcs fun b hb e=>by omega⟩
  ·have HQ:=Lib.hid hq
   obtain ⟨-,-,-,-,-,c5⟩:=hS.rd.cells
   have ig:=hS.inh
   have hb3:=hB.box
   have hr3:=hB.res
   have ip3:=hB.pin
   have ir3:=hB.rin
   have HS:=Lib.hid hS
   have HB:=Lib.hid hB
   have HT:=Lib.hid hT
   clear hq hS hB hT
   go_wp2_with fail
   have hcs:Chg (fun b=>b=rb) wx (setBlk wx rb (ndC y.1 (.slice B y.2.len cb))):=chg_row
   rw [HT.out]
   exact bodyPost_ret (results_nodeR 4 rfl rfl (Blk.get _ hr3 (by simp [ndA_size])) (ndA_size _ _ _ _ _ _ _)) rfl ⟨⟨y.1,B,y.2.len,cb,rfl⟩,⟨at2,t,HS.out.chg hcs (fun e=>hrg e.symm)⟩,chg_late HB.out.chg hcs fun b hb e=>by omega⟩
end Go.Proofs.YtnjagecmhdagkaaGreatDoor
