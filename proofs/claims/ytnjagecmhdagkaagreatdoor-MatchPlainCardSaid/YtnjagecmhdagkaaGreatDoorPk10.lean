/-
 Patterns: repetitions, walked.
-/
import Derived.Test.YtnjagecmhdagkaaGreatDoorPk09
set_option linter.unusedSimpArgs false
set_option linter.unusedVariables false
set_option maxRecDepth 3000
namespace Go.Proofs.YtnjagecmhdagkaaGreatDoor
open Go.RowKit
attribute [local go_sem ↓] zeroNode bldNd_eq ldNode_eq stNode_eq
attribute [local go_sem] bld_kind bld_byte bld_set bld_n bld_star bld_times loadNode loadNode_if storeNode storeNode_if ndA_one_slice ndA_0 ndA_258 ndA_261 tx_bt tx_from
def bldSl (x:Array (Nat × Value)):Sem Value:=Instr.buildSlice 48 1 x
theorem bldSl_eq (x:Array (Nat × Value)):Instr.buildSlice 48 1 x=bldSl x:=rfl
theorem bldSl_run (w:World) (k b:Int) (p:Nat→Bool) (n mn mx:Int) (a:Option Addr) (l d:Nat):(bldSl #[(0,.agg (ndA k b p n mn mx (.slice a l d)))]).run Tryz.prog w=.ok (.slice (some ⟨w.heap.size,0,none⟩) 1 1) (w.alloc (.cells (ndA k b p n mn mx (.slice a l d)) 95)):=by kernel_rfl
attribute [local go_sem ↓] bldSl_eq
attribute [local go_sem] bldSl_run
structure TB (base g:Nat) (tv ov:Value) (ok:Nat→Prop) (W:World) (pb rb:Nat) (A:Option Addr) (cap:Nat) (x:Nk) (s:PS) (w:World):Prop where
 pa:Pa base w g tv ov s
 chg:Chg (fun b=>b=g) W w
 box:blk w pb=ndC x.1 (.slice A x.2.len cap)
 res:blk w rb=ndA 0 0 noSet 0 0 0 (.slice none 0 0)
 kids:FrAt ok w A cap x.2
section
variable {base g pb rb:Nat} {W w w' w2:World} {tv ov v:Value} {ok ok2:Nat→Prop} {A:Option Addr} {cap:Nat} {x:Nk} {s t:PS}
theorem TB.pin (h:TB base g tv ov ok W pb rb A cap x s w):InHeap pb w:=Blk.inHeap h.box (by simp [ndA_size])
theorem TB.rin (h:TB base g tv ov ok W pb rb A cap x s w):InHeap rb w:=Blk.inHeap h.res (by simp [ndA_size])
theorem TB.step (h:TB base g tv ov ok W pb rb A cap x s w) (hp:¬ pb=g) (hr:¬ rb=g) (hok:∀ b,ok b→¬ b=g) (hP:Pa base w' g tv ov t) (hC:Chg (fun b=>b=g) w w'):TB base g tv ov ok W pb rb A cap x t w' :=
 ⟨hP,h.chg.trans hC,(chg_blk hC h.pin hp).trans h.box,(chg_blk hC h.rin hr).trans h.res,h.kids.chg hC fun b _ h=>hok b h⟩
theorem fr_one {kb:Nat} {n:NdV} {k:Fr} (hb:blk w kb=ndC n (.slice A k.len cap)) (hk:FrAt ok w A cap k) (ho:ok kb):FrAt ok w (some ⟨kb,0,none⟩) 1 (Fr.one n k):=by
 obtain ⟨ys,h1,h2⟩:=hk
 have hz:0 < (ndC n (.slice A k.len cap)).size:=by simp [ndA_size]
 have hc:=Blk.cell hb hz
 refine ⟨(ndC n (.slice A k.len cap)).toList++[],⟨⟨by simp [ndA_size,Fr.one,Fr.len],fun _=>⟨kb,0,rfl,Blk.inHeap hb hz,fun j u hu=>?_⟩⟩,(fun e=>by cases e),Nat.le_refl _,by simp,fun _ a e=>by cases e;exact ho⟩,A,cap,ys,[],rfl,h1,h2,rfl⟩
 rw [Nat.zero_add,hc j]
 simpa using hu
theorem TB.wrap {kb:Nat} {c:Array Value} (h:TB base g tv ov ok W pb rb A cap x s w) (hP:Pa base w2 g tv ov t) (hC:Chg (fun b=>b=g) (w.alloc (.cells (ndC x.1 (.slice A x.2.len cap)) 95)) w2) (hp:¬ pb=g) (hr:¬ rb=g) (hpr:¬ pb=rb) (hkb:kb=w.heap.size) (hK:¬ PaK g ov pb) (hok:∀ b,ok b→¬ b=g∧¬ b=pb) (hk:ok kb) (hW:W.heap.size≤pb) (y:NdV) (hc:c=ndC y (.slice (some ⟨kb,0,none⟩) 1 1)) :
  TB base g tv ov ok W pb rb (some ⟨kb,0,none⟩) 1 (y,Fr.one x.1 x.2) t (setBlk w2 pb c):=by
 subst hkb hc
 have hg:Grows w (w.alloc (.cells (ndC x.1 (.slice A x.2.len cap)) 95)):=(Grows.refl _).alloc _
 have hb1:blk (w.alloc (.cells (ndC x.1 (.slice A x.2.len cap)) 95)) w.heap.size=ndC x.1 (.slice A x.2.len cap):=blk_alloc_at _ _ _ _ rfl
 have hkg:=hok _ hk
 have k1:=(chg_blk hC (by simp) hkg.1).trans hb1
 have p1:blk w2 pb=ndC x.1 (.slice A x.2.len cap):=(chg_blk hC (by have:=h.pin;unfold InHeap at this;simp;omega) hp).trans ((blk_alloc_past _ _ _ h.pin).trans h.box)
 have r1:blk w2 rb=ndA 0 0 noSet 0 0 0 (.slice none 0 0):=(chg_blk hC (by have:=h.rin;unfold InHeap at this;simp;omega) hr).trans ((blk_alloc_past _ _ _ h.rin).trans h.res)
 have hcs:Chg (fun b=>b=pb) w2 (setBlk w2 pb (ndC y (.slice (some ⟨w.heap.size,0,none⟩) 1 1))):=chg_row
 have hf:=((h.kids.grows hg).chg hC fun b _ h=>(hok b h).1).chg hcs fun b _ h=>(hok b h).2
 refine ⟨hP.chg hcs fun b hb e=>hK (e ▸ hb),chg_late ((h.chg.trans (Chg.of_grows hg)).trans hC) hcs fun b hb e=>by omega,Blk.get _ p1 (by simp [ndA_size]),(chg_blk hcs (Blk.inHeap r1 (by simp [ndA_size])) (fun e=>hpr e.symm)).trans r1,fr_one ?_ hf hk⟩
 exact (chg_blk hcs (Blk.inHeap k1 (by simp [ndA_size])) hkg.2).trans k1
theorem bounds_eq {l r rr:List UInt8} {m:Nat} {b:Bool} {n:Int} (h1:numberV l=(m,b,r)) (h2:mostV m r=(n,rr)):boundsV l=if b=true∧ahead [92,125] rr=true∧m≤255∧n≤255∧(n < 0∨(m:Int)≤n) then some (m,n,rr.drop 2) else none:=by
 unfold boundsV
 simp only [h1,h2]
theorem number_v (h:Pa base w g tv ov s) (m:Nat) (b:Bool) (r:List UInt8) (hn:numberV s.left=(m,b,r)) :
  Calls Tryz.prog 59 #[.pointer (some ⟨g,0,none⟩)] w fun e w'=>e=.returned (.tuple #[.int .i64 m,.bool b])∧Pa base w' g tv ov { s with left:=r }∧Chg (fun b=>b=g) w w':=by
 have h1:=number_at h _ _ (List.takeWhile_append_dropWhile (p:=isDig)).symm rfl rfl
 have e1:numV (s.left.takeWhile isDig)=m:=congrArg (fun x=>x.1) hn
 have e2:(!(s.left.takeWhile isDig).isEmpty)=b:=congrArg (fun x=>x.2.1) hn
 have e3:s.left.dropWhile isDig=r:=congrArg (fun x=>x.2.2) hn
 rw [e1,e2,e3] at h1
 exact h1
def TimesPost (base g:Nat) (tv ov:Value) (ok:Nat→Prop) (w:World) (r:Option (Nk × PS)) (e:Ending) (w':World):Prop :=
 match r with
 | none=>e=.panicked noneP∧Chg (fun b=>b=g) w w'
 | some y=>∃ v,e=.returned v∧Pa base w' g tv ov y.2∧Chg (fun b=>b=g) w w'∧NkAt (fun b=>ok b∨w.heap.size≤b) w' v y.1
set_option maxHeartbeats 8000000 in
theorem times_any (h:Pa base w g tv ov s) (hok:∀ b,ok b→¬ b=g) (x:Nk) (A:Option Addr) (cap:Nat) (hx:FrAt ok w A cap x.2) :
  Calls Tryz.prog 35 #[.pointer (some ⟨g,0,none⟩),.agg (ndC x.1 (.slice A x.2.len cap))] w (TimesPost base g tv ov ok w (timesF x s)):=by
 have hgl:g < w.heap.size:=h.inh
 have hK:Hid (∀ b,PaK g ov b→b < w.heap.size):=Lib.hid (fun b hb=>h.own_lt hb)
 obtain ⟨pb,hpb⟩:∃ n,n=w.heap.size:=⟨_,rfl⟩
 obtain ⟨rb,hrb⟩:∃ n,n=w.heap.size+1:=⟨_,rfl⟩
 obtain ⟨R,hR⟩:∃ R,timesF x s=R:=⟨_,rfl⟩
 obtain ⟨ok1,hok1⟩:∃ p:Nat→Prop,p=fun b=>(ok b∨w.heap.size≤b)∧¬ b=g∧¬ b=pb∧¬ b=rb:=⟨_,rfl⟩
 have hpg:¬ pb=g:=by omega
 have hrg:¬ rb=g:=by omega
 have hpr:¬ pb=rb:=by omega
 have hpK:Hid (¬ PaK g ov pb):=Lib.hid (fun e=>by have:=hK.out _ e;omega)
 have hrK:Hid (¬ PaK g ov rb):=Lib.hid (fun e=>by have:=hK.out _ e;omega)
 have hOK:Hid (∀ b,ok1 b→¬ b=g):=Lib.hid (fun b hb=>by rw [hok1] at hb;exact hb.2.1)
 have hOK2:Hid (∀ b,ok1 b→¬ b=g∧¬ b=pb):=Lib.hid (fun b hb=>by rw [hok1] at hb;exact ⟨hb.2.1,hb.2.2.1⟩)
 have hNew:Hid (∀ b,w.heap.size+1 < b→ok1 b):=Lib.hid (fun b hb=>by rw [hok1];exact ⟨.inr (by omega),by omega,by omega,by omega⟩)
 have hOut:Hid (∀ b,ok1 b→(ok b∨w.heap.size≤b)∧¬ b=rb):=Lib.hid (fun b hb=>by rw [hok1] at hb;exact ⟨hb.1,hb.2.2.2⟩)
 have T0:Hid (TB base g tv ov ok1 w pb rb A cap x s ((w.alloc (.cells (ndC x.1 (.slice A x.2.len cap)) 95)).alloc (.cells (ndA 0 0 noSet 0 0 0 (.slice none 0 0)) 95))):=Lib.hid
  ⟨h.grows (((Grows.refl _).alloc _).alloc _),Chg.of_grows (((Grows.refl _).alloc _).alloc _),by rw [blk_alloc_past _ _ _ (by unfold InHeap;simp;omega)];exact blk_alloc_at _ _ _ _ hpb,blk_alloc_at _ _ _ _ (by simp [hrb]),
   (hx.mono fun b hb ho=>by rw [hok1];exact ⟨.inl ho,hok b ho,by omega,by omega⟩).grows (((Grows.refl _).alloc _).alloc _)⟩
 have HR:=Lib.hid hR
 have hsz:((w.alloc (.cells (ndC x.1 (.slice A x.2.len cap)) 95)).alloc (.cells (ndA 0 0 noSet 0 0 0 (.slice none 0 0)) 95)).heap.size=w.heap.size+2:=by simp
 have HPB:=Lib.hid hpb
 have HRB:=Lib.hid hrb
 rw [hR]
 clear h hok hx hok1 hR
 go_enter Tryz.func35,Tryz.ntmps35
 go_wp2_with fail
 rw [← hpb,show pb+1=rb by omega]
 clear hpb hrb
 generalize ((w.alloc (.cells (ndC x.1 (.slice A x.2.len cap)) 95)).alloc (.cells (ndA 0 0 noSet 0 0 0 (.slice none 0 0)) 95))=w1 at *
 go_loopg [5,6,7,8,9] (s.left.length+1) (fun q _ _ _ _ _ wr=>∃ (y:Nk) (t:PS) (B:Option Addr) (cb:Nat),q=t.left.length+1∧timesF y t=R∧w.heap.size+2≤wr.heap.size∧TB base g tv ov ok1 w pb rb B cb y t wr)
 case atStart=>exact ⟨x,s,A,cap,rfl,HR.out,by omega,T0.out⟩
 case round =>
  obtain ⟨y,t,B,cb,hq,hT,hws,hB⟩:=hrel
  have HQ:=Lib.hid hq
  have HB:=Lib.hid hB
  have HT:=Lib.hid hT
  obtain ⟨wx,hwx⟩:∃ z,z=wr:=⟨_,rfl⟩
  subst hwx
  have WS:=Lib.hid hws
  clear hq hB hT T0 HR hws
  rw [timesF_eq] at HT
  cases hst:ahead [42] t.left with
  | true =>
   rw [hst] at HT
   have hlen:=ahead_len hst
   go_wp2_with fail
   (with_reducible refine (take_yes HB.out.pa [42] hst ⟨#[42]⟩ rfl 1 rfl).mono ?_)
   rintro e w2 ⟨rfl,hP,hC⟩
   have B2:=Lib.hid (HB.out.step hpg hrg hOK.out hP hC)
   have W2:Hid (w.heap.size+2≤w2.heap.size):=Lib.hid (Nat.le_trans WS.out hC.size)
   clear hP hC HB hst
   have hb2:=B2.out.box
   have ip2:=B2.out.pin
   by_cases hp:t.parts+1≤200
   ·have hV:Hid (timesF (timesN 0 (-1),Fr.one y.1 y.2) { t with left:=t.left.drop 1,parts:=t.parts+1 }=R):=Lib.hid (by have:=HT.out;simp only [if_true,node1,if_pos hp,Option.bind_some] at this;exact this)
    clear HT
    go_wp2_with fail
    have hPa:=B2.out.pa.grows ((Grows.refl _).alloc (.cells (ndC y.1 (.slice B y.2.len cb)) 95))
    (with_reducible refine (node_ok hPa hp 8 0 noSet 0 0 (-1) (some ⟨w2.heap.size,0,none⟩) 1 1).mono ?_)
    rintro e w9 ⟨rfl,hP,hC⟩
    have hw2:=W2.out
    have B9:=B2.out.wrap hP hC hpg hrg hpr rfl hpK.out hOK2.out (hNew.out _ (by omega)) (by have:=HPB.out;omega) (timesN 0 (-1)) (c:=ndA 8 0 noSet 0 0 (-1) (.slice (some ⟨w2.heap.size,0,none⟩) 1 1)) rfl
    have W9:Hid (w.heap.size+2≤w9.heap.size):=Lib.hid (by have h9:=hC.size;simp at h9;omega)
    have p9:blk w9 pb=ndC y.1 (.slice B y.2.len cb):=(chg_blk hC (by have:=B2.out.pin;unfold InHeap at this;simp;omega) hpg).trans ((blk_alloc_past _ _ _ B2.out.pin).trans B2.out.box)
    have i9:InHeap pb w9:=Blk.inHeap p9 (by simp [ndA_size])
    have H9:=Lib.hid B9
    have hl9:Hid ((t.left.drop 1).length < t.left.length):=Lib.hid (by simp at hlen ⊢;omega)
    clear hP hC B9 B2
    go_wp2_with fail
    go_roundg ((t.left.drop 1).length+1)
    case measure=>have:=HQ.out;have:=hl9.out;omega
    case rel=>exact ⟨(timesN 0 (-1),Fr.one y.1 y.2),{ t with left:=t.left.drop 1,parts:=t.parts+1 },some ⟨w2.heap.size,0,none⟩,1,rfl,hV.out,by have:=W9.out;simpa using this,H9.out⟩
   ·have hV:R=none:=by have:=HT.out;simp only [if_true,node1,if_neg hp,Option.bind_none] at this;exact this.symm
    clear HT
    go_wp2_with fail
    have hPa:=B2.out.pa.grows ((Grows.refl _).alloc (.cells (ndC y.1 (.slice B y.2.len cb)) 95))
    (with_reducible refine (node_no hPa hp _ (ndA_one_slice _ _ _ _ _ _ _ _ _) (ndA_size _ _ _ _ _ _ _)).mono ?_)
    rintro e w9 ⟨rfl,hC⟩
    subst hV
    exact ⟨rfl,rfl,(B2.out.chg.trans (Chg.of_grows ((Grows.refl _).alloc _))).trans hC⟩
  | false =>
   rw [hst] at HT
   go_wp2_with fail
   (with_reducible refine (take_no HB.out.pa [42] hst ⟨#[42]⟩ rfl).mono ?_)
   rintro e w2 ⟨rfl,hP,hC⟩
   have B2:=Lib.hid (HB.out.step hpg hrg hOK.out hP hC)
   have W2:Hid (w.heap.size+2≤w2.heap.size):=Lib.hid (Nat.le_trans WS.out hC.size)
   clear hP hC HB hst
   cases hsb:ahead [92,123] t.left with
   | true =>
    have h0:=HT.out
    rw [hsb] at h0
    simp only [Bool.false_eq_true,if_false,if_true] at h0
    clear HT
    have HT:=Lib.hid h0
    clear h0
    have hsl:=ahead_len hsb
    go_wp2_with fail
    (with_reducible refine (take_yes B2.out.pa [92,123] hsb ⟨#[92,123]⟩ rfl 2 rfl).mono ?_)
    rintro e w3 ⟨rfl,hP,hC⟩
    have B3:=Lib.hid (B2.out.step hpg hrg hOK.out hP hC)
    have W3:Hid (w.heap.size+2≤w3.heap.size):=Lib.hid (Nat.le_trans W2.out hC.size)
    clear hP hC
    obtain ⟨⟨m,b,r⟩,hn⟩:∃ x,numberV (t.left.drop 2)=x:=⟨_,rfl⟩
    clear B2 hsb
    go_wp2_with fail
    (with_reducible refine (number_v B3.out.pa m b r hn).mono ?_)
    rintro e w4 ⟨rfl,hP,hC⟩
    have B4:=Lib.hid (B3.out.step hpg hrg hOK.out hP hC)
    have W4:Hid (w.heap.size+2≤w4.heap.size):=Lib.hid (Nat.le_trans W3.out hC.size)
    clear hP hC
    cases b with
    | false =>
     go_wp2_with fail
     cases hc:ahead [44] r with
     | false =>
      (with_reducible refine (take_no B4.out.pa [44] hc ⟨#[44]⟩ rfl).mono ?_)
      rintro e w5 ⟨rfl,hP,hC⟩
      have B5:=Lib.hid (B4.out.step hpg hrg hOK.out hP hC)
      have W5:Hid (w.heap.size+2≤w5.heap.size):=Lib.hid (Nat.le_trans W4.out hC.size)
      clear hP hC
      have hm:mostV m r=((m:Int),r):=by unfold mostV;rw [hc];rfl
      have hV:R=none:=by have:=HT.out;rw [bounds_eq hn hm,if_neg (fun h=>by cases h.1)] at this;exact this.symm
      go_wp2_with fail
      (with_reducible refine (must_no _).mono ?_)
      rintro e w9 ⟨rfl,rfl⟩
      subst hV
      exact ⟨rfl,rfl,B5.out.chg⟩
     | true =>
      (with_reducible refine (take_yes B4.out.pa [44] hc ⟨#[44]⟩ rfl 1 rfl).mono ?_)
      rintro e w5 ⟨rfl,hP,hC⟩
      have B5:=Lib.hid (B4.out.step hpg hrg hOK.out hP hC)
      have W5:Hid (w.heap.size+2≤w5.heap.size):=Lib.hid (Nat.le_trans W4.out hC.size)
      clear hP hC
      obtain ⟨⟨k,b2,r2⟩,hn2⟩:∃ x,numberV (r.drop 1)=x:=⟨_,rfl⟩
      go_wp2_with fail
      (with_reducible refine (number_v B5.out.pa k b2 r2 hn2).mono ?_)
      rintro e w6 ⟨rfl,hP,hC⟩
      have B6:=Lib.hid (B5.out.step hpg hrg hOK.out hP hC)
      have W6:Hid (w.heap.size+2≤w6.heap.size):=Lib.hid (Nat.le_trans W5.out hC.size)
      clear hP hC
      cases b2 with
      | true =>
       have hm:mostV m r=((k:Int),r2):=by unfold mostV;rw [hc,hn2];rfl
       have hV:R=none:=by have:=HT.out;rw [bounds_eq hn hm,if_neg (fun h=>by cases h.1)] at this;exact this.symm
       go_wp2_with fail
       (with_reducible refine (must_no _).mono ?_)
       rintro e w9 ⟨rfl,rfl⟩
       subst hV
       exact ⟨rfl,rfl,B6.out.chg⟩
      | false =>
       have hm:mostV m r=(-1,r2):=by unfold mostV;rw [hc,hn2];rfl
       have hV:R=none:=by have:=HT.out;rw [bounds_eq hn hm,if_neg (fun h=>by cases h.1)] at this;exact this.symm
       go_wp2_with fail
       (with_reducible refine (must_no _).mono ?_)
       rintro e w9 ⟨rfl,rfl⟩
       subst hV
       exact ⟨rfl,rfl,B6.out.chg⟩
    | true =>
     go_wp2_with fail
     cases hc:ahead [44] r with
     | false =>
      (with_reducible refine (take_no B4.out.pa [44] hc ⟨#[44]⟩ rfl).mono ?_)
      rintro e w5 ⟨rfl,hP,hC⟩
      have B5:=Lib.hid (B4.out.step hpg hrg hOK.out hP hC)
      have W5:Hid (w.heap.size+2≤w5.heap.size):=Lib.hid (Nat.le_trans W4.out hC.size)
      clear hP hC
      have hm:mostV m r=((m:Int),r):=by unfold mostV;rw [hc];rfl
      cases hrb:ahead [92,125] r with
      | false =>
       go_wp2_with fail
       (with_reducible refine (take_no B5.out.pa [92,125] hrb ⟨#[92,125]⟩ rfl).mono ?_)
       rintro e w8 ⟨rfl,hP,hC⟩
       have B8:=Lib.hid (B5.out.step hpg hrg hOK.out hP hC)
       have W8:Hid (w.heap.size+2≤w8.heap.size):=Lib.hid (Nat.le_trans W5.out hC.size)
       clear hP hC
       have hV:R=none:=by have:=HT.out;rw [bounds_eq hn hm,if_neg (fun h=>by rw [hrb] at h;cases h.2.1)] at this;exact this.symm
       go_wp2_with fail
       (with_reducible refine (must_no _).mono ?_)
       rintro e w9 ⟨rfl,rfl⟩
       subst hV
       exact ⟨rfl,rfl,B8.out.chg⟩
      | true =>
       have hle:=ahead_len hrb
       go_wp2_with fail
       (with_reducible refine (take_yes B5.out.pa [92,125] hrb ⟨#[92,125]⟩ rfl 2 rfl).mono ?_)
       rintro e w8 ⟨rfl,hP,hC⟩
       have B8:=Lib.hid (B5.out.step hpg hrg hOK.out hP hC)
       have W8:Hid (w.heap.size+2≤w8.heap.size):=Lib.hid (Nat.le_trans W5.out hC.size)
       clear hP hC
       by_cases c1:m≤255
       ·have d1:decide ((m:Int)≤255)=true:=by rw [decide_eq_true_eq];omega
        go_wp2_with fail
        (with_reducible refine (must_ok _).mono ?_)
        rintro e w7 ⟨rfl,rfl⟩
        have W2:=W8
        have hb2:=B8.out.box
        have ip2:=B8.out.pin
        by_cases hp:t.parts+1≤200
        ·have hV:Hid (timesF (timesN m (m:Int),Fr.one y.1 y.2) { t with left:=(r).drop 2,parts:=t.parts+1 }=R):=Lib.hid (by have:=HT.out;rw [bounds_eq hn hm,if_pos (by refine ⟨rfl,hrb,by omega,by omega,?_⟩;first | (left;omega) | (right;omega))] at this;simp only [Option.bind_some,node1,if_pos hp] at this;exact this)
         clear HT
         go_wp2_with fail
         have hPa:=B8.out.pa.grows ((Grows.refl _).alloc (.cells (ndC y.1 (.slice B y.2.len cb)) 95))
         (with_reducible refine (node_ok hPa hp 8 0 noSet 0 m (m:Int) (some ⟨w8.heap.size,0,none⟩) 1 1).mono ?_)
         rintro e w9 ⟨rfl,hP,hC⟩
         have hw2:=W2.out
         have B9:=B8.out.wrap hP hC hpg hrg hpr rfl hpK.out hOK2.out (hNew.out _ (by omega)) (by have:=HPB.out;omega) (timesN m (m:Int)) (c:=ndA 8 0 noSet 0 m (m:Int) (.slice (some ⟨w8.heap.size,0,none⟩) 1 1)) rfl
         have W9:Hid (w.heap.size+2≤w9.heap.size):=Lib.hid (by have h9:=hC.size;simp at h9;omega)
         have p9:blk w9 pb=ndC y.1 (.slice B y.2.len cb):=(chg_blk hC (by have:=B8.out.pin;unfold InHeap at this;simp;omega) hpg).trans ((blk_alloc_past _ _ _ B8.out.pin).trans B8.out.box)
         have i9:InHeap pb w9:=Blk.inHeap p9 (by simp [ndA_size])
         have H9:=Lib.hid B9
         have hl9:Hid (((r).drop 2).length < t.left.length):=Lib.hid (by have h1:=mostV_len m r;rw [hm] at h1;have h2:=dropWhile_le (t.left.drop 2);have h3:r=(t.left.drop 2).dropWhile isDig:=(congrArg (fun x=>x.2.2) hn).symm;rw [← h3] at h2;simp at h1 h2 hle hsl ⊢;omega)
         clear hP hC B9 B8
         go_wp2_with fail
         go_roundg (((r).drop 2).length+1)
         case measure=>have:=HQ.out;have:=hl9.out;omega
         case rel=>exact ⟨(timesN m (m:Int),Fr.one y.1 y.2),{ t with left:=(r).drop 2,parts:=t.parts+1 },some ⟨w8.heap.size,0,none⟩,1,rfl,hV.out,by have:=W9.out;simpa using this,H9.out⟩
        ·have hV:R=none:=by have:=HT.out;rw [bounds_eq hn hm,if_pos (by refine ⟨rfl,hrb,by omega,by omega,?_⟩;first | (left;omega) | (right;omega))] at this;simp only [Option.bind_some,Option.bind_none,node1,if_neg hp] at this;exact this.symm
         clear HT
         go_wp2_with fail
         have hPa:=B8.out.pa.grows ((Grows.refl _).alloc (.cells (ndC y.1 (.slice B y.2.len cb)) 95))
         (with_reducible refine (node_no hPa hp _ (ndA_one_slice _ _ _ _ _ _ _ _ _) (ndA_size _ _ _ _ _ _ _)).mono ?_)
         rintro e w9 ⟨rfl,hC⟩
         subst hV
         exact ⟨rfl,rfl,(B8.out.chg.trans (Chg.of_grows ((Grows.refl _).alloc _))).trans hC⟩
       ·have d1:decide ((m:Int)≤255)=false:=by rw [decide_eq_false_iff_not];omega
        have hV:R=none:=by have:=HT.out;rw [bounds_eq hn hm,if_neg (fun h=>by obtain ⟨-,-,h3,h4,h5⟩:=h;omega)] at this;exact this.symm
        go_wp2_with fail
        (with_reducible refine (must_no _).mono ?_)
        rintro e w9 ⟨rfl,rfl⟩
        subst hV
        exact ⟨rfl,rfl,B8.out.chg⟩
     | true =>
      (with_reducible refine (take_yes B4.out.pa [44] hc ⟨#[44]⟩ rfl 1 rfl).mono ?_)
      rintro e w5 ⟨rfl,hP,hC⟩
      have B5:=Lib.hid (B4.out.step hpg hrg hOK.out hP hC)
      have W5:Hid (w.heap.size+2≤w5.heap.size):=Lib.hid (Nat.le_trans W4.out hC.size)
      clear hP hC
      obtain ⟨⟨k,b2,r2⟩,hn2⟩:∃ x,numberV (r.drop 1)=x:=⟨_,rfl⟩
      go_wp2_with fail
      (with_reducible refine (number_v B5.out.pa k b2 r2 hn2).mono ?_)
      rintro e w6 ⟨rfl,hP,hC⟩
      have B6:=Lib.hid (B5.out.step hpg hrg hOK.out hP hC)
      have W6:Hid (w.heap.size+2≤w6.heap.size):=Lib.hid (Nat.le_trans W5.out hC.size)
      clear hP hC
      cases b2 with
      | true =>
       have hm:mostV m r=((k:Int),r2):=by unfold mostV;rw [hc,hn2];rfl
       cases hrb:ahead [92,125] r2 with
       | false =>
        go_wp2_with fail
        (with_reducible refine (take_no B6.out.pa [92,125] hrb ⟨#[92,125]⟩ rfl).mono ?_)
        rintro e w8 ⟨rfl,hP,hC⟩
        have B8:=Lib.hid (B6.out.step hpg hrg hOK.out hP hC)
        have W8:Hid (w.heap.size+2≤w8.heap.size):=Lib.hid (Nat.le_trans W6.out hC.size)
        clear hP hC
        have hV:R=none:=by have:=HT.out;rw [bounds_eq hn hm,if_neg (fun h=>by rw [hrb] at h;cases h.2.1)] at this;exact this.symm
        go_wp2_with fail
        (with_reducible refine (must_no _).mono ?_)
        rintro e w9 ⟨rfl,rfl⟩
        subst hV
        exact ⟨rfl,rfl,B8.out.chg⟩
       | true =>
        have hle:=ahead_len hrb
        go_wp2_with fail
        (with_reducible refine (take_yes B6.out.pa [92,125] hrb ⟨#[92,125]⟩ rfl 2 rfl).mono ?_)
        rintro e w8 ⟨rfl,hP,hC⟩
        have B8:=Lib.hid (B6.out.step hpg hrg hOK.out hP hC)
        have W8:Hid (w.heap.size+2≤w8.heap.size):=Lib.hid (Nat.le_trans W6.out hC.size)
        clear hP hC
        by_cases c1:m≤255
        ·have d1:decide ((m:Int)≤255)=true:=by rw [decide_eq_true_eq];omega
         by_cases c2:k≤255
         ·have d2:decide ((k:Int)≤255)=true:=by rw [decide_eq_true_eq];omega
          by_cases c4:m≤k
          ·have d4:decide ((m:Int)≤(k:Int))=true:=by rw [decide_eq_true_eq];omega
           go_wp2_with fail
           (with_reducible refine (must_ok _).mono ?_)
           rintro e w7 ⟨rfl,rfl⟩
           have W2:=W8
           have hb2:=B8.out.box
           have ip2:=B8.out.pin
           by_cases hp:t.parts+1≤200
           ·have hV:Hid (timesF (timesN m (k:Int),Fr.one y.1 y.2) { t with left:=(r2).drop 2,parts:=t.parts+1 }=R):=Lib.hid (by have:=HT.out;rw [bounds_eq hn hm,if_pos (by refine ⟨rfl,hrb,by omega,by omega,?_⟩;first | (left;omega) | (right;omega))] at this;simp only [Option.bind_some,node1,if_pos hp] at this;exact this)
            clear HT
            go_wp2_with fail
            have hPa:=B8.out.pa.grows ((Grows.refl _).alloc (.cells (ndC y.1 (.slice B y.2.len cb)) 95))
            (with_reducible refine (node_ok hPa hp 8 0 noSet 0 m (k:Int) (some ⟨w8.heap.size,0,none⟩) 1 1).mono ?_)
            rintro e w9 ⟨rfl,hP,hC⟩
            have hw2:=W2.out
            have B9:=B8.out.wrap hP hC hpg hrg hpr rfl hpK.out hOK2.out (hNew.out _ (by omega)) (by have:=HPB.out;omega) (timesN m (k:Int)) (c:=ndA 8 0 noSet 0 m (k:Int) (.slice (some ⟨w8.heap.size,0,none⟩) 1 1)) rfl
            have W9:Hid (w.heap.size+2≤w9.heap.size):=Lib.hid (by have h9:=hC.size;simp at h9;omega)
            have p9:blk w9 pb=ndC y.1 (.slice B y.2.len cb):=(chg_blk hC (by have:=B8.out.pin;unfold InHeap at this;simp;omega) hpg).trans ((blk_alloc_past _ _ _ B8.out.pin).trans B8.out.box)
            have i9:InHeap pb w9:=Blk.inHeap p9 (by simp [ndA_size])
            have H9:=Lib.hid B9
            have hl9:Hid (((r2).drop 2).length < t.left.length):=Lib.hid (by have h1:=mostV_len m r;rw [hm] at h1;have h2:=dropWhile_le (t.left.drop 2);have h3:r=(t.left.drop 2).dropWhile isDig:=(congrArg (fun x=>x.2.2) hn).symm;rw [← h3] at h2;simp at h1 h2 hle hsl ⊢;omega)
            clear hP hC B9 B8
            go_wp2_with fail
            go_roundg (((r2).drop 2).length+1)
            case measure=>have:=HQ.out;have:=hl9.out;omega
            case rel=>exact ⟨(timesN m (k:Int),Fr.one y.1 y.2),{ t with left:=(r2).drop 2,parts:=t.parts+1 },some ⟨w8.heap.size,0,none⟩,1,rfl,hV.out,by have:=W9.out;simpa using this,H9.out⟩
           ·have hV:R=none:=by have:=HT.out;rw [bounds_eq hn hm,if_pos (by refine ⟨rfl,hrb,by omega,by omega,?_⟩;first | (left;omega) | (right;omega))] at this;simp only [Option.bind_some,Option.bind_none,node1,if_neg hp] at this;exact this.symm
            clear HT
            go_wp2_with fail
            have hPa:=B8.out.pa.grows ((Grows.refl _).alloc (.cells (ndC y.1 (.slice B y.2.len cb)) 95))
            (with_reducible refine (node_no hPa hp _ (ndA_one_slice _ _ _ _ _ _ _ _ _) (ndA_size _ _ _ _ _ _ _)).mono ?_)
            rintro e w9 ⟨rfl,hC⟩
            subst hV
            exact ⟨rfl,rfl,(B8.out.chg.trans (Chg.of_grows ((Grows.refl _).alloc _))).trans hC⟩
          ·have d4:decide ((m:Int)≤(k:Int))=false:=by rw [decide_eq_false_iff_not];omega
           have d5:decide ((k:Int) < 0)=false:=by rw [decide_eq_false_iff_not];omega
           have hV:R=none:=by have:=HT.out;rw [bounds_eq hn hm,if_neg (fun h=>by obtain ⟨-,-,h3,h4,h5⟩:=h;omega)] at this;exact this.symm
           go_wp2_with fail
           (with_reducible refine (must_no _).mono ?_)
           rintro e w9 ⟨rfl,rfl⟩
           subst hV
           exact ⟨rfl,rfl,B8.out.chg⟩
         ·have d2:decide ((k:Int)≤255)=false:=by rw [decide_eq_false_iff_not];omega
          have hV:R=none:=by have:=HT.out;rw [bounds_eq hn hm,if_neg (fun h=>by obtain ⟨-,-,h3,h4,h5⟩:=h;omega)] at this;exact this.symm
          go_wp2_with fail
          (with_reducible refine (must_no _).mono ?_)
          rintro e w9 ⟨rfl,rfl⟩
          subst hV
          exact ⟨rfl,rfl,B8.out.chg⟩
        ·have d1:decide ((m:Int)≤255)=false:=by rw [decide_eq_false_iff_not];omega
         have hV:R=none:=by have:=HT.out;rw [bounds_eq hn hm,if_neg (fun h=>by obtain ⟨-,-,h3,h4,h5⟩:=h;omega)] at this;exact this.symm
         go_wp2_with fail
         (with_reducible refine (must_no _).mono ?_)
         rintro e w9 ⟨rfl,rfl⟩
         subst hV
         exact ⟨rfl,rfl,B8.out.chg⟩
      | false =>
       have hm:mostV m r=(-1,r2):=by unfold mostV;rw [hc,hn2];rfl
       cases hrb:ahead [92,125] r2 with
       | false =>
        go_wp2_with fail
        (with_reducible refine (take_no B6.out.pa [92,125] hrb ⟨#[92,125]⟩ rfl).mono ?_)
        rintro e w8 ⟨rfl,hP,hC⟩
        have B8:=Lib.hid (B6.out.step hpg hrg hOK.out hP hC)
        have W8:Hid (w.heap.size+2≤w8.heap.size):=Lib.hid (Nat.le_trans W6.out hC.size)
        clear hP hC
        have hV:R=none:=by have:=HT.out;rw [bounds_eq hn hm,if_neg (fun h=>by rw [hrb] at h;cases h.2.1)] at this;exact this.symm
        go_wp2_with fail
        (with_reducible refine (must_no _).mono ?_)
        rintro e w9 ⟨rfl,rfl⟩
        subst hV
        exact ⟨rfl,rfl,B8.out.chg⟩
       | true =>
        have hle:=ahead_len hrb
        go_wp2_with fail
        (with_reducible refine (take_yes B6.out.pa [92,125] hrb ⟨#[92,125]⟩ rfl 2 rfl).mono ?_)
        rintro e w8 ⟨rfl,hP,hC⟩
        have B8:=Lib.hid (B6.out.step hpg hrg hOK.out hP hC)
        have W8:Hid (w.heap.size+2≤w8.heap.size):=Lib.hid (Nat.le_trans W6.out hC.size)
        clear hP hC
        by_cases c1:m≤255
        ·have d1:decide ((m:Int)≤255)=true:=by rw [decide_eq_true_eq];omega
         go_wp2_with fail
         (with_reducible refine (must_ok _).mono ?_)
         rintro e w7 ⟨rfl,rfl⟩
         have W2:=W8
         have hb2:=B8.out.box
         have ip2:=B8.out.pin
         by_cases hp:t.parts+1≤200
         ·have hV:Hid (timesF (timesN m (-1),Fr.one y.1 y.2) { t with left:=(r2).drop 2,parts:=t.parts+1 }=R):=Lib.hid (by have:=HT.out;rw [bounds_eq hn hm,if_pos (by refine ⟨rfl,hrb,by omega,by omega,?_⟩;first | (left;omega) | (right;omega))] at this;simp only [Option.bind_some,node1,if_pos hp] at this;exact this)
          clear HT
          go_wp2_with fail
          have hPa:=B8.out.pa.grows ((Grows.refl _).alloc (.cells (ndC y.1 (.slice B y.2.len cb)) 95))
          (with_reducible refine (node_ok hPa hp 8 0 noSet 0 m (-1) (some ⟨w8.heap.size,0,none⟩) 1 1).mono ?_)
          rintro e w9 ⟨rfl,hP,hC⟩
          have hw2:=W2.out
          have B9:=B8.out.wrap hP hC hpg hrg hpr rfl hpK.out hOK2.out (hNew.out _ (by omega)) (by have:=HPB.out;omega) (timesN m (-1)) (c:=ndA 8 0 noSet 0 m (-1) (.slice (some ⟨w8.heap.size,0,none⟩) 1 1)) rfl
          have W9:Hid (w.heap.size+2≤w9.heap.size):=Lib.hid (by have h9:=hC.size;simp at h9;omega)
          have p9:blk w9 pb=ndC y.1 (.slice B y.2.len cb):=(chg_blk hC (by have:=B8.out.pin;unfold InHeap at this;simp;omega) hpg).trans ((blk_alloc_past _ _ _ B8.out.pin).trans B8.out.box)
          have i9:InHeap pb w9:=Blk.inHeap p9 (by simp [ndA_size])
          have H9:=Lib.hid B9
          have hl9:Hid (((r2).drop 2).length < t.left.length):=Lib.hid (by have h1:=mostV_len m r;rw [hm] at h1;have h2:=dropWhile_le (t.left.drop 2);have h3:r=(t.left.drop 2).dropWhile isDig:=(congrArg (fun x=>x.2.2) hn).symm;rw [← h3] at h2;simp at h1 h2 hle hsl ⊢;omega)
          clear hP hC B9 B8
          go_wp2_with fail
          go_roundg (((r2).drop 2).length+1)
          case measure=>have:=HQ.out;have:=hl9.out;omega
          case rel=>exact ⟨(timesN m (-1),Fr.one y.1 y.2),{ t with left:=(r2).drop 2,parts:=t.parts+1 },some ⟨w8.heap.size,0,none⟩,1,rfl,hV.out,by have:=W9.out;simpa using this,H9.out⟩
         ·have hV:R=none:=by have:=HT.out;rw [bounds_eq hn hm,if_pos (by refine ⟨rfl,hrb,by omega,by omega,?_⟩;first | (left;omega) | (right;omega))] at this;simp only [Option.bind_some,Option.bind_none,node1,if_neg hp] at this;exact this.symm
          clear HT
          go_wp2_with fail
          have hPa:=B8.out.pa.grows ((Grows.refl _).alloc (.cells (ndC y.1 (.slice B y.2.len cb)) 95))
          (with_reducible refine (node_no hPa hp _ (ndA_one_slice _ _ _ _ _ _ _ _ _) (ndA_size _ _ _ _ _ _ _)).mono ?_)
          rintro e w9 ⟨rfl,hC⟩
          subst hV
          exact ⟨rfl,rfl,(B8.out.chg.trans (Chg.of_grows ((Grows.refl _).alloc _))).trans hC⟩
        ·have d1:decide ((m:Int)≤255)=false:=by rw [decide_eq_false_iff_not];omega
         have hV:R=none:=by have:=HT.out;rw [bounds_eq hn hm,if_neg (fun h=>by obtain ⟨-,-,h3,h4,h5⟩:=h;omega)] at this;exact this.symm
         go_wp2_with fail
         (with_reducible refine (must_no _).mono ?_)
         rintro e w9 ⟨rfl,rfl⟩
         subst hV
         exact ⟨rfl,rfl,B8.out.chg⟩
   | false =>
    rw [hsb] at HT
    go_wp2_with fail
    (with_reducible refine (take_no B2.out.pa [92,123] hsb ⟨#[92,123]⟩ rfl).mono ?_)
    rintro e w3 ⟨rfl,hP,hC⟩
    have B3:=Lib.hid (B2.out.step hpg hrg hOK.out hP hC)
    have hb3:=B3.out.box
    have hr3:=B3.out.res
    have ip3:=B3.out.pin
    have ir3:=B3.out.rin
    clear hP hC B2 hsb
    go_wp2_with fail
    obtain ⟨d1,d2,d3⟩:Pa base (setBlk w3 rb (ndC y.1 (.slice B y.2.len cb))) g tv ov t∧Chg (fun b=>b=g) w (setBlk w3 rb (ndC y.1 (.slice B y.2.len cb)))∧FrAt (fun b=>ok b∨w.heap.size≤b) (setBlk w3 rb (ndC y.1 (.slice B y.2.len cb))) B cb y.2:=by
     have hcs:Chg (fun b=>b=rb) w3 (setBlk w3 rb (ndC y.1 (.slice B y.2.len cb))):=chg_row
     exact ⟨B3.out.pa.chg hcs fun b hb e=>hrK.out (e ▸ hb),chg_late B3.out.chg hcs fun b hb e=>by have:=HRB.out;omega,(B3.out.kids.chg hcs fun b _ h=>(hOut.out b h).2).mono fun b _ h=>(hOut.out b h).1⟩
    have hV:R=some (y,t):=by have:=HT.out;simp only [Bool.false_eq_true,if_false] at this;exact this.symm
    rw [hV]
    exact bodyPost_ret (results_node 4 rfl rfl (Blk.get _ hr3 (by simp [ndA_size])) (ndA_size _ _ _ _ _ _ _)) rfl ⟨_,rfl,d1,d2,B,cb,rfl,d3⟩
end
end Go.Proofs.YtnjagecmhdagkaaGreatDoor
