/-
 Several texts of the proof: BreTop, Own, MatN, MatM.
-/
import Derived.Test.YtnjagecmhdagkaaGreatDoorPk15
import Derived.Test.YtnjagecmhdagkaaGreatDoorPk08
import Derived.Test.YtnjagecmhdagkaaGreatDoorPk00
import Derived.Deep.AppendLies
import Derived.Test.YtnjagecmhdagkaaGreatDoorPk25
set_option linter.unusedSimpArgs false
set_option linter.unusedVariables false
set_option maxRecDepth 3000
/-
  Patterns: a tree of one's own, that may be written; what is written into its nodes' kinds.
-/
namespace Go.Proofs.YtnjagecmhdagkaaGreatDoor
open Go.RowKit
def Live (lo:Nat) (w:World) (b:Nat):Prop:=lo≤b∧0 < (blk w b).size
def FrTop (lo:Nat) (w:World) (A:Option Addr) (cap:Nat) (f:Fr):Prop:=∃ xs,Sl (Live lo w) w A cap f.len xs∧FrRow (fun b=>Live lo w b∧∀ a,A=some a→¬ a.block=b) w f xs
theorem FrTop.at_ {lo:Nat} {w:World} {A:Option Addr} {cap:Nat} {f:Fr} (h:FrTop lo w A cap f):FrAt (Live lo w) w A cap f:=by
 obtain ⟨xs,h1,h2⟩:=h
 exact ⟨xs,h1,h2.mono fun b _ h=>h.1⟩
def Twin3 (w:World) (f:Fr) (e:Ending) (w':World):Prop:=∃ A cap,e=.returned (.slice A f.len cap)∧FrTop w.heap.size w' A cap f∧Grows w w'
theorem twin3_nil {w w':World} {e:Ending} (h:Twin2 w .nil e w'):Twin3 w .nil e w':=by
 obtain ⟨A,cap,rfl,⟨xs,h1,h2⟩,hg⟩:=h
 exact ⟨A,cap,rfl,⟨xs,⟨h1.rd,h1.nil,h1.le,h1.cap63,fun h=>absurd h (Nat.lt_irrefl 0)⟩,h2⟩,hg⟩
structure TwinAt3 (w wr:World) (g:Nat) (f:Fr) (i:Nat) (a c:Fr) (xs ys tl:List Value):Prop where
 at_:TwinAt w wr g f i a c xs ys tl
 live:FrRow (fun b=>Live w.heap.size wr b∧b≠g) wr a xs
theorem live_cell {lo g o b:Nat} {w:World} {v:Value} (h:Live lo w b) (hb:b < w.heap.size) (hne:b≠g):Live lo (w.setCell ⟨g,o,none⟩ v) b :=
 ⟨h.1,by rw [chg_blk (chg_cell w g o v) hb hne];exact h.2⟩
theorem live_grows {lo b:Nat} {w w':World} (h:Live lo w b) (hb:b < w.heap.size) (hg:Grows w w'):Live lo w' b :=
 ⟨h.1,by obtain ⟨m,rfl⟩:=hg;rw [blk_more _ _ _ hb];exact h.2⟩
theorem TwinAt3.step {w wr w2:World} {g i:Nat} {f a:Fr} {xs tl zs:List Value} {x:NdV} {kids rest:Fr} {A A':Option Addr} {cap cap':Nat}
  (h:TwinAt3 w wr g f i a (.cons x kids rest) xs ((ndC x (.slice A kids.len cap)).toList++zs) tl) (hz:FrRow (fun b=>b < w.heap.size) wr rest zs)
  (hg:Grows wr w2) (hk:FrTop wr.heap.size w2 A' cap' kids) (o:Nat) (ho:o=i*262+261) :
  TwinAt3 w (w2.setCell ⟨g,o,none⟩ (.slice A' kids.len cap')) g f (i+1) (a.app (.cons x kids .nil)) rest (xs++(ndC x (.slice A' kids.len cap')).toList) zs tl:=by
 have hz1:0 < (blk wr g).size:=by rw [h.at_.cells];simp [ndA_size];omega
 have ig:=Blk.inHeap (c:=blk wr g) rfl hz1
 have hc:=chg_cell w2 g o (.slice A' kids.len cap')
 have hs:=hg.below.size
 have hk2:FrAt (fun b=>wr.heap.size≤b) w2 A' cap' kids:=hk.at_.mono fun b _ h=>h.1
 refine ⟨h.at_.step hz hg hk2 o ho,FrRow.app ?_ ?_⟩
 ·exact (((h.live.mono (ok2:=fun b=>Live w.heap.size (w2.setCell ⟨g,o,none⟩ (.slice A' kids.len cap')) b∧b≠g) fun b hb k=>⟨live_cell (live_grows k.1 hb hg) (by omega) k.2,k.2⟩).chg (Chg.of_grows (p:=fun _=>False) hg) fun _ _ _ k=>k)).chg hc fun b _ hb=>hb.2
 ·obtain ⟨ys,h1,h2⟩:=(hk.at_.mono (ok2:=fun b=>Live w.heap.size (w2.setCell ⟨g,o,none⟩ (.slice A' kids.len cap')) b∧b≠g) fun b hb k=>by
   have hne:b≠g:=fun e=>by subst e;exact absurd ig (Nat.not_lt.2 k.1)
   exact ⟨live_cell ⟨Nat.le_trans h.at_.grown.below.size k.1,k.2⟩ hb hne,hne⟩).chg hc fun b _ hb=>hb.2
  exact ⟨A',cap',ys,[],by simp,h1,h2,rfl⟩
theorem TwinAt3.head {w wr:World} {g i:Nat} {f a:Fr} {xs ys tl:List Value} {x:NdV} {kids rest:Fr} (h:TwinAt3 w wr g f i a (.cons x kids rest) xs ys tl) :
  ∃ A cap yk zs,TwinAt3 w wr g f i a (.cons x kids rest) xs ((ndC x (.slice A kids.len cap)).toList++zs) tl∧Sl (fun b=>b < w.heap.size) wr A cap kids.len yk∧FrRow (fun b=>b < w.heap.size) wr kids yk∧FrRow (fun b=>b < w.heap.size) wr rest zs:=by
 obtain ⟨A,cap,yk,zs,h0,h1,h2,h3⟩:=h.at_.head
 exact ⟨A,cap,yk,zs,⟨h0,h.live⟩,h1,h2,h3⟩
theorem TwinAt3.fin {w wr:World} {g i cap:Nat} {f a:Fr} {xs ys tl:List Value} (h:TwinAt3 w wr g f i a .nil xs ys tl) (hp:0 < f.len) (h1:f.len≤cap) (h2:cap≤maxLen):FrTop w.heap.size wr (some ⟨g,0,none⟩) cap f:=by
 obtain ⟨⟨e,hl,hc,hlow,hd,ht,hg⟩,hv⟩:=h
 rw [Fr.app_nil] at e
 subst e
 have hx:=hd.len
 have ht:ys=[]:=ht
 subst ht
 have hz:0 < (blk wr g).size:=by rw [hc];simp;omega
 refine ⟨xs,⟨⟨hx,fun _=>⟨g,0,rfl,Blk.inHeap (c:=blk wr g) rfl hz,fun j u hu=>?_⟩⟩,(fun e=>by cases e),h1,by unfold maxLen at h2;omega,fun _ a e=>by cases e;exact ⟨hlow,hz⟩⟩,hv.mono fun b _ hb=>⟨hb.1,fun a e=>by cases e;exact fun e=>hb.2 e.symm⟩⟩
 rw [Nat.zero_add,Blk.cell hc (by rw [← hc];exact hz),List.getElem?_toArray,List.append_nil,List.getElem?_append_left (List.getElem?_eq_some_iff.1 hu).1]
 exact hu
set_option maxHeartbeats 1000000 in
theorem twin3_any:∀ (m:Nat) (f:Fr) (ok:Nat→Prop) (A:Option Addr) (cap:Nat) (w:World),f.size≤m→f.size≤1000000→FrAt ok w A cap f →
  Calls Tryz.prog 39 #[.slice A f.len cap] w (Twin3 w f):=by
 intro m
 induction m with
 | zero =>
  intro f ok A cap w hm hmx hA
  obtain ⟨xs0,hs,hr⟩:=hA
  have hz:f.len=0:=by have:=f.len_size;omega
  obtain rfl:=Fr.nil_of_len hz
  cases A with
  | none=>obtain ⟨_,rfl⟩:=hs.nil rfl;exact (twin_none w).mono fun _ _ h=>twin3_nil h
  | some a=>exact (twin_zero a cap w).mono fun _ _ h=>twin3_nil h
 | succ m ih =>
  intro f ok A cap w hm hmx hA
  obtain ⟨xs0,hs,hr⟩:=hA
  rcases Nat.eq_zero_or_pos f.len with hz | hp
  ·obtain rfl:=Fr.nil_of_len hz
   cases A with
   | none=>obtain ⟨_,rfl⟩:=hs.nil rfl;exact (twin_none w).mono fun _ _ h=>twin3_nil h
   | some a=>exact (twin_zero a cap w).mono fun _ _ h=>twin3_nil h
  cases A with
  | none=>have:=(hs.nil rfl).1;omega
  | some a =>
   have hlen:=f.len_size
   have hclone:=cloneNd a cap f.len xs0 w hs.rd (by omega) hp hr.one
   go_enter Tryz.func39,Tryz.ntmps39
   go_wp2_with fail
   (with_reducible refine hclone.mono ?_)
   rintro e w1 ⟨v,rfl,hown,hg1⟩
   obtain ⟨hl,⟨rfl,h0⟩ | ⟨g,cap1,cur,rfl,hb,hh,h1,h2,h3,h4⟩⟩:=hown
   ·omega
   have T0:TwinAt3 w w1 g f 0 .nil f [] xs0 (cur.toList.drop (f.len*262)):=⟨⟨rfl,rfl,by
    unfold blk;rw [hh];simp only [List.nil_append];rw [← h4,List.take_append_drop,Array.toArray_toList],hb,rfl,
    (hr.mono fun b hk _=>hk).chg (Chg.of_grows (p:=fun _=>False) hg1) (fun _ _ _ k=>k),hg1⟩,rfl⟩
   generalize cur.toList.drop (f.len*262)=tl at T0
   clear hclone
   go_wp2_with fail
   go_loopg [3,8] f.len (fun q _ v8 wr=>∃ (i:Nat) (a c:Fr) (xs ys:List Value),q+i=f.len∧v8=.int .i64 i∧TwinAt3 w wr g f i a c xs ys tl)
   case atStart=>exact ⟨0,_,_,_,_,by omega,rfl,T0⟩
   case round =>
    obtain ⟨i,a1,c,xs,ys,hq,rfl,T⟩:=hrel
    cases c with
    | nil =>
     have hi:i=f.len:=by rw [T.at_.all,Fr.len_app,T.at_.len];rfl
     subst hi
     have T:=Lib.hid T
     go_wp2_with fail
     go_ret
     exact ⟨_,_,rfl,T.out.fin hp h1 h2,T.out.at_.grown⟩
    | cons x kids rest =>
     have hil:i < f.len:=by rw [T.at_.all,Fr.len_app,T.at_.len];simp [Fr.len]
     have hsz:kids.size+1≤f.size:=by rw [T.at_.all,Fr.size_app];simp [Fr.size];omega
     have T9:=T.head
     clear T
     clear ys
     obtain ⟨Ak,capk,ysk,zs,T,hk1,hk2,hk3⟩:=T9
     have hz1:0 < (blk wr g).size:=by rw [T.at_.cells];simp [ndA_size];omega
     have ig:InHeap g wr:=Blk.inHeap (c:=blk wr g) rfl hz1
     have hxl:=T.at_.done.len
     rw [T.at_.len] at hxl
     have hcell:wr.cell? ⟨g,i*262+261,none⟩=some (.slice Ak kids.len capk):=by
      rw [Blk.cell T.at_.cells (by rw [← T.at_.cells];exact hz1),List.getElem?_toArray]
      exact get_kids x _ xs zs tl _ (by omega)
     have TT:=Lib.hid T
     clear T
     have hk3:=Lib.hid hk3
     have hcall:=ih kids _ Ak capk wr (by omega) (by omega) ⟨ysk,hk1,hk2⟩
     clear hk1 hk2
     go_wp2_with fail
     (with_reducible refine hcall.mono ?_)
     rintro e w2 ⟨A2,cap2,rfl,hf2,hg2⟩
     have ig2:InHeap g w2:=Nat.lt_of_lt_of_le ig hg2.below.size
     have T2:=Lib.hid (TT.out.step hk3.out hg2 hf2 (i*262+261) rfl)
     have hcell2:w2.cell? ⟨g,i*262+261,none⟩=some (.slice Ak kids.len capk):=by
      obtain ⟨m,rfl⟩:=hg2;rw [cell_more _ _ _ ig];exact hcell
     have hfr2:∀ k,w2.frozen? ⟨g,k,none⟩=false:=fun k=>by
      have:blk w2 g=blk wr g:=by obtain ⟨m,rfl⟩:=hg2;exact blk_more _ _ _ ig
      exact Blk.free this hz1 k
     clear hf2 hg2 hcall
     go_wp2_with fail
     go_roundg (gk - 1)
     case measure=>omega
     case rel=>exact ⟨i+1,_,_,_,_,by omega,rfl,T2.out⟩
theorem tree3_any {ok:Nat→Prop} {w:World} {g:Nat} {f:Fr} {t:PS} (h:ReAt ok w g f t) (hf:f.size≤1000000) :
  Calls Tryz.prog 24 #[.pointer (some ⟨g,1,none⟩)] w (Twin3 w f):=by
 obtain ⟨A,cap,h1,h2⟩:=h.tree
 have ig:InHeap g w:=World.block_lt_of_cell? _ _ h1
 have hcall:=twin3_any f.size f ok A cap w (Nat.le_refl _) hf h2
 clear h h2
 go_enter Tryz.func24,Tryz.ntmps24
 go_wp2_with fail
 (with_reducible refine hcall.mono ?_)
 rintro e w1 ⟨A2,cap2,rfl,hf2,hg2⟩
 have hf2:=Lib.hid hf2
 clear hcall
 go_wp2_with fail
 go_ret
 exact ⟨A2,cap2,rfl,hf2.out,hg2⟩
theorem FrTop.grows {lo:Nat} {w w':World} {A:Option Addr} {cap:Nat} {f:Fr} (h:FrTop lo w A cap f) (hg:Grows w w'):FrTop lo w' A cap f:=by
 obtain ⟨xs,h1,h2⟩:=h
 have hc:Chg (fun _=>False) w w':=Chg.of_grows hg
 exact ⟨xs,(h1.mono (ok2:=Live lo w') fun b hb k=>live_grows k hb hg).chg hc (fun _ _ _ k=>k),(h2.mono (ok2:=fun b=>Live lo w' b∧∀ a,A=some a→¬ a.block=b) fun b hb k=>⟨live_grows k.1 hb hg,k.2⟩).chg hc (fun _ _ _ k=>k)⟩
theorem FrAt.kind {ok:Nat→Prop} {w:World} {A:Option Addr} {cap:Nat} {f:Fr} (h:FrAt ok w A cap f) {k:Nat} (hk:k < f.len) {b o:Nat} (hA:A=Option.some ⟨b,o,none⟩):ok b∧∃ u,w.cell? ⟨b,o+k*262,none⟩=Option.some u:=by
 obtain ⟨xs,h1,h2⟩:=h
 refine ⟨h1.ok (by omega) _ hA,?_⟩
 obtain ⟨b',o',e,_,hc⟩:=h1.rd.2 (by omega)
 have e2:(⟨b,o,none⟩:Addr)=⟨b',o',none⟩:=Option.some.inj (hA.symm.trans e)
 have e3:b=b':=congrArg Addr.block e2
 have e4:o=o':=congrArg Addr.off e2
 have hl:=h2.len
 have hi:k*262 < xs.length:=by rw [hl];omega
 rw [e3,e4]
 exact ⟨_,hc (k*262) _ (List.getElem?_eq_getElem hi)⟩
structure Marks (T g o:Nat) (w2 wr:World):Prop where
 chg:Chg (fun b=>T≤b) w2 wr
 size:∀ b,b < w2.heap.size→(blk wr b).size=(blk w2 b).size
 top:∀ j,wr.cell? ⟨g,o+(j*262+261),none⟩=w2.cell? ⟨g,o+(j*262+261),none⟩
section
variable {T g o:Nat} {w2 wr:World}
theorem Marks.start (T g o:Nat) (w:World):Marks T g o w w:=⟨Chg.of_grows (Grows.refl _),fun _ _=>rfl,fun _=>rfl⟩
theorem Marks.put (h:Marks T g o w2 wr) (hg:0 < (blk w2 g).size) {kb i:Nat} (hT:T≤kb) (hl:0 < (blk w2 kb).size) (hx:kb=g→∃ j,i=o+j*262) (v:Value):Marks T g o w2 (wr.setCell ⟨kb,i,none⟩ v):=by
 have ik:kb < w2.heap.size:=Blk.inHeap rfl hl
 have igg:g < w2.heap.size:=Blk.inHeap rfl hg
 have hs:=h.chg.size
 have hl2:0 < (blk wr kb).size:=by rw [h.size _ ik];exact hl
 have hg2:0 < (blk wr g).size:=by rw [h.size _ igg];exact hg
 have hput:=pa_put (w:=wr) (g:=kb) rfl hl2 i v
 refine ⟨h.chg.trans ((chg_cell wr kb i v).mono fun b _ e=>by subst e;exact hT),fun b hb=>?_,fun j=>?_⟩
 ·by_cases e:b=kb
  ·subst e;rw [hput,Array.size_setIfInBounds];exact h.size _ ik
  ·rw [chg_blk (chg_cell wr kb i v) (by omega) e];exact h.size b hb
 ·rw [← h.top j]
  by_cases e:kb=g
  ·obtain ⟨q,hq⟩:=hx e
   subst e
   rw [Blk.cell hput (by rw [Array.size_setIfInBounds];exact hl2),Blk.cell rfl hl2,Array.getElem?_setIfInBounds_ne (by omega)]
  ·exact (chg_cell wr kb i v).cell (a:=⟨g,o+(j*262+261),none⟩) (by show g < wr.heap.size;omega) (fun e2=>e e2.symm)
end
end Go.Proofs.YtnjagecmhdagkaaGreatDoor
namespace Go.Proofs.YtnjagecmhdagkaaGreatDoor
open Go.RowKit
section
variable {w w':World} {q:Nat→Prop} {xs:List Value}
theorem own_chgX {n size b0:Nat} {e:TypeId} {v:Value} (h:w.ownsRow b0 e size v n xs) (hc:Chg q w w') (hq:∀ b,v.ownBlock=some b→¬ q b):w'.ownsRow b0 e size v n xs:=by
 obtain ⟨h1,h2⟩:=h
 refine ⟨h1,h2.elim .inl ?_⟩
 rintro ⟨g,cap,cur,rfl,hb,hh,r⟩
 exact .inr ⟨g,cap,cur,rfl,hb,(hc.block g (Array.getElem?_eq_some_iff.1 hh).1 (hq g rfl)).trans hh,r⟩
theorem chg_grownX {row:Option Nat} (h:w.grownBy w' row):Chg (fun b=>row=some b) w w' :=
 ⟨h.os,h.tape,h.output,h.size,fun b hb hp=>h.block b hb fun e=>hp e.symm⟩
theorem own_ltX {n size b0 b:Nat} {e:TypeId} {v:Value} (h:w.ownsRow b0 e size v n xs) (hb:v.ownBlock=some b):b < w.heap.size∧b0≤b:=by
 rcases h.2 with ⟨rfl,_⟩ | ⟨g,cap,cur,rfl,h1,hh,_⟩
 ·cases hb
 ·cases hb;exact ⟨(Array.getElem?_eq_some_iff.1 hh).1,h1⟩
theorem own_moreX {n size b0:Nat} {e:TypeId} {v:Value} (h:w.ownsRow b0 e size v n xs) (hg:Grows w w'):w'.ownsRow b0 e size v n xs :=
 own_chgX h (Chg.of_grows (p:=fun _=>False) hg) fun _ _ h=>h
theorem own_formX {n size b0:Nat} {e:TypeId} {v:Value} (h:w.ownsRow b0 e size v n xs):(v=.slice none 0 0∧n=0)∨∃ g cap,v=.slice (some ⟨g,0,none⟩) n cap∧b0≤g∧g < w.heap.size∧n≤cap∧cap≤9223372036854775807:=by
 rcases h.2 with ⟨rfl,h0⟩ | ⟨g,cap,cur,rfl,h1,hh,h2,h3,_⟩
 ·exact .inl ⟨rfl,h0⟩
 ·exact .inr ⟨g,cap,rfl,h1,(Array.getElem?_eq_some_iff.1 hh).1,h2,h3⟩
theorem own_rdX {n size b0:Nat} {e:TypeId} {v:Value} (h:w.ownsRow b0 e size v n xs):∃ A cap,v=.slice A n cap∧n≤cap∧cap≤9223372036854775807∧Rd w size A n xs∧(A=none→n=0∧cap=0)∧(∀ g o t,A=some ⟨g,o,t⟩→o=0∧t=none∧b0≤g∧g < w.heap.size∧v.ownBlock=some g):=by
 rcases h.2 with ⟨rfl,h0⟩ | ⟨g,cap,cur,rfl,h1,hh,h2,h3,h4⟩
 ·subst h0
  exact ⟨none,0,rfl,Nat.le_refl _,by omega,⟨h.1,fun h=>absurd h (Nat.lt_irrefl _)⟩,fun _=>⟨rfl,rfl⟩,fun g o t e=>by cases e⟩
 ·have hlt:=(Array.getElem?_eq_some_iff.1 hh).1
  refine ⟨some ⟨g,0,none⟩,cap,rfl,h2,h3,⟨h.1,fun hn=>⟨g,0,rfl,hlt,fun j u hu=>?_⟩⟩,(fun e=>by cases e),fun g' o t e=>by cases e;exact ⟨rfl,rfl,h1,hlt,rfl⟩⟩
  rw [Nat.zero_add,cell_of_row w g j _ _ _ hh]
  obtain ⟨_,h5⟩:=h4
  rw [← h5] at hu
  rw [← Array.getElem?_toList]
  have hj:j < n*size:=by
   have:=(List.getElem?_eq_some_iff.1 hu).1
   simp at this
   omega
  rw [List.getElem?_take_of_lt hj] at hu
  exact hu
end
theorem ownBlock_slice {e n cap b:Nat} (h:(Value.slice (some ⟨e,0,none⟩) n cap).ownBlock=some b):b=e:=by cases h;rfl
theorem rd_blk {w:World} {g n size:Nat} {c:Array Value} (hb:blk w g=c) (hc:c.size=n*size) (hz:0 < c.size):Rd w size (some ⟨g,0,none⟩) n c.toList :=
 ⟨by simpa using hc,fun _=>⟨g,0,rfl,Blk.inHeap hb hz,fun j u hu=>by rw [Nat.zero_add,Blk.cell hb hz];simpa using hu⟩⟩
structure ElemOf (P:Program) (t e:TypeId) (size bytes:Nat):Prop where
 under:P.underlying t=some (.slice e)
 info:∃ i z,P.info? e=some i∧i.zero=some z∧i.size=size∧i.bytes=bytes∧z.cells.size=size
 pos:0 < size
 low:bytes≤100000
theorem elemOf_of {P:Program} {t e:TypeId} {size bytes:Nat} {z:Value} (h1:P.underlying t=some (.slice e)) (h2:(P.info? e).map (·.bytes)=some bytes) (h3:(P.info? e).map (·.size)=some size) (h4:(P.info? e).map (·.zero)=some (some z)) (h5:z.cells.size=size) (h6:0 < size) (h7:bytes≤100000):ElemOf P t e size bytes:=by
 refine ⟨h1,?_,h6,h7⟩
 cases hq:P.info? e with
 | none=>rw [hq] at h2;cases h2
 | some i =>
  rw [hq] at h2 h3 h4
  injection h2 with h2
  injection h3 with h3
  injection h4 with h4
  exact ⟨i,z,rfl,h4,h3,h2,h5⟩
section
variable {P:Program} {ops:Array Oper} {rest:List Oper} {o:Oper} {a:Act} {w:World} {t e:TypeId} {size bytes:Nat}
theorem news_blk {kb:Nat} {c:Array Value} (hb:blk w kb=c) (hz:0 < c.size):∀ j u,c.toList[j]?=some u→w.cell? ((⟨kb,0,none⟩:Addr).add j)=some u:=fun j u hj=>by
 have hadd:(⟨kb,0,none⟩:Addr).add j=⟨kb,j,none⟩:=by unfold Addr.add;split <;> simp_all
 rw [hadd,Blk.cell hb hz]
 simpa using hj
theorem one_blk {c:Array Value} (h1:OneCells c):∀ u ∈ c.toList,u.oneCell'=true:=fun u hu=>by
 unfold OneCells at h1
 rw [Array.all_eq_true_iff_forall_mem] at h1
 exact h1 u (by simpa using hu)
theorem wpList_append_blk {Q:Exit→Act→World→Prop} (hE:ElemOf P t e size bytes) (s x:Operand) (base:Nat) (v:Value) (n:Nat) (xs:List Value) (kb:Nat) (c:Array Value)
  (hgd:o.guard=none) (ho:o.op=.call { callee:=.builtin .append,args:=#[s,x],argTypes:=#[t,t] })
  (hs:a.eval s=v) (hown:w.ownsRow base e size v n xs) (hx:a.eval x=.slice (some ⟨kb,0,none⟩) 1 1) (hb:blk w kb=c) (hc:c.size=size) (h1:OneCells c) (hn:n≤1000000) (hbase:base≤w.heap.size)
  (h:∀ e' cap w',w'.ownsRow base e size (.slice (some ⟨e',0,none⟩) (n+1) cap) (n+1) (xs++c.toList)→Chg (fun b=>v.ownBlock=some b) w w'→(v.ownBlock=some e'∨w.heap.size≤e')→wpList P ops Q rest (a.put o.dst (.slice (some ⟨e',0,none⟩) (n+1) cap)) w'):wpList P ops Q (o::rest) a w:=by
 obtain ⟨hu,⟨i,z,hi,hz0,hz1,hz2,hz3⟩,hp,hlow⟩:=hE
 exact wpList_append_lies w hgd s x t ho base e i z size bytes hu hi hz0 hz1 hz2 hz3 hp v n xs hs hown ⟨kb,0,none⟩ 1 1 c.toList hx (by simp [hc]) (news_blk hb (by omega)) (one_blk h1) (by decide) (by unfold maxLen;omega)
  (by
   have h2:(n+1)*bytes≤(n+1)*100000:=Nat.mul_le_mul_left _ hlow
   omega) hbase _ rfl (fun e' cap w' a1 a2 a3 _=>h e' cap w' a1 (chg_grownX a2) (a3.imp id (fun e=>by omega)))
theorem step_append_blk {K:Act→World→Prop} {Q:Exit→Act→World→Prop} {E:Prop} (hE:ElemOf P t e size bytes) (s x:Operand) (base:Nat) (v:Value) (n:Nat) (xs:List Value) (kb:Nat) (c:Array Value)
  (hgd:o.guard=none) (ho:o.op=.call { callee:=.builtin .append,args:=#[s,x],argTypes:=#[t,t] })
  (hs:a.eval s=v) (hown:w.ownsRow base e size v n xs) (hx:a.eval x=.slice (some ⟨kb,0,none⟩) 1 1) (hb:blk w kb=c) (hc:c.size=size) (h1:OneCells c) (hn:n≤1000000) (hbase:base≤w.heap.size)
  (h:∀ e' cap w',w'.ownsRow base e size (.slice (some ⟨e',0,none⟩) (n+1) cap) (n+1) (xs++c.toList)→Chg (fun b=>v.ownBlock=some b) w w'→(v.ownBlock=some e'∨w.heap.size≤e')→K (a.put o.dst (.slice (some ⟨e',0,none⟩) (n+1) cap)) w') :
  if Region.wanted o (yielded ops a.tmps)=true then Oper.wp P o a w K Q else E:=by
 obtain ⟨hu,⟨i,z,hi,hz0,hz1,hz2,hz3⟩,hp,hlow⟩:=hE
 exact step_append_lies w hgd s x t ho base e i z size bytes hu hi hz0 hz1 hz2 hz3 hp v n xs hs hown ⟨kb,0,none⟩ 1 1 c.toList hx (by simp [hc]) (news_blk hb (by omega)) (one_blk h1) (by decide) (by unfold maxLen;omega)
  (by
   have h2:(n+1)*bytes≤(n+1)*100000:=Nat.mul_le_mul_left _ hlow
   omega) hbase _ rfl (fun e' cap w' a1 a2 a3 _=>h e' cap w' a1 (chg_grownX a2) (a3.imp id (fun e=>by omega)))
end
end Go.Proofs.YtnjagecmhdagkaaGreatDoor
namespace Go.Proofs.YtnjagecmhdagkaaGreatDoor
open Go.RowKit
def nmA (C:Array Value) (id:Int) (k:Value):Array Value:=C++#[.int .i64 id,k]
abbrev nmC (x:NdV) (K:Value) (id:Int) (k:Value):Array Value:=nmA (ndC x K) id k
section
variable {C:Array Value} {id:Int} {k:Value}
theorem nmA_size (h:C.size=262):(nmA C id k).size=264:=by simp [nmA,h]
theorem nmC_size (x:NdV) (K:Value) (id:Int) (k:Value):(nmC x K id k).size=264:=nmA_size (ndA_size _ _ _ _ _ _ _)
theorem nmA_lt (h:C.size=262) {j:Nat} (hj:j < 262):(nmA C id k)[j]?=C[j]?:=by
 unfold nmA
 rw [Array.getElem?_append_left (by omega)]
theorem nmA_262 (h:C.size=262):(nmA C id k)[262]?=some (.int .i64 id):=by
 unfold nmA
 rw [Array.getElem?_append_right (by omega),h]
 rfl
theorem nmA_263 (h:C.size=262):(nmA C id k)[263]?=some k:=by
 unfold nmA
 rw [Array.getElem?_append_right (by omega),h]
 rfl
theorem nmA_set (h:C.size=262) (k':Value):(nmA C id k).setIfInBounds 263 k'=nmA C id k':=by
 apply Array.ext_getElem?
 intro j
 rw [Array.getElem?_setIfInBounds,nmA_size h]
 by_cases e:263=j
 ·subst e
  rw [if_pos rfl,if_pos (by decide),nmA_263 h]
 ·rw [if_neg e]
  by_cases hj:j < 262
  ·rw [nmA_lt h hj,nmA_lt h hj]
  ·by_cases e2:j=262
   ·subst e2;rw [nmA_262 h,nmA_262 h]
   ·rw [Array.getElem?_eq_none (by rw [nmA_size h];omega),Array.getElem?_eq_none (by rw [nmA_size h];omega)]
theorem nmA_one (hC:OneCells C) (hk:k.oneCell'=true):OneCells (nmA C id k):=by
 unfold OneCells at *
 unfold nmA
 rw [Array.all_append,hC]
 simp [Value.oneCell'] at hk ⊢
 exact hk
end
structure SlZ (z:Nat) (ok:Nat→Prop) (w:World) (A:Option Addr) (cap n:Nat) (xs:List Value):Prop where
 rd:Rd w z A n xs
 nil:A=none→n=0∧cap=0
 le:n≤cap
 cap63:cap≤9223372036854775807
 ok:0 < n→∀ a,A=some a→ok a.block
section
variable {z:Nat} {ok ok2 q:Nat→Prop} {w w':World} {A:Option Addr} {cap n:Nat} {xs:List Value}
theorem SlZ.chg (h:SlZ z ok w A cap n xs) (hc:Chg q w w') (hp:∀ b,b < w.heap.size→ok b→¬ q b):SlZ z ok w' A cap n xs :=
 ⟨h.rd.chg hc fun hn a e=>hp _ (by obtain ⟨b,o,e2,hb,_⟩:=h.rd.2 hn;rw [e] at e2;cases e2;exact hb) (h.ok hn a e),h.nil,h.le,h.cap63,h.ok⟩
theorem SlZ.mono (h:SlZ z ok w A cap n xs) (ho:∀ b,b < w.heap.size→ok b→ok2 b):SlZ z ok2 w A cap n xs :=
 ⟨h.rd,h.nil,h.le,h.cap63,fun hn a e=>ho _ (by obtain ⟨b,o,e2,hb,_⟩:=h.rd.2 hn;rw [e] at e2;cases e2;exact hb) (h.ok hn a e)⟩
theorem SlZ.zero (z:Nat) (ok:Nat→Prop) (w:World):SlZ z ok w none 0 0 []:=⟨Rd.nil_,fun _=>⟨rfl,rfl⟩,Nat.le_refl _,by omega,fun h=>absurd h (Nat.lt_irrefl _)⟩
def NfRow (ok:Nat→Prop) (w:World):Fr→Nat→List Value→Prop
 | .nil,_,xs=>xs=[]
 | .cons x kids rest,n,xs=>∃ (KA:Option Addr) (kn kc:Nat) (A:Option Addr) (cap:Nat) (ys zs:List Value),xs=(nmC x (.slice KA kn kc) n (.slice A kids.len cap)).toList++zs∧SlZ 264 ok w A cap kids.len ys∧NfRow ok w kids (n+1) ys∧NfRow ok w rest (n+1+kids.size) zs
theorem NfRow.chg (hc:Chg q w w') (hp:∀ b,b < w.heap.size→ok b→¬ q b):∀ {f:Fr} {n:Nat} {xs:List Value},NfRow ok w f n xs→NfRow ok w' f n xs:=by
 intro f
 induction f with
 | nil=>exact fun h=>h
 | cons x k r ihk ihr =>
  rintro n xs ⟨KA,kn,kc,A,cap,ys,zs,e,h1,h2,h3⟩
  exact ⟨KA,kn,kc,A,cap,ys,zs,e,h1.chg hc hp,ihk h2,ihr h3⟩
theorem NfRow.mono (ho:∀ b,b < w.heap.size→ok b→ok2 b):∀ {f:Fr} {n:Nat} {xs:List Value},NfRow ok w f n xs→NfRow ok2 w f n xs:=by
 intro f
 induction f with
 | nil=>exact fun h=>h
 | cons x k r ihk ihr =>
  rintro n xs ⟨KA,kn,kc,A,cap,ys,zs,e,h1,h2,h3⟩
  exact ⟨KA,kn,kc,A,cap,ys,zs,e,h1.mono ho,ihk h2,ihr h3⟩
theorem NfRow.app {b:Fr} {ys:List Value}:∀ {a:Fr} {n:Nat} {xs:List Value},NfRow ok w a n xs→NfRow ok w b (n+a.size) ys→NfRow ok w (a.app b) n (xs++ys):=by
 intro a
 induction a with
 | nil=>intro n xs h k;cases h;exact k
 | cons x k r _ ihr =>
  rintro n xs ⟨KA,kn,kc,A,cap,us,zs,e,h1,h2,h3⟩ hb
  refine ⟨KA,kn,kc,A,cap,us,zs++ys,by rw [e,List.append_assoc],h1,h2,ihr h3 ?_⟩
  rw [show n+1+k.size+r.size=n+(Fr.cons x k r).size by simp [Fr.size];omega]
  exact hb
theorem NfRow.len:∀ {f:Fr} {n:Nat} {xs:List Value},NfRow ok w f n xs→xs.length=f.len*264:=by
 intro f
 induction f with
 | nil=>intro n xs h;cases h;rfl
 | cons x k r _ ihr =>
  rintro n xs ⟨KA,kn,kc,A,cap,us,zs,e,h1,h2,h3⟩
  have:=ihr h3
  rw [e,List.length_append,Array.length_toList,nmC_size,this]
  simp only [Fr.len];omega
def NfAt (ok:Nat→Prop) (w:World) (A:Option Addr) (cap:Nat) (f:Fr) (n:Nat):Prop:=∃ xs,SlZ 264 ok w A cap f.len xs∧NfRow ok w f n xs
theorem NfAt.chg {f:Fr} {m:Nat} (h:NfAt ok w A cap f m) (hc:Chg q w w') (hp:∀ b,b < w.heap.size→ok b→¬ q b):NfAt ok w' A cap f m:=by
 obtain ⟨xs,h1,h2⟩:=h
 exact ⟨xs,h1.chg hc hp,h2.chg hc hp⟩
theorem NfAt.mono {f:Fr} {m:Nat} (h:NfAt ok w A cap f m) (ho:∀ b,b < w.heap.size→ok b→ok2 b):NfAt ok2 w A cap f m:=by
 obtain ⟨xs,h1,h2⟩:=h
 exact ⟨xs,h1.mono ho,h2.mono ho⟩
theorem NfAt.grows {f:Fr} {m:Nat} (h:NfAt ok w A cap f m) (hg:Grows w w'):NfAt ok w' A cap f m:=h.chg (Chg.of_grows (p:=fun _=>False) hg) fun _ _ _ h=>h
theorem NfAt.zero (ok:Nat→Prop) (w:World) (m:Nat):NfAt ok w none 0 .nil m:=⟨[],SlZ.zero 264 ok w,rfl⟩
end
theorem elemNm:ElemOf Tryz.prog 65 102 264 352:=elemOf_of Tryz.underlying65 (by kernel_rfl) (by kernel_rfl) (z:=.agg (nmA (ndA 0 0 noSet 0 0 0 (.slice none 0 0)) 0 (.slice none 0 0))) (by kernel_rfl) (by rw [show (Value.agg (nmA (ndA 0 0 noSet 0 0 0 (.slice none 0 0)) 0 (.slice none 0 0))).cells=nmA (ndA 0 0 noSet 0 0 0 (.slice none 0 0)) 0 (.slice none 0 0) from rfl,nmA_size (ndA_size _ _ _ _ _ _ _)]) (by decide) (by decide)
theorem rowNm:RowOf Tryz.prog 102 264:=⟨_,Tryz.underlying102,rfl,by kernel_rfl⟩
theorem zeroNm (w:World):(zeroValue 102).run Tryz.prog w=.ok (.agg (nmA (ndA 0 0 noSet 0 0 0 (.slice none 0 0)) 0 (.slice none 0 0))) w:=by kernel_rfl
def bldNm (x:Array (Nat × Value)):Sem Value:=Instr.build 102 x
theorem bldNm_eq (x:Array (Nat × Value)):Instr.build 102 x=bldNm x:=rfl
theorem bld_nm (kind byte:Int) (p:Nat→Bool) (n mn mx:Int) (k:Value) (id:Int) (w:World):(bldNm #[(0,.agg (ndA kind byte p n mn mx k)),(1,.int .i64 id)]).run Tryz.prog w=.ok (.agg (nmA (ndA kind byte p n mn mx k) id (.slice none 0 0))) w:=by kernel_rfl
section
variable (w:World) (g o:Nat) (c:Array Value)
def ldNm (x:Value):Sem Value:=Instr.loadAt 102 x
theorem ldNm_eq (x:Value):Instr.loadAt 102 x=ldNm x:=rfl
theorem loadNm:(ldNm (.pointer (some ⟨g,o,none⟩))).run Tryz.prog w=loadPart Tryz.prog w 102 g o 264:=rfl
theorem loadNm_if:loadPart Tryz.prog w 102 g o 264=if 0 < 264∧o+264≤(blk w g).size then .ok (.agg (span (blk w g) o 264)) w else loadPartOdd Tryz.prog w 102 g o 264:=loadPart_if w _ g o 264 rowNm
def stNm (x v:Value):Sem Unit:=Instr.storeAt 102 x v
theorem stNm_eq (x v:Value):Instr.storeAt 102 x v=stNm x v:=rfl
theorem storeNm:(stNm (.pointer (some ⟨g,o,none⟩)) (.agg c)).run Tryz.prog w=storePart Tryz.prog w 102 g o c:=rfl
theorem storeNm_if (h:OneCells c):storePart Tryz.prog w 102 g o c=if 0 < 264∧o+264≤(blk w g).size∧c.size=264 then .ok () (setBlk w g (over (blk w g) o c)) else storePartOdd Tryz.prog w 102 g o c:=storePart_if w _ g o 264 c rowNm h
theorem loadNm_all (h:blk w g=c) (hs:c.size=264):loadPart Tryz.prog w 102 g 0 264=.ok (.agg c) w:=by
 rw [loadNm_if,if_pos (by rw [h];omega),span_all (by rw [h];exact hs),h]
end
theorem nm_load {w:World} {b o:Nat} {c:Array Value} (hc:c.size=264) (h:∀ j u,c[j]?=some u→w.cell? ⟨b,o+j,none⟩=some u):loadPart Tryz.prog w 102 b o 264=.ok (.agg c) w:=by
 obtain ⟨d,hu,hd,hi⟩:=rowNm
 unfold loadPart
 simp only [Instr.loadAt,Instr.sureAddr,Sem.run_bind,Sem.run_pure,Result.andThen_ok]
 exact run_loadVar_cells w b o 102 c.toList d (fun j v hv=>h j v (by rw [← Array.getElem?_toList];exact hv)) hu hd (by rw [hi];simp [hc])
end Go.Proofs.YtnjagecmhdagkaaGreatDoor
namespace Go.Proofs.YtnjagecmhdagkaaGreatDoor
open Go.RowKit
theorem nd_load {w:World} {b o:Nat} {c:Array Value} (hc:c.size=262) (h:∀ j u,c[j]?=some u→w.cell? ⟨b,o+j,none⟩=some u):loadPart Tryz.prog w 95 b o 262=.ok (.agg c) w:=by
 obtain ⟨d,hu,hd,hi⟩:=rowNode
 unfold loadPart
 simp only [Instr.loadAt,Instr.sureAddr,Sem.run_bind,Sem.run_pure,Result.andThen_ok]
 exact run_loadVar_cells w b o 95 c.toList d (fun j v hv=>h j v (by rw [← Array.getElem?_toList];exact hv)) hu hd (by rw [hi];simp [hc])
def bldSlNm (x:Array (Nat × Value)):Sem Value:=Instr.buildSlice 65 1 x
theorem bldSlNm_eq (x:Array (Nat × Value)):Instr.buildSlice 65 1 x=bldSlNm x:=rfl
theorem bldSlNm_run (w:World) (k b:Int) (p:Nat→Bool) (n mn mx:Int) (a:Option Addr) (l d:Nat) (id:Int) (a2:Option Addr) (l2 d2:Nat):(bldSlNm #[(0,.agg (nmA (ndA k b p n mn mx (.slice a l d)) id (.slice a2 l2 d2)))]).run Tryz.prog w=.ok (.slice (some ⟨w.heap.size,0,none⟩) 1 1) (w.alloc (.cells (nmA (ndA k b p n mn mx (.slice a l d)) id (.slice a2 l2 d2)) 102)):=by kernel_rfl
theorem nm_one_slice (x:NdV) (a:Option Addr) (l d:Nat) (id:Int) (a2:Option Addr) (l2 d2:Nat):OneCells (nmC x (.slice a l d) id (.slice a2 l2 d2)):=nmA_one (ndA_one_slice _ _ _ _ _ _ _ _ _) rfl
theorem over_nm (a b:Int) (p:Nat→Bool) (c d e:Int) (k:Value) (id:Int) (v:Value) (a' b':Int) (p':Nat→Bool) (c' d' e':Int) (k':Value) (id':Int) (v':Value):over (nmA (ndA a b p c d e k) id v) 0 (nmA (ndA a' b' p' c' d' e' k') id' v')=nmA (ndA a' b' p' c' d' e' k') id' v':=over_all (by rw [nmA_size (ndA_size _ _ _ _ _ _ _),nmA_size (ndA_size _ _ _ _ _ _ _)])
theorem nm_size_nd (a b:Int) (p:Nat→Bool) (c d e:Int) (k:Value) (id:Int) (v:Value):(nmA (ndA a b p c d e k) id v).size=264:=nmA_size (ndA_size _ _ _ _ _ _ _)
theorem nm_one_nd (a b:Int) (p:Nat→Bool) (c d e:Int) (k:Option Addr) (l q:Nat) (id:Int) (a2:Option Addr) (l2 d2:Nat):OneCells (nmA (ndA a b p c d e (.slice k l q)) id (.slice a2 l2 d2)):=nmA_one (ndA_one_slice _ _ _ _ _ _ _ _ _) rfl
theorem span_nm (a b:Int) (p:Nat→Bool) (c d e:Int) (k:Value) (id:Int) (v:Value):span (nmA (ndA a b p c d e k) id v) 0 264=nmA (ndA a b p c d e k) id v:=span_all (nmA_size (ndA_size _ _ _ _ _ _ _))
structure NbAt (W:World) (np:Nat) (k0:Nat) (a:Fr) (v:Value) (xs:List Value) (w:World):Prop where
 own:w.ownsRow W.heap.size 102 264 v a.len xs
 row:NfRow (fun b=>W.heap.size≤b∧¬ v.ownBlock=some b) w a k0 xs
 cnt:blk w np=#[.int .i64 (k0+a.size:Nat)]
 chg:Chg (fun b=>b=np) W w
theorem NbAt.start {W:World} {np k0:Nat} (h:blk W np=#[.int .i64 k0]):NbAt W np k0 .nil (.slice none 0 0) [] W :=
 ⟨World.ownsRow_nil _ _ _ _,rfl,by simpa [Fr.size] using h,Chg.refl _ _⟩
theorem NbAt.ret {W w:World} {np k0:Nat} {a:Fr} {v:Value} {xs:List Value} (h:NbAt W np k0 a v xs w):∃ A cap,v=.slice A a.len cap∧NfAt (fun b=>W.heap.size≤b) w A cap a k0:=by
 obtain ⟨A,cap,rfl,h1,h2,h3,h4,h5⟩:=own_rdX h.own
 refine ⟨A,cap,rfl,xs,⟨h3,h4,h1,h2,fun hn a e=>?_⟩,h.row.mono fun b _ h=>h.1⟩
 obtain ⟨b,o,e2,_,_⟩:=h3.2 hn
 subst e2
 cases e
 exact (h5 b o none rfl).2.2.1
theorem NbAt.push {W w w3 w9:World} {np k0 e9 cap9 cK capk:Nat} {a kids:Fr} {x:NdV} {v:Value} {xs:List Value} {K A:Option Addr} (h:NbAt W np k0 a v xs w) (hnp:np < W.heap.size)
  (hC:Chg (fun b=>b=np) w w3) (hcnt:blk w3 np=#[.int .i64 (k0+a.size+1+kids.size:Nat)]) (hk:NfAt (fun b=>w.heap.size≤b) w3 A cK kids (k0+a.size+1))
  (hown:w9.ownsRow W.heap.size 102 264 (.slice (some ⟨e9,0,none⟩) (a.len+1) cap9) (a.len+1) (xs++(nmC x (.slice K kids.len capk) ((k0:Int)+a.size) (.slice A kids.len cK)).toList))
  (hC9:Chg (fun b=>v.ownBlock=some b) w3 w9) (hl:v.ownBlock=some e9∨w3.heap.size≤e9) :
  NbAt W np k0 (a.app (Fr.one x kids)) (.slice (some ⟨e9,0,none⟩) (a.len+1) cap9) (xs++(nmC x (.slice K kids.len capk) ((k0:Int)+a.size) (.slice A kids.len cK)).toList) w9:=by
 have hid:((k0:Int)+(a.size:Int))=((k0+a.size:Nat):Int):=by omega
 rw [hid] at hown ⊢
 have hvl:∀ b,v.ownBlock=some b→b < w.heap.size∧W.heap.size≤b:=fun b hb=>own_ltX h.own hb
 have hWw:=h.chg.size
 have hw3:=hC.size
 have hne:∀ b,b < w3.heap.size→¬ v.ownBlock=some b→¬ (Value.slice (some ⟨e9,0,none⟩) (a.len+1) cap9).ownBlock=some b:=fun b hb h1 h2=>by
  obtain rfl:e9=b:=Option.some.inj h2
  rcases hl with h3 | h3
  ·exact h1 h3
  ·omega
 have hlen:(a.app (Fr.one x kids)).len=a.len+1:=by rw [Fr.len_app];rfl
 have hsz:(a.app (Fr.one x kids)).size=a.size+1+kids.size:=by rw [Fr.size_app];simp [Fr.one,Fr.size];omega
 have inp:InHeap np w3:=Blk.inHeap hcnt (by simp)
 refine ⟨by rw [hlen];exact hown,?_,?_,chg_late (h.chg.trans hC) hC9 fun b hb e=>by have:=hvl b e;omega⟩
 ·refine NfRow.app ?_ ⟨K,kids.len,capk,A,cK,hk.choose,[],by simp,?_,?_,rfl⟩
  ·exact (((h.row.mono (ok2:=fun b=>(W.heap.size≤b∧¬ (Value.slice (some ⟨e9,0,none⟩) (a.len+1) cap9).ownBlock=some b)∧¬ v.ownBlock=some b) fun b hb k=>⟨⟨k.1,hne b (by omega) k.2⟩,k.2⟩).chg hC fun b _ k e=>by have:=k.1.1;omega).chg hC9 fun b _ k=>k.2).mono fun b _ k=>k.1
  ·exact ((hk.choose_spec.1.mono (ok2:=fun b=>(W.heap.size≤b∧¬ (Value.slice (some ⟨e9,0,none⟩) (a.len+1) cap9).ownBlock=some b)∧¬ v.ownBlock=some b) fun b hb k=>by
    have:¬ v.ownBlock=some b:=fun e=>by have:=hvl b e;omega
    exact ⟨⟨by omega,hne b hb this⟩,this⟩).chg hC9 fun b _ k=>k.2).mono fun b _ k=>k.1
  ·exact ((hk.choose_spec.2.mono (ok2:=fun b=>(W.heap.size≤b∧¬ (Value.slice (some ⟨e9,0,none⟩) (a.len+1) cap9).ownBlock=some b)∧¬ v.ownBlock=some b) fun b hb k=>by
    have:¬ v.ownBlock=some b:=fun e=>by have:=hvl b e;omega
    exact ⟨⟨by omega,hne b hb this⟩,this⟩).chg hC9 fun b _ k=>k.2).mono fun b _ k=>k.1
 ·rw [chg_blk hC9 inp fun e=>by have:=hvl np e;omega,hcnt,hsz]
  congr 3
  omega
end Go.Proofs.YtnjagecmhdagkaaGreatDoor
