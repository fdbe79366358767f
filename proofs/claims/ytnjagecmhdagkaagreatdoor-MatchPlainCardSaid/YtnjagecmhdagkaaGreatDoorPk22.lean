/-
 Patterns: the document's reader: a part, if a row is read as told. (Printed by brerdq.py.)
-/
import Derived.Test.YtnjagecmhdagkaaGreatDoorPk19
import Derived.Test.YtnjagecmhdagkaaGreatDoorPk20
import Derived.Test.YtnjagecmhdagkaaGreatDoorPk21
import Derived.Test.YtnjagecmhdagkaaGreatDoorPk13
set_option linter.unusedSimpArgs false
set_option linter.unusedVariables false
set_option maxRecDepth 3000
namespace Go.Proofs.YtnjagecmhdagkaaGreatDoor
open Go.RowKit
def NkK (ok:Nat→Prop) (w':World) (R:Option (Nk × RdS)) (x:NdV) (A:Option Addr) (l c:Nat) (t:RdS) (bad:Bool):Prop :=
 (bad=true∧R=none)∨(bad=false∧∃ f,R=some ((x,f),t)∧l=f.len∧FrAt ok w' A c f)
section
variable {w w' W w1:World} {g rb:Nat} {p:Nat→Prop} {s:List UInt8} {R:Option (Nk × RdS)} {e:Ending} {x:NdV} {A:Option Addr} {l c at2:Nat} {t:RdS} {bad:Bool}
theorem times_got (h:TimesR p w g s R e w') :
  ∃ x A l c at2 t bad,e=.returned (.agg (ndC x (.slice A l c)))∧StAt w' g s at2 t bad∧Chg (fun b=>b=g) w w'∧NkK p w' R x A l c t bad:=by
 cases R with
 | none =>
  obtain ⟨⟨x,A,l,c,e⟩,⟨a,t,hs⟩,hc⟩:=h
  exact ⟨x,A,l,c,a,t,true,e,hs,hc,.inl ⟨rfl,rfl⟩⟩
 | some y =>
  obtain ⟨A,c,e,hf,⟨a,hs⟩,hc⟩:=h
  exact ⟨y.1.1,A,y.1.2.len,c,a,y.2,false,e,hs,hc,.inr ⟨rfl,y.1.2,rfl,rfl,hf⟩⟩
theorem NkK.chg {ok ok2 q:Nat→Prop} (h:NkK ok w R x A l c t bad) (hc:Chg q w w') (hp:∀ b,b < w.heap.size→ok b→¬ q b) (ho:∀ b,ok b→ok2 b):NkK ok2 w' R x A l c t bad:=by
 rcases h with h | ⟨h1,f,h2,h3,h4⟩
 ·exact .inl h
 ·exact .inr ⟨h1,f,h2,h3,(h4.chg hc hp).mono fun b _ h=>ho b h⟩
theorem NkK.leaf {ok:Nat→Prop} (h:R=some ((x,.nil),t)):NkK ok w R x none 0 0 t false:=.inr ⟨rfl,.nil,h,rfl,FrAt.zero _ _⟩
theorem part_ret {ok:Nat→Prop} (hZ:Zr g W rb w) (hS:StAt w g s at2 t bad) (hK:NkK ok w R x A l c t bad) (ho:∀ b,ok b→(b≠g∧W.heap.size≤b)∧b≠rb) {cs:Array Value} (hcs:cs=ndC x (.slice A l c)) :
  PartR W g s R (.returned (.agg cs)) (setBlk w rb cs):=by
 subst hcs
 have hc:Chg (fun b=>b=rb) w (setBlk w rb (ndC x (.slice A l c))):=chg_row
 have h1:=hS.chg hc (fun e=>hZ.ne e.symm)
 have h2:=chg_late hZ.chg hc fun b hb e=>by have:=hZ.new;omega
 rcases hK with ⟨rfl,rfl⟩ | ⟨rfl,f,rfl,rfl,hF⟩
 ·exact ⟨⟨x,A,l,c,rfl⟩,⟨at2,t,h1⟩,h2⟩
 ·exact ⟨A,c,rfl,(hF.chg hc fun b _ h=>(ho b h).2).mono fun b _ h=>(ho b h).1,⟨at2,h1⟩,h2⟩
end
section
variable {w:World} {g at_:Nat} {s:List UInt8} {r:RdS}
theorem StAt.ahead1 (h:StAt w g s at_ r false) {c:UInt8} {l:List UInt8} (e:r.left=c::l):at_ < s.length∧bt s at_=c.toNat∧(at_+1=s.length ↔ l=[]):=by
 have h1:=h.left
 rw [e] at h1
 have h2:(s.drop at_).length=l.length+1:=by rw [← h1];rfl
 simp at h2
 refine ⟨by omega,?_,?_⟩
 ·rw [show at_=at_+0 by omega,← bt_drop,← h1]
  simp
 ·rw [← List.length_eq_zero_iff];omega
theorem rslash_any (h:StAt w g s at_ r false) (hl:s.length≤1000) {c0:UInt8} {l0:List UInt8} (e:r.left=c0::l0) (row:RdS→Option (Fr × RdS))
  (hrow:∀ (t:RdS) (at2:Nat) (w:World),t.left.length < r.left.length→StAt w g s at2 t false→Calls Tryz.prog 20 #[.pointer (some ⟨g,0,none⟩)] w (RowR w g s (row t))) :
  Calls Tryz.prog 60 #[.pointer (some ⟨g,0,none⟩)] w (PartR w g s (slashR row r)):=by
 cases l0 with
 | nil =>
  have hV:slashR row r=none:=by unfold slashR;rw [e];rfl
  rw [hV]
  exact rslash_end h hl e
 | cons c l =>
  have hV:slashR row r=if c.toNat=40 then groupR row r
   else if 49≤c.toNat∧c.toNat≤57 then
    if r.ended (c.toNat - 48)=true then some ((refN (c.toNat - 48),.nil),{ r.node 2 with refs:=true }) else none
   else if c.toNat=123∨c.toNat=125∨c.toNat=41 then none
   else some ((byteN c.toNat,.nil),r.node 2):=by unfold slashR;rw [e];rfl
  rw [hV]
  by_cases k1:c.toNat=40
  ·rw [if_pos k1];exact rslash_group h hl e k1 row hrow
  rw [if_neg k1]
  by_cases k2:49≤c.toNat∧c.toNat≤57
  ·rw [if_pos k2];exact rslash_ref h hl e k2
  rw [if_neg k2]
  by_cases k3:c.toNat=123∨c.toNat=125∨c.toNat=41
  ·rw [if_pos k3];exact rslash_bad h hl e k3
  ·rw [if_neg k3];exact rslash_byte h hl e k1 k2 k3
attribute [local go_sem ↓] zeroNodeR bldNdR_eq ldNodeR_eq stNodeR_eq zero22
attribute [local go_sem] bldR_none bldR_kind bldR_byte bldR_set bldR_n loadNodeR loadNodeR_if storeNodeR storeNodeR_if ndA_one_slice tx_bt
set_option maxRecDepth 100000 in
set_option maxHeartbeats 2000000 in
theorem rpart_92 (h:StAt w g s at_ r false) (hl:s.length≤1000) (first begun:Bool) {c:UInt8} {l:List UInt8} (e:r.left=c::l) (j92:c.toNat=92) (row:RdS→Option (Fr × RdS))
  (hrow:∀ (t:RdS) (at2:Nat) (w:World),t.left.length < r.left.length→StAt w g s at2 t false→Calls Tryz.prog 20 #[.pointer (some ⟨g,0,none⟩)] w (RowR w g s (row t))) :
  Calls Tryz.prog 37 #[.pointer (some ⟨g,0,none⟩),.bool first,.bool begun] w (PartR w g s (partR row first begun r)):=by
 obtain ⟨a1,hb,hend⟩:=h.ahead1 e
 have a2:(at_:Int) < (s.length:Int):=by omega
 obtain ⟨R,hR⟩:∃ R,partR row first begun r=R:=⟨_,rfl⟩
 have hV:R=(if c.toNat=92 then slashR row r
  else if c.toNat=91 then (parseV (c::l)).map fun y=>((setN y.1,.nil),r.node y.2)
  else if c.toNat=46 then some ((ndK 2,.nil),r.node 1)
  else if c.toNat=94∧first=true then some ((ndK 4,.nil),r.node 1)
  else if c.toNat=36∧(l=[]∨ahead [92,41] l=true) then some ((ndK 5,.nil),r.node 1)
  else if c.toNat=42∧first=false∧begun=false then none
  else some ((byteN c.toNat,.nil),r.node 1)):=by rw [← hR];unfold partR;rw [e]
 rw [hR]
 clear hR
 obtain ⟨c0',c1,-,-,-,-⟩:=h.rd.cells
 have ig:=h.inh
 have ha:at_≤1000:=by omega
 have hd36:c.toNat=36→ahead [36,92,41] r.left=ahead [92,41] l:=by
  intro k
  have hc:c=36:=UInt8.toNat_inj.1 k
  rw [e,hc]
  rfl
 have hlen1:1≤r.left.length:=by rw [e];simp
 have hdrop:s.drop at_=c::l:=by rw [← h.left,e]
 have HD:=Lib.hid hdrop
 have HE:=Lib.hid e
 have HL:=Lib.hid hlen1
 have HW:=Lib.hid hrow
 have H:=Lib.hid h
 have HEND:=Lib.hid hend
 have HD36:=Lib.hid hd36
 clear hdrop h e hlen1 hrow hend hd36
 obtain ⟨n,hn⟩:∃ n,c.toNat=n:=⟨_,rfl⟩
 rw [hn] at hV hb
 have k92:n=92:=by rw [← hn];exact j92
 have HN:=Lib.hid hn
 clear hn
 go_enter Tryz.func37,Tryz.ntmps37
 go_upto_region 3 with fail
 have Z1:Zr g w w.heap.size (w.alloc (.cells (ndA 0 0 noSet 0 0 0 (.slice none 0 0)) 91)):=Zr.start ig (Grows.refl _)
 have S1:StAt (w.alloc (.cells (ndA 0 0 noSet 0 0 0 (.slice none 0 0)) 91)) g s at_ r false:=H.out.grows ((Grows.refl _).alloc _)
 generalize (w.alloc (.cells (ndA 0 0 noSet 0 0 0 (.slice none 0 0)) 91))=w1 at *
 clear c0' c1 ig H
 obtain ⟨c0',c1,-,-,-,c5⟩:=S1.rd.cells
 have ig:=S1.inh
 have ff:=S1.rd.free
 have HZ1:=Lib.hid Z1
 have HS1:=Lib.hid S1
 clear Z1 S1
 ·rw [if_pos k92] at hV
  have HV:=Lib.hid hV
  subst k92
  clear hV
  go_wp2_with fail
  have hcall:=rslash_any HS1.out hl HE.out row HW.out
  rw [← HV.out] at hcall
  (with_reducible refine hcall.mono ?_)
  intro e w4 hp
  obtain ⟨x,A,m,cp,at4,t4,b4,rfl,hS4,hC4,hK4⟩:=times_got hp
  have Z4:=HZ1.out.step hC4
  have hsz:w.heap.size < w1.heap.size:=HZ1.out.inh
  have HK:=Lib.hid (hK4.chg (ok2:=fun b=>(b≠g∧w.heap.size≤b)∧b≠w.heap.size) (Chg.of_grows (p:=fun _=>False) (Grows.refl _)) (fun _ _ _ h=>h) fun b h=>⟨⟨h.1,by have:=h.2;omega⟩,by have:=h.2;omega⟩)
  have hz:=Z4.res
  have iz:=Z4.inh
  have HZ:=Lib.hid Z4
  have HS:=Lib.hid hS4
  clear Z4 hS4 hC4 hK4 hp hcall HZ1 HS1 c0' c1 c5 ig ff hsz
  go_wp2_with fail
  exact bodyPost_ret (results_nodeR 6 rfl rfl (Blk.get _ hz (by simp [ndA_size])) (ndA_size _ _ _ _ _ _ _)) rfl (part_ret HZ.out HS.out HK.out (fun b h=>h) rfl)
set_option maxRecDepth 100000 in
set_option maxHeartbeats 2000000 in
theorem rpart_91 (h:StAt w g s at_ r false) (hl:s.length≤1000) (first begun:Bool) {c:UInt8} {l:List UInt8} (e:r.left=c::l) (j92:¬ c.toNat=92) (j91:c.toNat=91) (row:RdS→Option (Fr × RdS))
  (hrow:∀ (t:RdS) (at2:Nat) (w:World),t.left.length < r.left.length→StAt w g s at2 t false→Calls Tryz.prog 20 #[.pointer (some ⟨g,0,none⟩)] w (RowR w g s (row t))) :
  Calls Tryz.prog 37 #[.pointer (some ⟨g,0,none⟩),.bool first,.bool begun] w (PartR w g s (partR row first begun r)):=by
 obtain ⟨a1,hb,hend⟩:=h.ahead1 e
 have a2:(at_:Int) < (s.length:Int):=by omega
 obtain ⟨R,hR⟩:∃ R,partR row first begun r=R:=⟨_,rfl⟩
 have hV:R=(if c.toNat=92 then slashR row r
  else if c.toNat=91 then (parseV (c::l)).map fun y=>((setN y.1,.nil),r.node y.2)
  else if c.toNat=46 then some ((ndK 2,.nil),r.node 1)
  else if c.toNat=94∧first=true then some ((ndK 4,.nil),r.node 1)
  else if c.toNat=36∧(l=[]∨ahead [92,41] l=true) then some ((ndK 5,.nil),r.node 1)
  else if c.toNat=42∧first=false∧begun=false then none
  else some ((byteN c.toNat,.nil),r.node 1)):=by rw [← hR];unfold partR;rw [e]
 rw [hR]
 clear hR
 obtain ⟨c0',c1,-,-,-,-⟩:=h.rd.cells
 have ig:=h.inh
 have ha:at_≤1000:=by omega
 have hd36:c.toNat=36→ahead [36,92,41] r.left=ahead [92,41] l:=by
  intro k
  have hc:c=36:=UInt8.toNat_inj.1 k
  rw [e,hc]
  rfl
 have hlen1:1≤r.left.length:=by rw [e];simp
 have hdrop:s.drop at_=c::l:=by rw [← h.left,e]
 have HD:=Lib.hid hdrop
 have HE:=Lib.hid e
 have HL:=Lib.hid hlen1
 have HW:=Lib.hid hrow
 have H:=Lib.hid h
 have HEND:=Lib.hid hend
 have HD36:=Lib.hid hd36
 clear hdrop h e hlen1 hrow hend hd36
 obtain ⟨n,hn⟩:∃ n,c.toNat=n:=⟨_,rfl⟩
 rw [hn] at hV hb
 have k92:¬ n=92:=by rw [← hn];exact j92
 have k91:n=91:=by rw [← hn];exact j91
 have HN:=Lib.hid hn
 clear hn
 go_enter Tryz.func37,Tryz.ntmps37
 go_upto_region 3 with fail
 have Z1:Zr g w w.heap.size (w.alloc (.cells (ndA 0 0 noSet 0 0 0 (.slice none 0 0)) 91)):=Zr.start ig (Grows.refl _)
 have S1:StAt (w.alloc (.cells (ndA 0 0 noSet 0 0 0 (.slice none 0 0)) 91)) g s at_ r false:=H.out.grows ((Grows.refl _).alloc _)
 generalize (w.alloc (.cells (ndA 0 0 noSet 0 0 0 (.slice none 0 0)) 91))=w1 at *
 clear c0' c1 ig H
 obtain ⟨c0',c1,-,-,-,c5⟩:=S1.rd.cells
 have ig:=S1.inh
 have ff:=S1.rd.free
 have HZ1:=Lib.hid Z1
 have HS1:=Lib.hid S1
 clear Z1 S1
 rw [if_neg k92] at hV
 have e92:((n:Int) == 92)=false:=by rw [beq_eq_false_iff_ne];omega
 ·rw [if_pos k91] at hV
  have HV:=Lib.hid hV
  subst k91
  clear hV
  have hpa:=refParse_any s (at_:Int) w1 (by omega) ⟨by omega,by omega⟩
  rw [parseA_in a1,HD.out] at hpa
  cases hpv:parseV (c::l) with
  | none =>
   rw [hpv] at hpa
   have hV:R=none:=by rw [HV.out,hpv];rfl
   go_wp2_with fail
   (with_reducible refine hpa.mono ?_)
   rintro e w2 ⟨rfl,hg⟩
   have Z2:=HZ1.out.step (Chg.of_grows hg)
   have S2:=HS1.out.grows hg
   clear hpa hg HZ1 HS1 c0' c1 c5 ig ff
   obtain ⟨-,-,-,-,-,c5⟩:=S2.rd.cells
   have ig:=S2.inh
   have ff:=S2.rd.free
   have HZ2:=Lib.hid Z2
   have HS2:=Lib.hid S2
   clear Z2 S2
   go_upto_region 9 with fail
   have Z3:=(HZ2.out.step (chg_cell w2 g 1005 (.bool true))).step (Chg.of_grows ((Grows.refl _).alloc (.cells (SA fun _=>false) 89)))
   have S3a:StAt (w2.setCell ⟨g,1005,none⟩ (.bool true)) g s at_ r true:=⟨HS2.out.rd.set1005 true,HS2.out.left,HS2.out.ale,HS2.out.many,HS2.out.groups⟩
   have S3:=S3a.grows ((Grows.refl _).alloc (.cells (SA fun _=>false) 89))
   clear S3a c5 ig ff HZ2 HS2
   generalize (w2.setCell ⟨g,1005,none⟩ (.bool true)).alloc (.cells (SA fun _=>false) 89)=w3 at *
   have hz:=Z3.res
   have iz:=Z3.inh
   have HZ:=Lib.hid Z3
   have HS:=Lib.hid S3
   clear Z3 S3
   go_wp2_with fail
   exact bodyPost_ret (results_nodeR 6 rfl rfl (Blk.get _ hz (by simp [ndA_size])) (ndA_size _ _ _ _ _ _ _)) rfl (part_ret (x:=ndK 0) (A:=none) (l:=0) (c:=0) HZ.out HS.out (ok:=fun b=>(b≠g∧w.heap.size≤b)∧b≠w.heap.size) (.inl ⟨rfl,hV⟩) (fun b h=>h) rfl)
  | some y =>
   obtain ⟨p,k⟩:=y
   rw [hpv] at hpa
   have hk1:1≤k:=(parseV_pos hpv).1
   have hk2:k≤r.left.length:=by rw [HE.out];exact parseV_le hpv
   have hkl:r.left.length=s.length - at_:=by rw [HS1.out.left];simp
   have xk:(at_:Int)+(k:Int) - (at_:Int)=(k:Int):=by omega
   have hV:R=some ((setN p,.nil),r.node k):=by rw [HV.out,hpv];rfl
   have hk3:k≤1000:=by omega
   have hwk:IntKind.i64.wrap (k:Int)=k:=IntWalk.i64_in _ (by omega)
   have hk3i:(k:Int)≤1000:=by omega
   go_wp2_with fail
   (with_reducible refine hpa.mono ?_)
   rintro e w2 ⟨rfl,hg⟩
   have Z2:=HZ1.out.step (Chg.of_grows hg)
   have S2:=HS1.out.grows hg
   have HK2:=Lib.hid hk2
   have HK1:=Lib.hid hk1
   clear hpa hg HZ1 HS1 c0' c1 c5 ig ff hk2 hkl hk1
   go_upto_region 10 with fail
   have Z3:=Z2.step (Chg.of_grows ((Grows.refl _).alloc (.cells (SA p) 89)))
   have S3:=S2.grows ((Grows.refl _).alloc (.cells (SA p) 89))
   have hb3:blk (w2.alloc (.cells (SA p) 89)) w2.heap.size=SA p:=blk_alloc_at _ _ _ _ rfl
   have hzb:w.heap.size < w2.heap.size:=Z2.inh
   have hgb:g < w2.heap.size:=S2.inh
   generalize (w2.alloc (.cells (SA p) 89))=w3 at *
   obtain ⟨sb,hsb⟩:∃ z,z=w2.heap.size:=⟨_,rfl⟩
   rw [← hsb] at hb3 hzb hgb ⊢
   clear Z2 S2 hsb w2
   obtain ⟨-,c1,-,-,-,-⟩:=S3.rd.cells
   have ig:=S3.inh
   have hz3:=Z3.res
   have iz3:=Z3.inh
   have HZ3:=Lib.hid Z3
   have HS3:=Lib.hid S3
   have iS3:InHeap sb w3:=Blk.inHeap hb3 (by simp)
   clear Z3 S3
   go_region_law (first | (go_simp;(with_reducible refine Calls.mono (node_lit (HS3.out.grows (by repeat' first | exact Grows.refl _ | refine Grows.drewN ?_ _ | refine Grows.drew ?_)) hl k (k:Int) rfl HK1.out HK2.out 3 0 p 0 0 0 none 0 0) ?_);rintro e w5 ⟨rfl,hS5,hC5⟩;have hz5:=(chg_blk hC5 (by first | exact iz3 | simpa using iz3) (HZ3.out.ne)).trans (show blk _ w.heap.size=_ from hz3);have iz5:InHeap w.heap.size w5:=Blk.inHeap hz5 (by simp [ndA_size]);dsimp only))
   all_goals
    have HZ:=Lib.hid (HZ3.out.step ((Chg.of_grows (by repeat' first | exact Grows.refl _ | refine Grows.drewN ?_ _ | refine Grows.drew ?_)).trans hC5))
    have HS:=Lib.hid hS5
    have HV3:=Lib.hid hV
    clear hS5 hC5 hV
    go_wp2_with fail
    exact bodyPost_ret (results_nodeR 6 rfl rfl (Blk.get _ hz5 (by simp [ndA_size])) (ndA_size _ _ _ _ _ _ _)) rfl (part_ret HZ.out HS.out (ok:=fun b=>(b≠g∧w.heap.size≤b)∧b≠w.heap.size) (NkK.leaf HV3.out) (fun b h=>h) rfl)
set_option maxRecDepth 100000 in
set_option maxHeartbeats 2000000 in
theorem rpart_46 (h:StAt w g s at_ r false) (hl:s.length≤1000) (first begun:Bool) {c:UInt8} {l:List UInt8} (e:r.left=c::l) (j92:¬ c.toNat=92) (j91:¬ c.toNat=91) (j46:c.toNat=46) (row:RdS→Option (Fr × RdS))
  (hrow:∀ (t:RdS) (at2:Nat) (w:World),t.left.length < r.left.length→StAt w g s at2 t false→Calls Tryz.prog 20 #[.pointer (some ⟨g,0,none⟩)] w (RowR w g s (row t))) :
  Calls Tryz.prog 37 #[.pointer (some ⟨g,0,none⟩),.bool first,.bool begun] w (PartR w g s (partR row first begun r)):=by
 obtain ⟨a1,hb,hend⟩:=h.ahead1 e
 have a2:(at_:Int) < (s.length:Int):=by omega
 obtain ⟨R,hR⟩:∃ R,partR row first begun r=R:=⟨_,rfl⟩
 have hV:R=(if c.toNat=92 then slashR row r
  else if c.toNat=91 then (parseV (c::l)).map fun y=>((setN y.1,.nil),r.node y.2)
  else if c.toNat=46 then some ((ndK 2,.nil),r.node 1)
  else if c.toNat=94∧first=true then some ((ndK 4,.nil),r.node 1)
  else if c.toNat=36∧(l=[]∨ahead [92,41] l=true) then some ((ndK 5,.nil),r.node 1)
  else if c.toNat=42∧first=false∧begun=false then none
  else some ((byteN c.toNat,.nil),r.node 1)):=by rw [← hR];unfold partR;rw [e]
 rw [hR]
 clear hR
 obtain ⟨c0',c1,-,-,-,-⟩:=h.rd.cells
 have ig:=h.inh
 have ha:at_≤1000:=by omega
 have hd36:c.toNat=36→ahead [36,92,41] r.left=ahead [92,41] l:=by
  intro k
  have hc:c=36:=UInt8.toNat_inj.1 k
  rw [e,hc]
  rfl
 have hlen1:1≤r.left.length:=by rw [e];simp
 have hdrop:s.drop at_=c::l:=by rw [← h.left,e]
 have HD:=Lib.hid hdrop
 have HE:=Lib.hid e
 have HL:=Lib.hid hlen1
 have HW:=Lib.hid hrow
 have H:=Lib.hid h
 have HEND:=Lib.hid hend
 have HD36:=Lib.hid hd36
 clear hdrop h e hlen1 hrow hend hd36
 obtain ⟨n,hn⟩:∃ n,c.toNat=n:=⟨_,rfl⟩
 rw [hn] at hV hb
 have k92:¬ n=92:=by rw [← hn];exact j92
 have k91:¬ n=91:=by rw [← hn];exact j91
 have k46:n=46:=by rw [← hn];exact j46
 have HN:=Lib.hid hn
 clear hn
 go_enter Tryz.func37,Tryz.ntmps37
 go_upto_region 3 with fail
 have Z1:Zr g w w.heap.size (w.alloc (.cells (ndA 0 0 noSet 0 0 0 (.slice none 0 0)) 91)):=Zr.start ig (Grows.refl _)
 have S1:StAt (w.alloc (.cells (ndA 0 0 noSet 0 0 0 (.slice none 0 0)) 91)) g s at_ r false:=H.out.grows ((Grows.refl _).alloc _)
 generalize (w.alloc (.cells (ndA 0 0 noSet 0 0 0 (.slice none 0 0)) 91))=w1 at *
 clear c0' c1 ig H
 obtain ⟨c0',c1,-,-,-,c5⟩:=S1.rd.cells
 have ig:=S1.inh
 have ff:=S1.rd.free
 have HZ1:=Lib.hid Z1
 have HS1:=Lib.hid S1
 clear Z1 S1
 rw [if_neg k92] at hV
 have e92:((n:Int) == 92)=false:=by rw [beq_eq_false_iff_ne];omega
 rw [if_neg k91] at hV
 have e91:((n:Int) == 91)=false:=by rw [beq_eq_false_iff_ne];omega
 ·rw [if_pos k46] at hV
  have HV:=Lib.hid hV
  subst k46
  clear hV
  go_wp2_with fail
  (with_reducible refine (node_lit HS1.out hl 1 1 rfl (Nat.le_refl 1) HL.out 2 0 noSet 0 0 0 none 0 0).mono ?_)
  rintro e w4 ⟨rfl,hS4,hC4⟩
  have Z4:=HZ1.out.step hC4
  have hz:=Z4.res
  have iz:=Z4.inh
  have HZ:=Lib.hid Z4
  have HS:=Lib.hid hS4
  clear Z4 hS4 hC4 HZ1 HS1 c0' c1 c5 ig ff
  go_wp2_with fail
  exact bodyPost_ret (results_nodeR 6 rfl rfl (Blk.get _ hz (by simp [ndA_size])) (ndA_size _ _ _ _ _ _ _)) rfl (part_ret HZ.out HS.out (ok:=fun b=>(b≠g∧w.heap.size≤b)∧b≠w.heap.size) (NkK.leaf HV.out) (fun b h=>h) rfl)
set_option maxRecDepth 100000 in
set_option maxHeartbeats 2000000 in
theorem rpart_94 (h:StAt w g s at_ r false) (hl:s.length≤1000) (first begun:Bool) {c:UInt8} {l:List UInt8} (e:r.left=c::l) (j92:¬ c.toNat=92) (j91:¬ c.toNat=91) (j46:¬ c.toNat=46) (j94:c.toNat=94) (row:RdS→Option (Fr × RdS))
  (hrow:∀ (t:RdS) (at2:Nat) (w:World),t.left.length < r.left.length→StAt w g s at2 t false→Calls Tryz.prog 20 #[.pointer (some ⟨g,0,none⟩)] w (RowR w g s (row t))) :
  Calls Tryz.prog 37 #[.pointer (some ⟨g,0,none⟩),.bool first,.bool begun] w (PartR w g s (partR row first begun r)):=by
 obtain ⟨a1,hb,hend⟩:=h.ahead1 e
 have a2:(at_:Int) < (s.length:Int):=by omega
 obtain ⟨R,hR⟩:∃ R,partR row first begun r=R:=⟨_,rfl⟩
 have hV:R=(if c.toNat=92 then slashR row r
  else if c.toNat=91 then (parseV (c::l)).map fun y=>((setN y.1,.nil),r.node y.2)
  else if c.toNat=46 then some ((ndK 2,.nil),r.node 1)
  else if c.toNat=94∧first=true then some ((ndK 4,.nil),r.node 1)
  else if c.toNat=36∧(l=[]∨ahead [92,41] l=true) then some ((ndK 5,.nil),r.node 1)
  else if c.toNat=42∧first=false∧begun=false then none
  else some ((byteN c.toNat,.nil),r.node 1)):=by rw [← hR];unfold partR;rw [e]
 rw [hR]
 clear hR
 obtain ⟨c0',c1,-,-,-,-⟩:=h.rd.cells
 have ig:=h.inh
 have ha:at_≤1000:=by omega
 have hd36:c.toNat=36→ahead [36,92,41] r.left=ahead [92,41] l:=by
  intro k
  have hc:c=36:=UInt8.toNat_inj.1 k
  rw [e,hc]
  rfl
 have hlen1:1≤r.left.length:=by rw [e];simp
 have hdrop:s.drop at_=c::l:=by rw [← h.left,e]
 have HD:=Lib.hid hdrop
 have HE:=Lib.hid e
 have HL:=Lib.hid hlen1
 have HW:=Lib.hid hrow
 have H:=Lib.hid h
 have HEND:=Lib.hid hend
 have HD36:=Lib.hid hd36
 clear hdrop h e hlen1 hrow hend hd36
 obtain ⟨n,hn⟩:∃ n,c.toNat=n:=⟨_,rfl⟩
 rw [hn] at hV hb
 have k92:¬ n=92:=by rw [← hn];exact j92
 have k91:¬ n=91:=by rw [← hn];exact j91
 have k46:¬ n=46:=by rw [← hn];exact j46
 have k94:n=94:=by rw [← hn];exact j94
 have HN:=Lib.hid hn
 clear hn
 go_enter Tryz.func37,Tryz.ntmps37
 go_upto_region 3 with fail
 have Z1:Zr g w w.heap.size (w.alloc (.cells (ndA 0 0 noSet 0 0 0 (.slice none 0 0)) 91)):=Zr.start ig (Grows.refl _)
 have S1:StAt (w.alloc (.cells (ndA 0 0 noSet 0 0 0 (.slice none 0 0)) 91)) g s at_ r false:=H.out.grows ((Grows.refl _).alloc _)
 generalize (w.alloc (.cells (ndA 0 0 noSet 0 0 0 (.slice none 0 0)) 91))=w1 at *
 clear c0' c1 ig H
 obtain ⟨c0',c1,-,-,-,c5⟩:=S1.rd.cells
 have ig:=S1.inh
 have ff:=S1.rd.free
 have HZ1:=Lib.hid Z1
 have HS1:=Lib.hid S1
 clear Z1 S1
 rw [if_neg k92] at hV
 have e92:((n:Int) == 92)=false:=by rw [beq_eq_false_iff_ne];omega
 rw [if_neg k91] at hV
 have e91:((n:Int) == 91)=false:=by rw [beq_eq_false_iff_ne];omega
 rw [if_neg k46] at hV
 have e46:((n:Int) == 46)=false:=by rw [beq_eq_false_iff_ne];omega
 ·subst k94
  cases first with
  | true =>
   rw [if_pos ⟨rfl,rfl⟩] at hV
   have HV:=Lib.hid hV
   clear hV
   go_wp2_with fail
   (with_reducible refine (node_lit HS1.out hl 1 1 rfl (Nat.le_refl 1) HL.out 4 0 noSet 0 0 0 none 0 0).mono ?_)
   rintro e w4 ⟨rfl,hS4,hC4⟩
   have Z4:=HZ1.out.step hC4
   have hz:=Z4.res
   have iz:=Z4.inh
   have HZ:=Lib.hid Z4
   have HS:=Lib.hid hS4
   clear Z4 hS4 hC4 HZ1 HS1 c0' c1 c5 ig ff
   go_wp2_with fail
   exact bodyPost_ret (results_nodeR 6 rfl rfl (Blk.get _ hz (by simp [ndA_size])) (ndA_size _ _ _ _ _ _ _)) rfl (part_ret HZ.out HS.out (ok:=fun b=>(b≠g∧w.heap.size≤b)∧b≠w.heap.size) (NkK.leaf HV.out) (fun b h=>h) rfl)
  | false =>
   rw [if_neg (fun h=>absurd h.2 (by decide)),if_neg (fun h=>absurd h.1 (by decide)),if_neg (fun h=>absurd h.1 (by decide))] at hV
   have HV:=Lib.hid hV
   clear hV
   go_wp2_with fail
   (with_reducible refine (node_lit HS1.out hl 1 1 rfl (Nat.le_refl 1) HL.out 1 94 noSet 0 0 0 none 0 0).mono ?_)
   rintro e w4 ⟨rfl,hS4,hC4⟩
   have Z4:=HZ1.out.step hC4
   have hz:=Z4.res
   have iz:=Z4.inh
   have HZ:=Lib.hid Z4
   have HS:=Lib.hid hS4
   clear Z4 hS4 hC4 HZ1 HS1 c0' c1 c5 ig ff
   go_wp2_with fail
   exact bodyPost_ret (results_nodeR 6 rfl rfl (Blk.get _ hz (by simp [ndA_size])) (ndA_size _ _ _ _ _ _ _)) rfl (part_ret HZ.out HS.out (ok:=fun b=>(b≠g∧w.heap.size≤b)∧b≠w.heap.size) (NkK.leaf HV.out) (fun b h=>h) rfl)
set_option maxRecDepth 100000 in
set_option maxHeartbeats 2000000 in
theorem rpart_36 (h:StAt w g s at_ r false) (hl:s.length≤1000) (first begun:Bool) {c:UInt8} {l:List UInt8} (e:r.left=c::l) (j92:¬ c.toNat=92) (j91:¬ c.toNat=91) (j46:¬ c.toNat=46) (j94:¬ c.toNat=94) (j36:c.toNat=36) (row:RdS→Option (Fr × RdS))
  (hrow:∀ (t:RdS) (at2:Nat) (w:World),t.left.length < r.left.length→StAt w g s at2 t false→Calls Tryz.prog 20 #[.pointer (some ⟨g,0,none⟩)] w (RowR w g s (row t))) :
  Calls Tryz.prog 37 #[.pointer (some ⟨g,0,none⟩),.bool first,.bool begun] w (PartR w g s (partR row first begun r)):=by
 obtain ⟨a1,hb,hend⟩:=h.ahead1 e
 have a2:(at_:Int) < (s.length:Int):=by omega
 obtain ⟨R,hR⟩:∃ R,partR row first begun r=R:=⟨_,rfl⟩
 have hV:R=(if c.toNat=92 then slashR row r
  else if c.toNat=91 then (parseV (c::l)).map fun y=>((setN y.1,.nil),r.node y.2)
  else if c.toNat=46 then some ((ndK 2,.nil),r.node 1)
  else if c.toNat=94∧first=true then some ((ndK 4,.nil),r.node 1)
  else if c.toNat=36∧(l=[]∨ahead [92,41] l=true) then some ((ndK 5,.nil),r.node 1)
  else if c.toNat=42∧first=false∧begun=false then none
  else some ((byteN c.toNat,.nil),r.node 1)):=by rw [← hR];unfold partR;rw [e]
 rw [hR]
 clear hR
 obtain ⟨c0',c1,-,-,-,-⟩:=h.rd.cells
 have ig:=h.inh
 have ha:at_≤1000:=by omega
 have hd36:c.toNat=36→ahead [36,92,41] r.left=ahead [92,41] l:=by
  intro k
  have hc:c=36:=UInt8.toNat_inj.1 k
  rw [e,hc]
  rfl
 have hlen1:1≤r.left.length:=by rw [e];simp
 have hdrop:s.drop at_=c::l:=by rw [← h.left,e]
 have HD:=Lib.hid hdrop
 have HE:=Lib.hid e
 have HL:=Lib.hid hlen1
 have HW:=Lib.hid hrow
 have H:=Lib.hid h
 have HEND:=Lib.hid hend
 have HD36:=Lib.hid hd36
 clear hdrop h e hlen1 hrow hend hd36
 obtain ⟨n,hn⟩:∃ n,c.toNat=n:=⟨_,rfl⟩
 rw [hn] at hV hb
 have k92:¬ n=92:=by rw [← hn];exact j92
 have k91:¬ n=91:=by rw [← hn];exact j91
 have k46:¬ n=46:=by rw [← hn];exact j46
 have k94:¬ n=94:=by rw [← hn];exact j94
 have k36:n=36:=by rw [← hn];exact j36
 have HN:=Lib.hid hn
 clear hn
 go_enter Tryz.func37,Tryz.ntmps37
 go_upto_region 3 with fail
 have Z1:Zr g w w.heap.size (w.alloc (.cells (ndA 0 0 noSet 0 0 0 (.slice none 0 0)) 91)):=Zr.start ig (Grows.refl _)
 have S1:StAt (w.alloc (.cells (ndA 0 0 noSet 0 0 0 (.slice none 0 0)) 91)) g s at_ r false:=H.out.grows ((Grows.refl _).alloc _)
 generalize (w.alloc (.cells (ndA 0 0 noSet 0 0 0 (.slice none 0 0)) 91))=w1 at *
 clear c0' c1 ig H
 obtain ⟨c0',c1,-,-,-,c5⟩:=S1.rd.cells
 have ig:=S1.inh
 have ff:=S1.rd.free
 have HZ1:=Lib.hid Z1
 have HS1:=Lib.hid S1
 clear Z1 S1
 rw [if_neg k92] at hV
 have e92:((n:Int) == 92)=false:=by rw [beq_eq_false_iff_ne];omega
 rw [if_neg k91] at hV
 have e91:((n:Int) == 91)=false:=by rw [beq_eq_false_iff_ne];omega
 rw [if_neg k46] at hV
 have e46:((n:Int) == 46)=false:=by rw [beq_eq_false_iff_ne];omega
 rw [if_neg (fun h=>k94 h.1)] at hV
 have e94:((n:Int) == 94)=false:=by rw [beq_eq_false_iff_ne];omega
 ·subst k36
  by_cases hnil:l=[]
  ·rw [if_pos ⟨rfl,.inl hnil⟩] at hV
   have HV:=Lib.hid hV
   have hz1:=HEND.out.2 hnil
   have xe:((at_:Int)+1 == (s.length:Int))=true:=by rw [beq_iff_eq];omega
   clear hV hz1
   go_wp2_with fail
   (with_reducible refine (node_lit HS1.out hl 1 1 rfl (Nat.le_refl 1) HL.out 5 0 noSet 0 0 0 none 0 0).mono ?_)
   rintro e w4 ⟨rfl,hS4,hC4⟩
   have Z4:=HZ1.out.step hC4
   have hz:=Z4.res
   have iz:=Z4.inh
   have HZ:=Lib.hid Z4
   have HS:=Lib.hid hS4
   clear Z4 hS4 hC4 HZ1 HS1 c0' c1 c5 ig ff
   go_wp2_with fail
   exact bodyPost_ret (results_nodeR 6 rfl rfl (Blk.get _ hz (by simp [ndA_size])) (ndA_size _ _ _ _ _ _ _)) rfl (part_ret HZ.out HS.out (ok:=fun b=>(b≠g∧w.heap.size≤b)∧b≠w.heap.size) (NkK.leaf HV.out) (fun b h=>h) rfl)
  have hz1:¬ at_+1=s.length:=fun h=>hnil (HEND.out.1 h)
  have xe:((at_:Int)+1 == (s.length:Int))=false:=by rw [beq_eq_false_iff_ne];omega
  clear hz1
  cases hcl:ahead [92,41] l with
  | true =>
   rw [if_pos ⟨rfl,.inr hcl⟩] at hV
   have HV:=Lib.hid hV
   clear hV
   go_wp2_with fail
   have h36:=(HD36.out HN.out)
   rw [hcl] at h36
   (with_reducible refine (is_at HS1.out hl [36,92,41] (by decide) ⟨#[36,92,41]⟩ rfl true h36).mono ?_)
   rintro e w2 ⟨rfl,k2⟩
   have HZ2:=Lib.hid (HZ1.out.step (Chg.of_grows k2))
   have HS2:=Lib.hid (HS1.out.grows k2)
   clear k2 HZ1 HS1 c0' c1 c5 ig ff
   go_wp2_with fail
   (with_reducible refine (node_lit HS2.out hl 1 1 rfl (Nat.le_refl 1) HL.out 5 0 noSet 0 0 0 none 0 0).mono ?_)
   rintro e w4 ⟨rfl,hS4,hC4⟩
   have Z4:=HZ2.out.step hC4
   have hz:=Z4.res
   have iz:=Z4.inh
   have HZ:=Lib.hid Z4
   have HS:=Lib.hid hS4
   clear Z4 hS4 hC4 HZ2 HS2
   go_wp2_with fail
   exact bodyPost_ret (results_nodeR 6 rfl rfl (Blk.get _ hz (by simp [ndA_size])) (ndA_size _ _ _ _ _ _ _)) rfl (part_ret HZ.out HS.out (ok:=fun b=>(b≠g∧w.heap.size≤b)∧b≠w.heap.size) (NkK.leaf HV.out) (fun b h=>h) rfl)
  | false =>
   rw [if_neg (fun h=>by rcases h.2 with k | k;exact hnil k;rw [hcl] at k;exact absurd k (by decide)),if_neg (fun h=>absurd h.1 (by decide))] at hV
   have HV:=Lib.hid hV
   clear hV
   go_wp2_with fail
   have h36:=(HD36.out HN.out)
   rw [hcl] at h36
   (with_reducible refine (is_at HS1.out hl [36,92,41] (by decide) ⟨#[36,92,41]⟩ rfl false h36).mono ?_)
   rintro e w2 ⟨rfl,k2⟩
   have HZ2:=Lib.hid (HZ1.out.step (Chg.of_grows k2))
   have HS2:=Lib.hid (HS1.out.grows k2)
   clear k2 HZ1 HS1 c0' c1 c5 ig ff
   go_wp2_with fail
   (with_reducible refine (node_lit HS2.out hl 1 1 rfl (Nat.le_refl 1) HL.out 1 36 noSet 0 0 0 none 0 0).mono ?_)
   rintro e w4 ⟨rfl,hS4,hC4⟩
   have Z4:=HZ2.out.step hC4
   have hz:=Z4.res
   have iz:=Z4.inh
   have HZ:=Lib.hid Z4
   have HS:=Lib.hid hS4
   clear Z4 hS4 hC4 HZ2 HS2
   go_wp2_with fail
   exact bodyPost_ret (results_nodeR 6 rfl rfl (Blk.get _ hz (by simp [ndA_size])) (ndA_size _ _ _ _ _ _ _)) rfl (part_ret HZ.out HS.out (ok:=fun b=>(b≠g∧w.heap.size≤b)∧b≠w.heap.size) (NkK.leaf HV.out) (fun b h=>h) rfl)
set_option maxRecDepth 100000 in
set_option maxHeartbeats 2000000 in
theorem rpart_42 (h:StAt w g s at_ r false) (hl:s.length≤1000) (first begun:Bool) {c:UInt8} {l:List UInt8} (e:r.left=c::l) (j92:¬ c.toNat=92) (j91:¬ c.toNat=91) (j46:¬ c.toNat=46) (j94:¬ c.toNat=94) (j36:¬ c.toNat=36) (j42:c.toNat=42) (row:RdS→Option (Fr × RdS))
  (hrow:∀ (t:RdS) (at2:Nat) (w:World),t.left.length < r.left.length→StAt w g s at2 t false→Calls Tryz.prog 20 #[.pointer (some ⟨g,0,none⟩)] w (RowR w g s (row t))) :
  Calls Tryz.prog 37 #[.pointer (some ⟨g,0,none⟩),.bool first,.bool begun] w (PartR w g s (partR row first begun r)):=by
 obtain ⟨a1,hb,hend⟩:=h.ahead1 e
 have a2:(at_:Int) < (s.length:Int):=by omega
 obtain ⟨R,hR⟩:∃ R,partR row first begun r=R:=⟨_,rfl⟩
 have hV:R=(if c.toNat=92 then slashR row r
  else if c.toNat=91 then (parseV (c::l)).map fun y=>((setN y.1,.nil),r.node y.2)
  else if c.toNat=46 then some ((ndK 2,.nil),r.node 1)
  else if c.toNat=94∧first=true then some ((ndK 4,.nil),r.node 1)
  else if c.toNat=36∧(l=[]∨ahead [92,41] l=true) then some ((ndK 5,.nil),r.node 1)
  else if c.toNat=42∧first=false∧begun=false then none
  else some ((byteN c.toNat,.nil),r.node 1)):=by rw [← hR];unfold partR;rw [e]
 rw [hR]
 clear hR
 obtain ⟨c0',c1,-,-,-,-⟩:=h.rd.cells
 have ig:=h.inh
 have ha:at_≤1000:=by omega
 have hd36:c.toNat=36→ahead [36,92,41] r.left=ahead [92,41] l:=by
  intro k
  have hc:c=36:=UInt8.toNat_inj.1 k
  rw [e,hc]
  rfl
 have hlen1:1≤r.left.length:=by rw [e];simp
 have hdrop:s.drop at_=c::l:=by rw [← h.left,e]
 have HD:=Lib.hid hdrop
 have HE:=Lib.hid e
 have HL:=Lib.hid hlen1
 have HW:=Lib.hid hrow
 have H:=Lib.hid h
 have HEND:=Lib.hid hend
 have HD36:=Lib.hid hd36
 clear hdrop h e hlen1 hrow hend hd36
 obtain ⟨n,hn⟩:∃ n,c.toNat=n:=⟨_,rfl⟩
 rw [hn] at hV hb
 have k92:¬ n=92:=by rw [← hn];exact j92
 have k91:¬ n=91:=by rw [← hn];exact j91
 have k46:¬ n=46:=by rw [← hn];exact j46
 have k94:¬ n=94:=by rw [← hn];exact j94
 have k36:¬ n=36:=by rw [← hn];exact j36
 have k42:n=42:=by rw [← hn];exact j42
 have HN:=Lib.hid hn
 clear hn
 go_enter Tryz.func37,Tryz.ntmps37
 go_upto_region 3 with fail
 have Z1:Zr g w w.heap.size (w.alloc (.cells (ndA 0 0 noSet 0 0 0 (.slice none 0 0)) 91)):=Zr.start ig (Grows.refl _)
 have S1:StAt (w.alloc (.cells (ndA 0 0 noSet 0 0 0 (.slice none 0 0)) 91)) g s at_ r false:=H.out.grows ((Grows.refl _).alloc _)
 generalize (w.alloc (.cells (ndA 0 0 noSet 0 0 0 (.slice none 0 0)) 91))=w1 at *
 clear c0' c1 ig H
 obtain ⟨c0',c1,-,-,-,c5⟩:=S1.rd.cells
 have ig:=S1.inh
 have ff:=S1.rd.free
 have HZ1:=Lib.hid Z1
 have HS1:=Lib.hid S1
 clear Z1 S1
 rw [if_neg k92] at hV
 have e92:((n:Int) == 92)=false:=by rw [beq_eq_false_iff_ne];omega
 rw [if_neg k91] at hV
 have e91:((n:Int) == 91)=false:=by rw [beq_eq_false_iff_ne];omega
 rw [if_neg k46] at hV
 have e46:((n:Int) == 46)=false:=by rw [beq_eq_false_iff_ne];omega
 rw [if_neg (fun h=>k94 h.1)] at hV
 have e94:((n:Int) == 94)=false:=by rw [beq_eq_false_iff_ne];omega
 rw [if_neg (fun h=>k36 h.1)] at hV
 have e36:((n:Int) == 36)=false:=by rw [beq_eq_false_iff_ne];omega
 ·subst k42
  cases first with
  | true =>
   rw [if_neg (fun h=>absurd h.2.1 (by decide))] at hV
   have HV:=Lib.hid hV
   clear hV
   go_wp2_with fail
   (with_reducible refine (node_lit HS1.out hl 1 1 rfl (Nat.le_refl 1) HL.out 1 42 noSet 0 0 0 none 0 0).mono ?_)
   rintro e w4 ⟨rfl,hS4,hC4⟩
   have Z4:=HZ1.out.step hC4
   have hz:=Z4.res
   have iz:=Z4.inh
   have HZ:=Lib.hid Z4
   have HS:=Lib.hid hS4
   clear Z4 hS4 hC4 HZ1 HS1 c0' c1 c5 ig ff
   go_wp2_with fail
   exact bodyPost_ret (results_nodeR 6 rfl rfl (Blk.get _ hz (by simp [ndA_size])) (ndA_size _ _ _ _ _ _ _)) rfl (part_ret HZ.out HS.out (ok:=fun b=>(b≠g∧w.heap.size≤b)∧b≠w.heap.size) (NkK.leaf HV.out) (fun b h=>h) rfl)
  | false =>
  cases begun with
  | true =>
   rw [if_neg (fun h=>absurd h.2.2 (by decide))] at hV
   have HV:=Lib.hid hV
   clear hV
   go_wp2_with fail
   (with_reducible refine (node_lit HS1.out hl 1 1 rfl (Nat.le_refl 1) HL.out 1 42 noSet 0 0 0 none 0 0).mono ?_)
   rintro e w4 ⟨rfl,hS4,hC4⟩
   have Z4:=HZ1.out.step hC4
   have hz:=Z4.res
   have iz:=Z4.inh
   have HZ:=Lib.hid Z4
   have HS:=Lib.hid hS4
   clear Z4 hS4 hC4 HZ1 HS1 c0' c1 c5 ig ff
   go_wp2_with fail
   exact bodyPost_ret (results_nodeR 6 rfl rfl (Blk.get _ hz (by simp [ndA_size])) (ndA_size _ _ _ _ _ _ _)) rfl (part_ret HZ.out HS.out (ok:=fun b=>(b≠g∧w.heap.size≤b)∧b≠w.heap.size) (NkK.leaf HV.out) (fun b h=>h) rfl)
  | false =>
   rw [if_pos ⟨rfl,rfl,rfl⟩] at hV
   go_upto_region 19 with fail
   have Z2:=HZ1.out.step (chg_cell w1 g 1005 (.bool true))
   have S2:StAt (w1.setCell ⟨g,1005,none⟩ (.bool true)) g s at_ r true:=⟨HS1.out.rd.set1005 true,HS1.out.left,HS1.out.ale,HS1.out.many,HS1.out.groups⟩
   clear HZ1 HS1 c0' c1 c5 ig ff
   generalize w1.setCell ⟨g,1005,none⟩ (.bool true)=w2 at *
   have HZ2:=Lib.hid Z2
   have HS2:=Lib.hid S2
   clear Z2 S2
   go_wp2_with fail
   (with_reducible refine (node_lit HS2.out hl 1 1 rfl (Nat.le_refl 1) HL.out 1 42 noSet 0 0 0 none 0 0).mono ?_)
   rintro e w4 ⟨rfl,hS4,hC4⟩
   have Z4:=HZ2.out.step hC4
   have hz:=Z4.res
   have iz:=Z4.inh
   have HZ:=Lib.hid Z4
   have HS:=Lib.hid hS4
   clear Z4 hS4 hC4 HZ2 HS2
   go_wp2_with fail
   exact bodyPost_ret (results_nodeR 6 rfl rfl (Blk.get _ hz (by simp [ndA_size])) (ndA_size _ _ _ _ _ _ _)) rfl (part_ret (x:=byteN 42) (A:=none) (l:=0) (c:=0) HZ.out HS.out (ok:=fun b=>(b≠g∧w.heap.size≤b)∧b≠w.heap.size) (.inl ⟨rfl,hV⟩) (fun b h=>h) rfl)
end
end Go.Proofs.YtnjagecmhdagkaaGreatDoor
