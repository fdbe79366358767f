/-
 Several texts of the proof: BreRdL, BreRdG.
-/
import Derived.Test.YtnjagecmhdagkaaGreatDoorPk18
set_option linter.unusedSimpArgs false
set_option linter.unusedVariables false
set_option maxRecDepth 3000
/-
  Patterns: the document's reader: what stands behind a backslash, but for a group.
-/
namespace Go.Proofs.YtnjagecmhdagkaaGreatDoor
open Go.RowKit
abbrev PartR (w:World) (g:Nat) (s:List UInt8) (r:Option (Nk × RdS)):=TimesR (fun b=>b≠g∧w.heap.size≤b) w g s r
attribute [local go_sem ↓] zeroNodeR bldNdR_eq ldNodeR_eq stNodeR_eq
attribute [local go_sem] bldR_none bldR_byte bldR_n loadNodeR loadNodeR_if storeNodeR storeNodeR_if ndA_one_slice tx_bt
section
variable {w:World} {g at_:Nat} {s:List UInt8} {r:RdS}
theorem StAt.ahead2 (h:StAt w g s at_ r false) {c0 c:UInt8} {l:List UInt8} (e:r.left=c0::c::l):at_+1 < s.length∧bt s (at_+1)=c.toNat:=by
 have h1:=h.left
 rw [e] at h1
 have h2:(s.drop at_).length=l.length+2:=by rw [← h1];rfl
 simp at h2
 refine ⟨by omega,?_⟩
 rw [← bt_drop,← h1]
 simp
structure Zr (g:Nat) (W:World) (rb:Nat) (w:World):Prop where
 chg:Chg (fun b=>b=g) W w
 res:blk w rb=ndA 0 0 noSet 0 0 0 (.slice none 0 0)
 ne:rb≠g
 new:W.heap.size≤rb
theorem Zr.inh {W w:World} {rb:Nat} (h:Zr g W rb w):InHeap rb w:=Blk.inHeap h.res (by simp [ndA_size])
theorem Zr.step {W w w':World} {rb:Nat} (h:Zr g W rb w) (hC:Chg (fun b=>b=g) w w'):Zr g W rb w':=⟨h.chg.trans hC,(chg_blk hC h.inh h.ne).trans h.res,h.ne,h.new⟩
theorem Zr.start {W w1:World} (hg:InHeap g W) (h:Grows (W.alloc (.cells (ndA 0 0 noSet 0 0 0 (.slice none 0 0)) 91)) w1):Zr g W W.heap.size w1:=by
 refine ⟨Chg.of_grows (((Grows.refl _).alloc _).trans h),?_,fun e=>by subst e;exact absurd hg (Nat.lt_irrefl _),Nat.le_refl _⟩
 obtain ⟨m,rfl⟩:=h
 exact (blk_more _ _ _ (by unfold InHeap;simp)).trans (blk_alloc_at _ _ _ _ rfl)
set_option maxHeartbeats 1000000 in
theorem rslash_end (h:StAt w g s at_ r false) (hl:s.length≤1000) {c0:UInt8} (e:r.left=[c0]) :
  Calls Tryz.prog 60 #[.pointer (some ⟨g,0,none⟩)] w (PartR w g s none):=by
 have hz:at_+1=s.length:=by
  have h1:(s.drop at_).length=1:=by rw [← h.left,e];rfl
  simp at h1;omega
 have e1:((at_:Int)+1 == (s.length:Int))=true:=by simp;omega
 obtain ⟨c0',c1,c2,c3,c4,c5⟩:=h.rd.cells
 have ig:=h.inh
 have ff:=h.rd.free
 have ha:at_≤1000:=by have:=h.ale;omega
 have hgl:g < w.heap.size:=h.inh
 have H:=Lib.hid h
 clear h hz
 go_enter Tryz.func60,Tryz.ntmps60
 go_upto_region 1 with fail
 go_quiet (fail)
 have Z1:Zr g w w.heap.size ((w.alloc (.cells (ndA 0 0 noSet 0 0 0 (.slice none 0 0)) 91)).drewN nq):=Zr.start ig ((Grows.refl _).drewN _)
 have S1:StAt ((w.alloc (.cells (ndA 0 0 noSet 0 0 0 (.slice none 0 0)) 91)).drewN nq) g s at_ r false:=H.out.grows (((Grows.refl _).alloc _).drewN _)
 generalize ((w.alloc (.cells (ndA 0 0 noSet 0 0 0 (.slice none 0 0)) 91)).drewN nq)=w1 at *
 clear c0' c1 c2 c3 c4 c5 ig ff
 obtain ⟨-,-,-,-,-,c5⟩:=S1.rd.cells
 have ig:=S1.inh
 have ff:=S1.rd.free
 go_upto_region 3 with fail
 have Z2:=Z1.step (chg_cell w1 g 1005 (.bool true))
 have S2:StAt (w1.setCell ⟨g,1005,none⟩ (.bool true)) g s at_ r true:=⟨S1.rd.set1005 true,S1.left,S1.ale,S1.many,S1.groups⟩
 clear c5 ig ff Z1 S1
 generalize w1.setCell ⟨g,1005,none⟩ (.bool true)=w2 at *
 have hz:=Z2.res
 have iz:=Z2.inh
 have HZ:=Lib.hid Z2
 have HS:=Lib.hid S2
 clear Z2 S2
 go_wp2_with fail
 have hcs:Chg (fun b=>b=w.heap.size) w2 (setBlk w2 w.heap.size (ndA 0 0 noSet 0 0 0 (.slice none 0 0))):=chg_row
 exact bodyPost_ret (results_nodeR 2 rfl rfl (Blk.get _ hz (by simp [ndA_size])) (ndA_size _ _ _ _ _ _ _)) rfl ⟨⟨ndK 0,none,0,0,rfl⟩,⟨at_,r,HS.out.chg hcs (fun e=>HZ.out.ne e.symm)⟩,chg_late HZ.out.chg hcs fun b hb e=>by have:=HZ.out.new;omega⟩
set_option maxHeartbeats 1000000 in
theorem rslash_byte (h:StAt w g s at_ r false) (hl:s.length≤1000) {c0 c:UInt8} {l:List UInt8} (e:r.left=c0::c::l) (h1:¬ c.toNat=40) (h2:¬ (49≤c.toNat∧c.toNat≤57)) (h3:¬ (c.toNat=123∨c.toNat=125∨c.toNat=41)) :
  Calls Tryz.prog 60 #[.pointer (some ⟨g,0,none⟩)] w (PartR w g s (some ((byteN c.toNat,.nil),r.node 2))):=by
 obtain ⟨a1,hb⟩:=h.ahead2 e
 have e1:((at_:Int)+1 == (s.length:Int))=false:=by simp;omega
 have a2:(at_:Int)+1 < (s.length:Int):=by omega
 have x1:((c.toNat:Int) == 40)=false:=by simp;omega
 have x41:((c.toNat:Int) == 41)=false:=by simp;omega
 have x123:((c.toNat:Int) == 123)=false:=by simp;omega
 have x125:((c.toNat:Int) == 125)=false:=by simp;omega
 obtain ⟨c0',c1,c2,c3,c4,c5⟩:=h.rd.cells
 have ig:=h.inh
 have ff:=h.rd.free
 have ha:at_≤1000:=by have:=h.ale;omega
 have H:=Lib.hid h
 have E:=Lib.hid e
 clear h e
 rcases (show c.toNat < 49∨57 < c.toNat by omega) with k | k
 ·have x2:decide ((49:Int)≤(c.toNat:Int))=false:=by rw [decide_eq_false_iff_not];omega
  go_enter Tryz.func60,Tryz.ntmps60
  go_upto_region 1 with fail
  go_quiet (fail)
  have Z1:Zr g w w.heap.size ((w.alloc (.cells (ndA 0 0 noSet 0 0 0 (.slice none 0 0)) 91)).drewN nq):=Zr.start ig ((Grows.refl _).drewN _)
  have S1:StAt ((w.alloc (.cells (ndA 0 0 noSet 0 0 0 (.slice none 0 0)) 91)).drewN nq) g s at_ r false:=H.out.grows (((Grows.refl _).alloc _).drewN _)
  generalize ((w.alloc (.cells (ndA 0 0 noSet 0 0 0 (.slice none 0 0)) 91)).drewN nq)=w1 at *
  clear c0' c1 c2 c3 c4 c5 ig ff nq
  obtain ⟨c0',c1,-,-,-,-⟩:=S1.rd.cells
  have ig:=S1.inh
  go_upto_region 4 with fail
  go_quiet (fail)
  have Z2:=Z1.step (Chg.of_grows ((Grows.refl w1).drewN nq))
  have S2:=S1.grows ((Grows.refl w1).drewN nq)
  generalize w1.drewN nq=w2 at *
  clear Z1 S1 c0' c1 ig
  obtain ⟨-,-,-,-,-,c5⟩:=S2.rd.cells
  have ig:=S2.inh
  have ff:=S2.rd.free
  go_upto_region 22 with fail
  have Z3:=Z2.step (chg_cell w2 g 1005 (.bool false))
  have S3:StAt (w2.setCell ⟨g,1005,none⟩ (.bool false)) g s at_ r false:=⟨S2.rd.set1005 false,S2.left,S2.ale,S2.many,S2.groups⟩
  generalize w2.setCell ⟨g,1005,none⟩ (.bool false)=w3 at *
  clear Z2 S2 c5 ig ff
  go_wp2_with fail
  (with_reducible refine (node_lit S3 hl 2 2 rfl (by omega) (by rw [E.out];simp) 1 c.toNat noSet 0 0 0 none 0 0).mono ?_)
  rintro e w4 ⟨rfl,hS4,hC4⟩
  have Z4:=Z3.step hC4
  have hz:=Z4.res
  have iz:=Z4.inh
  have HZ:=Lib.hid Z4
  have HS:=Lib.hid hS4
  clear Z3 Z4 hS4 S3 hC4
  go_wp2_with fail
  have hcs:Chg (fun b=>b=w.heap.size) w4 (setBlk w4 w.heap.size (ndA 1 c.toNat noSet 0 0 0 (.slice none 0 0))):=chg_row
  exact bodyPost_ret (results_nodeR 2 rfl rfl (Blk.get _ hz (by simp [ndA_size])) (ndA_size _ _ _ _ _ _ _)) rfl ⟨none,0,rfl,FrAt.zero _ _,⟨at_+2,HS.out.chg hcs (fun e=>HZ.out.ne e.symm)⟩,chg_late HZ.out.chg hcs fun b hb e=>by have:=HZ.out.new;omega⟩
 ·have x2:(49:Int)≤(c.toNat:Int):=by omega
  have x3:decide ((c.toNat:Int)≤57)=false:=by rw [decide_eq_false_iff_not];omega
  go_enter Tryz.func60,Tryz.ntmps60
  go_upto_region 1 with fail
  go_quiet (fail)
  have Z1:Zr g w w.heap.size ((w.alloc (.cells (ndA 0 0 noSet 0 0 0 (.slice none 0 0)) 91)).drewN nq):=Zr.start ig ((Grows.refl _).drewN _)
  have S1:StAt ((w.alloc (.cells (ndA 0 0 noSet 0 0 0 (.slice none 0 0)) 91)).drewN nq) g s at_ r false:=H.out.grows (((Grows.refl _).alloc _).drewN _)
  generalize ((w.alloc (.cells (ndA 0 0 noSet 0 0 0 (.slice none 0 0)) 91)).drewN nq)=w1 at *
  clear c0' c1 c2 c3 c4 c5 ig ff nq
  obtain ⟨c0',c1,-,-,-,-⟩:=S1.rd.cells
  have ig:=S1.inh
  go_upto_region 4 with fail
  go_quiet (fail)
  have Z2:=Z1.step (Chg.of_grows ((Grows.refl w1).drewN nq))
  have S2:=S1.grows ((Grows.refl w1).drewN nq)
  generalize w1.drewN nq=w2 at *
  clear Z1 S1 c0' c1 ig
  obtain ⟨-,-,-,-,-,c5⟩:=S2.rd.cells
  have ig:=S2.inh
  have ff:=S2.rd.free
  go_upto_region 22 with fail
  have Z3:=Z2.step (chg_cell w2 g 1005 (.bool false))
  have S3:StAt (w2.setCell ⟨g,1005,none⟩ (.bool false)) g s at_ r false:=⟨S2.rd.set1005 false,S2.left,S2.ale,S2.many,S2.groups⟩
  generalize w2.setCell ⟨g,1005,none⟩ (.bool false)=w3 at *
  clear Z2 S2 c5 ig ff
  go_wp2_with fail
  (with_reducible refine (node_lit S3 hl 2 2 rfl (by omega) (by rw [E.out];simp) 1 c.toNat noSet 0 0 0 none 0 0).mono ?_)
  rintro e w4 ⟨rfl,hS4,hC4⟩
  have Z4:=Z3.step hC4
  have hz:=Z4.res
  have iz:=Z4.inh
  have HZ:=Lib.hid Z4
  have HS:=Lib.hid hS4
  clear Z3 Z4 hS4 S3 hC4
  go_wp2_with fail
  have hcs:Chg (fun b=>b=w.heap.size) w4 (setBlk w4 w.heap.size (ndA 1 c.toNat noSet 0 0 0 (.slice none 0 0))):=chg_row
  exact bodyPost_ret (results_nodeR 2 rfl rfl (Blk.get _ hz (by simp [ndA_size])) (ndA_size _ _ _ _ _ _ _)) rfl ⟨none,0,rfl,FrAt.zero _ _,⟨at_+2,HS.out.chg hcs (fun e=>HZ.out.ne e.symm)⟩,chg_late HZ.out.chg hcs fun b hb e=>by have:=HZ.out.new;omega⟩
set_option maxHeartbeats 1000000 in
theorem rslash_bad (h:StAt w g s at_ r false) (hl:s.length≤1000) {c0 c:UInt8} {l:List UInt8} (e:r.left=c0::c::l) (h3:c.toNat=123∨c.toNat=125∨c.toNat=41) :
  Calls Tryz.prog 60 #[.pointer (some ⟨g,0,none⟩)] w (PartR w g s none):=by
 obtain ⟨a1,hb⟩:=h.ahead2 e
 have e1:((at_:Int)+1 == (s.length:Int))=false:=by simp;omega
 have a2:(at_:Int)+1 < (s.length:Int):=by omega
 obtain ⟨c0',c1,c2,c3,c4,c5⟩:=h.rd.cells
 have ig:=h.inh
 have ff:=h.rd.free
 have ha:at_≤1000:=by have:=h.ale;omega
 have H:=Lib.hid h
 have E:=Lib.hid e
 clear h e
 rcases h3 with k | k | k
 ·rw [k] at hb
  go_enter Tryz.func60,Tryz.ntmps60
  go_upto_region 1 with fail
  go_quiet (fail)
  have Z1:Zr g w w.heap.size ((w.alloc (.cells (ndA 0 0 noSet 0 0 0 (.slice none 0 0)) 91)).drewN nq):=Zr.start ig ((Grows.refl _).drewN _)
  have S1:StAt ((w.alloc (.cells (ndA 0 0 noSet 0 0 0 (.slice none 0 0)) 91)).drewN nq) g s at_ r false:=H.out.grows (((Grows.refl _).alloc _).drewN _)
  generalize ((w.alloc (.cells (ndA 0 0 noSet 0 0 0 (.slice none 0 0)) 91)).drewN nq)=w1 at *
  clear c0' c1 c2 c3 c4 c5 ig ff nq
  obtain ⟨c0',c1,-,-,-,-⟩:=S1.rd.cells
  have ig:=S1.inh
  go_upto_region 4 with fail
  go_quiet (fail)
  have Z2:=Z1.step (Chg.of_grows ((Grows.refl w1).drewN nq))
  have S2:=S1.grows ((Grows.refl w1).drewN nq)
  generalize w1.drewN nq=w2 at *
  clear Z1 S1 c0' c1 ig
  obtain ⟨-,-,-,-,c4,c5⟩:=S2.rd.cells
  have ig:=S2.inh
  have ff:=S2.rd.free
  go_upto_region 22 with fail
  have Z3:=Z2.step (chg_cell w2 g 1005 (.bool true))
  have S3:StAt (w2.setCell ⟨g,1005,none⟩ (.bool true)) g s at_ r true:=⟨S2.rd.set1005 true,S2.left,S2.ale,S2.many,S2.groups⟩
  generalize w2.setCell ⟨g,1005,none⟩ (.bool true)=w3 at *
  clear Z2 S2 c4 c5 ig ff
  go_wp2_with fail
  (with_reducible refine (node_lit S3 hl 2 2 rfl (by omega) (show 2≤r.left.length by rw [E.out];simp) 1 123 noSet 0 0 0 none 0 0).mono ?_)
  rintro e w4 ⟨rfl,hS4,hC4⟩
  have Z4:=Z3.step hC4
  have hz:=Z4.res
  have iz:=Z4.inh
  have HZ:=Lib.hid Z4
  have HS:=Lib.hid hS4
  clear Z3 Z4 hS4 S3 hC4
  go_wp2_with fail
  have hcs:Chg (fun b=>b=w.heap.size) w4 (setBlk w4 w.heap.size (ndA 1 123 noSet 0 0 0 (.slice none 0 0))):=chg_row
  exact bodyPost_ret (results_nodeR 2 rfl rfl (Blk.get _ hz (by simp [ndA_size])) (ndA_size _ _ _ _ _ _ _)) rfl ⟨⟨byteN 123,none,0,0,rfl⟩,⟨at_+2,_,HS.out.chg hcs (fun e=>HZ.out.ne e.symm)⟩,chg_late HZ.out.chg hcs fun b hb e=>by have:=HZ.out.new;omega⟩
 ·rw [k] at hb
  go_enter Tryz.func60,Tryz.ntmps60
  go_upto_region 1 with fail
  go_quiet (fail)
  have Z1:Zr g w w.heap.size ((w.alloc (.cells (ndA 0 0 noSet 0 0 0 (.slice none 0 0)) 91)).drewN nq):=Zr.start ig ((Grows.refl _).drewN _)
  have S1:StAt ((w.alloc (.cells (ndA 0 0 noSet 0 0 0 (.slice none 0 0)) 91)).drewN nq) g s at_ r false:=H.out.grows (((Grows.refl _).alloc _).drewN _)
  generalize ((w.alloc (.cells (ndA 0 0 noSet 0 0 0 (.slice none 0 0)) 91)).drewN nq)=w1 at *
  clear c0' c1 c2 c3 c4 c5 ig ff nq
  obtain ⟨c0',c1,-,-,-,-⟩:=S1.rd.cells
  have ig:=S1.inh
  go_upto_region 4 with fail
  go_quiet (fail)
  have Z2:=Z1.step (Chg.of_grows ((Grows.refl w1).drewN nq))
  have S2:=S1.grows ((Grows.refl w1).drewN nq)
  generalize w1.drewN nq=w2 at *
  clear Z1 S1 c0' c1 ig
  obtain ⟨-,-,-,-,c4,c5⟩:=S2.rd.cells
  have ig:=S2.inh
  have ff:=S2.rd.free
  go_upto_region 22 with fail
  have Z3:=Z2.step (chg_cell w2 g 1005 (.bool true))
  have S3:StAt (w2.setCell ⟨g,1005,none⟩ (.bool true)) g s at_ r true:=⟨S2.rd.set1005 true,S2.left,S2.ale,S2.many,S2.groups⟩
  generalize w2.setCell ⟨g,1005,none⟩ (.bool true)=w3 at *
  clear Z2 S2 c4 c5 ig ff
  go_wp2_with fail
  (with_reducible refine (node_lit S3 hl 2 2 rfl (by omega) (show 2≤r.left.length by rw [E.out];simp) 1 125 noSet 0 0 0 none 0 0).mono ?_)
  rintro e w4 ⟨rfl,hS4,hC4⟩
  have Z4:=Z3.step hC4
  have hz:=Z4.res
  have iz:=Z4.inh
  have HZ:=Lib.hid Z4
  have HS:=Lib.hid hS4
  clear Z3 Z4 hS4 S3 hC4
  go_wp2_with fail
  have hcs:Chg (fun b=>b=w.heap.size) w4 (setBlk w4 w.heap.size (ndA 1 125 noSet 0 0 0 (.slice none 0 0))):=chg_row
  exact bodyPost_ret (results_nodeR 2 rfl rfl (Blk.get _ hz (by simp [ndA_size])) (ndA_size _ _ _ _ _ _ _)) rfl ⟨⟨byteN 125,none,0,0,rfl⟩,⟨at_+2,_,HS.out.chg hcs (fun e=>HZ.out.ne e.symm)⟩,chg_late HZ.out.chg hcs fun b hb e=>by have:=HZ.out.new;omega⟩
 ·rw [k] at hb
  have x2:decide ((49:Int)≤41)=false:=by decide
  go_enter Tryz.func60,Tryz.ntmps60
  go_upto_region 1 with fail
  go_quiet (fail)
  have Z1:Zr g w w.heap.size ((w.alloc (.cells (ndA 0 0 noSet 0 0 0 (.slice none 0 0)) 91)).drewN nq):=Zr.start ig ((Grows.refl _).drewN _)
  have S1:StAt ((w.alloc (.cells (ndA 0 0 noSet 0 0 0 (.slice none 0 0)) 91)).drewN nq) g s at_ r false:=H.out.grows (((Grows.refl _).alloc _).drewN _)
  generalize ((w.alloc (.cells (ndA 0 0 noSet 0 0 0 (.slice none 0 0)) 91)).drewN nq)=w1 at *
  clear c0' c1 c2 c3 c4 c5 ig ff nq
  obtain ⟨c0',c1,-,-,-,-⟩:=S1.rd.cells
  have ig:=S1.inh
  go_upto_region 4 with fail
  go_quiet (fail)
  have Z2:=Z1.step (Chg.of_grows ((Grows.refl w1).drewN nq))
  have S2:=S1.grows ((Grows.refl w1).drewN nq)
  generalize w1.drewN nq=w2 at *
  clear Z1 S1 c0' c1 ig
  obtain ⟨-,-,-,-,c4,c5⟩:=S2.rd.cells
  have ig:=S2.inh
  have ff:=S2.rd.free
  go_upto_region 22 with fail
  have Z3:=Z2.step (chg_cell w2 g 1005 (.bool true))
  have S3:StAt (w2.setCell ⟨g,1005,none⟩ (.bool true)) g s at_ r true:=⟨S2.rd.set1005 true,S2.left,S2.ale,S2.many,S2.groups⟩
  generalize w2.setCell ⟨g,1005,none⟩ (.bool true)=w3 at *
  clear Z2 S2 c4 c5 ig ff
  go_wp2_with fail
  (with_reducible refine (node_lit S3 hl 2 2 rfl (by omega) (show 2≤r.left.length by rw [E.out];simp) 1 41 noSet 0 0 0 none 0 0).mono ?_)
  rintro e w4 ⟨rfl,hS4,hC4⟩
  have Z4:=Z3.step hC4
  have hz:=Z4.res
  have iz:=Z4.inh
  have HZ:=Lib.hid Z4
  have HS:=Lib.hid hS4
  clear Z3 Z4 hS4 S3 hC4
  go_wp2_with fail
  have hcs:Chg (fun b=>b=w.heap.size) w4 (setBlk w4 w.heap.size (ndA 1 41 noSet 0 0 0 (.slice none 0 0))):=chg_row
  exact bodyPost_ret (results_nodeR 2 rfl rfl (Blk.get _ hz (by simp [ndA_size])) (ndA_size _ _ _ _ _ _ _)) rfl ⟨⟨byteN 41,none,0,0,rfl⟩,⟨at_+2,_,HS.out.chg hcs (fun e=>HZ.out.ne e.symm)⟩,chg_late HZ.out.chg hcs fun b hb e=>by have:=HZ.out.new;omega⟩
set_option maxRecDepth 100000 in
set_option maxHeartbeats 1000000 in
theorem rslash_ref (h:StAt w g s at_ r false) (hl:s.length≤1000) {c0 c:UInt8} {l:List UInt8} (e:r.left=c0::c::l) (h2:49≤c.toNat∧c.toNat≤57) :
  Calls Tryz.prog 60 #[.pointer (some ⟨g,0,none⟩)] w (PartR w g s (if r.ended (c.toNat - 48)=true then some ((refN (c.toNat - 48),.nil),{ r.node 2 with refs:=true }) else none)):=by
 obtain ⟨a1,hb⟩:=h.ahead2 e
 have e1:((at_:Int)+1 == (s.length:Int))=false:=by simp;omega
 have a2:(at_:Int)+1 < (s.length:Int):=by omega
 obtain ⟨K,hK⟩:∃ K:Nat,c.toNat - 48=K:=⟨_,rfl⟩
 have x1:((c.toNat:Int) == 40)=false:=by simp;omega
 have x2:(49:Int)≤(c.toNat:Int):=by omega
 have x3:(c.toNat:Int)≤57:=by omega
 have x4:(c.toNat:Int) - 48=(K:Int):=by omega
 have x5:K < 1000:=by omega
 have x6:(K:Int) < 1000:=by omega
 rw [hK]
 clear hK
 obtain ⟨c0',c1,c2,c3,c4,c5⟩:=h.rd.cells
 have ig:=h.inh
 have ff:=h.rd.free
 have ha:at_≤1000:=by have:=h.ale;omega
 have H:=Lib.hid h
 have E:=Lib.hid e
 clear h e
 cases hen:r.ended K with
 | true =>
  have HEN:=Lib.hid hen
  clear hen
  go_enter Tryz.func60,Tryz.ntmps60
  go_upto_region 1 with fail
  go_quiet (fail)
  have Z1:Zr g w w.heap.size ((w.alloc (.cells (ndA 0 0 noSet 0 0 0 (.slice none 0 0)) 91)).drewN nq):=Zr.start ig ((Grows.refl _).drewN _)
  have S1:StAt ((w.alloc (.cells (ndA 0 0 noSet 0 0 0 (.slice none 0 0)) 91)).drewN nq) g s at_ r false:=H.out.grows (((Grows.refl _).alloc _).drewN _)
  generalize ((w.alloc (.cells (ndA 0 0 noSet 0 0 0 (.slice none 0 0)) 91)).drewN nq)=w1 at *
  clear c0' c1 c2 c3 c4 c5 ig ff nq
  obtain ⟨c0',c1,-,-,-,-⟩:=S1.rd.cells
  have ig:=S1.inh
  go_upto_region 4 with fail
  go_quiet (fail)
  have Z2:=Z1.step (Chg.of_grows ((Grows.refl w1).drewN nq))
  have S2:=S1.grows ((Grows.refl w1).drewN nq)
  generalize w1.drewN nq=w2 at *
  clear Z1 S1 c0' c1 ig
  obtain ⟨-,-,-,-,c4,c5⟩:=S2.rd.cells
  have ig:=S2.inh
  have ff:=S2.rd.free
  have ce:=(S2.rd.cell (4+K)).trans (rdA_at _ _ _ _ _ _ _ K x5)
  rw [HEN.out] at ce
  go_upto_region 20 with fail
  have Z3:=(Z2.step (chg_cell w2 g 1004 (.bool true))).step (chg_cell _ g 1005 (.bool false))
  have S3:StAt ((w2.setCell ⟨g,1004,none⟩ (.bool true)).setCell ⟨g,1005,none⟩ (.bool false)) g s at_ { r with refs:=true } false:=⟨(S2.rd.set1004 true).set1005 false,S2.left,S2.ale,S2.many,S2.groups⟩
  generalize (w2.setCell ⟨g,1004,none⟩ (.bool true)).setCell ⟨g,1005,none⟩ (.bool false)=w3 at *
  clear Z2 S2 c4 c5 ig ff ce
  go_wp2_with fail
  (with_reducible refine (node_lit S3 hl 2 2 rfl (by omega) (show 2≤r.left.length by rw [E.out];simp) 6 0 noSet K 0 0 none 0 0).mono ?_)
  rintro e w4 ⟨rfl,hS4,hC4⟩
  have Z4:=Z3.step hC4
  have hz:=Z4.res
  have iz:=Z4.inh
  have HZ:=Lib.hid Z4
  have HS:=Lib.hid hS4
  clear Z3 Z4 hS4 S3 hC4
  go_wp2_with fail
  have hcs:Chg (fun b=>b=w.heap.size) w4 (setBlk w4 w.heap.size (ndA 6 0 noSet K 0 0 (.slice none 0 0))):=chg_row
  exact bodyPost_ret (results_nodeR 2 rfl rfl (Blk.get _ hz (by simp [ndA_size])) (ndA_size _ _ _ _ _ _ _)) rfl ⟨none,0,rfl,FrAt.zero _ _,⟨at_+2,HS.out.chg hcs (fun e=>HZ.out.ne e.symm)⟩,chg_late HZ.out.chg hcs fun b hb e=>by have:=HZ.out.new;omega⟩
 | false =>
  have HEN:=Lib.hid hen
  clear hen
  go_enter Tryz.func60,Tryz.ntmps60
  go_upto_region 1 with fail
  go_quiet (fail)
  have Z1:Zr g w w.heap.size ((w.alloc (.cells (ndA 0 0 noSet 0 0 0 (.slice none 0 0)) 91)).drewN nq):=Zr.start ig ((Grows.refl _).drewN _)
  have S1:StAt ((w.alloc (.cells (ndA 0 0 noSet 0 0 0 (.slice none 0 0)) 91)).drewN nq) g s at_ r false:=H.out.grows (((Grows.refl _).alloc _).drewN _)
  generalize ((w.alloc (.cells (ndA 0 0 noSet 0 0 0 (.slice none 0 0)) 91)).drewN nq)=w1 at *
  clear c0' c1 c2 c3 c4 c5 ig ff nq
  obtain ⟨c0',c1,-,-,-,-⟩:=S1.rd.cells
  have ig:=S1.inh
  go_upto_region 4 with fail
  go_quiet (fail)
  have Z2:=Z1.step (Chg.of_grows ((Grows.refl w1).drewN nq))
  have S2:=S1.grows ((Grows.refl w1).drewN nq)
  generalize w1.drewN nq=w2 at *
  clear Z1 S1 c0' c1 ig
  obtain ⟨-,-,-,-,c4,c5⟩:=S2.rd.cells
  have ig:=S2.inh
  have ff:=S2.rd.free
  have ce:=(S2.rd.cell (4+K)).trans (rdA_at _ _ _ _ _ _ _ K x5)
  rw [HEN.out] at ce
  go_upto_region 20 with fail
  have Z3:=(Z2.step (chg_cell w2 g 1004 (.bool true))).step (chg_cell _ g 1005 (.bool true))
  have S3:StAt ((w2.setCell ⟨g,1004,none⟩ (.bool true)).setCell ⟨g,1005,none⟩ (.bool true)) g s at_ { r with refs:=true } true:=⟨(S2.rd.set1004 true).set1005 true,S2.left,S2.ale,S2.many,S2.groups⟩
  generalize (w2.setCell ⟨g,1004,none⟩ (.bool true)).setCell ⟨g,1005,none⟩ (.bool true)=w3 at *
  clear Z2 S2 c4 c5 ig ff ce
  go_wp2_with fail
  (with_reducible refine (node_lit S3 hl 2 2 rfl (by omega) (show 2≤r.left.length by rw [E.out];simp) 6 0 noSet K 0 0 none 0 0).mono ?_)
  rintro e w4 ⟨rfl,hS4,hC4⟩
  have Z4:=Z3.step hC4
  have hz:=Z4.res
  have iz:=Z4.inh
  have HZ:=Lib.hid Z4
  have HS:=Lib.hid hS4
  clear Z3 Z4 hS4 S3 hC4
  go_wp2_with fail
  have hcs:Chg (fun b=>b=w.heap.size) w4 (setBlk w4 w.heap.size (ndA 6 0 noSet K 0 0 (.slice none 0 0))):=chg_row
  exact bodyPost_ret (results_nodeR 2 rfl rfl (Blk.get _ hz (by simp [ndA_size])) (ndA_size _ _ _ _ _ _ _)) rfl ⟨⟨refN K,none,0,0,rfl⟩,⟨at_+2,_,HS.out.chg hcs (fun e=>HZ.out.ne e.symm)⟩,chg_late HZ.out.chg hcs fun b hb e=>by have:=HZ.out.new;omega⟩
end
end Go.Proofs.YtnjagecmhdagkaaGreatDoor
namespace Go.Proofs.YtnjagecmhdagkaaGreatDoor
open Go.RowKit
def RowR (w:World) (g:Nat) (s:List UInt8) (R:Option (Fr × RdS)) (e:Ending) (w':World):Prop :=
 match R with
 | none=>(∃ A l c,e=.returned (.slice A l c))∧Bad w' g s∧Chg (fun b=>b=g) w w'
 | some y=>∃ A cap,e=.returned (.slice A y.1.len cap)∧FrAt (fun b=>b≠g∧w.heap.size≤b) w' A cap y.1∧(∃ at2,StAt w' g s at2 y.2 false)∧Chg (fun b=>b=g) w w'
def RowK (ok:Nat→Prop) (w':World) (R:Option (Fr × RdS)) (A:Option Addr) (l c:Nat) (t:RdS) (bad:Bool):Prop :=
 (bad=true∧R=none)∨(bad=false∧∃ f,R=some (f,t)∧l=f.len∧FrAt ok w' A c f)
theorem RowR.any {w w':World} {g:Nat} {s:List UInt8} {R:Option (Fr × RdS)} {e:Ending} (h:RowR w g s R e w') :
  ∃ A l c at2 t bad,e=.returned (.slice A l c)∧StAt w' g s at2 t bad∧Chg (fun b=>b=g) w w'∧RowK (fun b=>b≠g∧w.heap.size≤b) w' R A l c t bad:=by
 cases R with
 | none =>
  obtain ⟨⟨A,l,c,e⟩,⟨a,t,hs⟩,hc⟩:=h
  exact ⟨A,l,c,a,t,true,e,hs,hc,.inl ⟨rfl,rfl⟩⟩
 | some y =>
  obtain ⟨A,c,e,hf,⟨a,hs⟩,hc⟩:=h
  exact ⟨A,y.1.len,c,a,y.2,false,e,hs,hc,.inr ⟨rfl,y.1,rfl,rfl,hf⟩⟩
theorem RowK.chg {ok ok2 q:Nat→Prop} {w w':World} {R:Option (Fr × RdS)} {A:Option Addr} {l c:Nat} {t:RdS} {bad:Bool} (h:RowK ok w R A l c t bad) (hc:Chg q w w') (hp:∀ b,b < w.heap.size→ok b→¬ q b) (ho:∀ b,ok b→ok2 b):RowK ok2 w' R A l c t bad:=by
 rcases h with h | ⟨h1,f,h2,h3,h4⟩
 ·exact .inl h
 ·exact .inr ⟨h1,f,h2,h3,(h4.chg hc hp).mono fun b _ h=>ho b h⟩
structure Xr (g:Nat) (W:World) (rb xb:Nat) (n:Int) (K:Value) (w:World):Prop where
 zr:Zr g W rb w
 box:blk w xb=ndA 7 0 noSet n 0 0 K
 nx:xb≠g
 nr:xb≠rb
 new:W.heap.size≤xb
section
variable {g rb xb:Nat} {W w w':World} {n:Int} {K:Value}
theorem Xr.inh (h:Xr g W rb xb n K w):InHeap xb w:=Blk.inHeap h.box (by simp [ndA_size])
theorem Xr.step (h:Xr g W rb xb n K w) (hC:Chg (fun b=>b=g) w w'):Xr g W rb xb n K w':=⟨h.zr.step hC,(chg_blk hC h.inh h.nx).trans h.box,h.nx,h.nr,h.new⟩
theorem Xr.start (h:Zr g W rb w) (hg:InHeap g w):Xr g W rb w.heap.size n K (w.alloc (.cells (ndA 7 0 noSet n 0 0 K) 91)) :=
 ⟨h.step (Chg.of_grows ((Grows.refl _).alloc _)),blk_alloc_at _ _ _ _ rfl,fun e=>by subst e;exact absurd hg (Nat.lt_irrefl _),fun e=>by have:=h.inh;rw [← e] at this;exact absurd this (Nat.lt_irrefl _),h.chg.size⟩
theorem Xr.kids (h:Xr g W rb xb n K w) (K':Value):Xr g W rb xb n K' (w.setCell ⟨xb,261,none⟩ K'):=by
 have hc:=chg_cell w xb 261 K'
 refine ⟨⟨chg_late h.zr.chg hc fun b hb e=>?_,?_,h.zr.ne,h.zr.new⟩,?_,h.nx,h.nr,h.new⟩
 ·have:=h.new;omega
 ·exact (chg_blk hc h.zr.inh (fun e=>h.nr e.symm)).trans h.zr.res
 ·exact (pa_put h.box (by simp [ndA_size]) 261 K').trans (ndA_setK _ _ _ _ _ _ _ _)
end
attribute [local go_sem ↓] zeroNodeR bldNdR_eq ldNodeR_eq stNodeR_eq
attribute [local go_sem] bldR_none bldR_byte bldR_n loadNodeR loadNodeR_if storeNodeR storeNodeR_if ndA_one_slice tx_bt
section
variable {w:World} {g at_:Nat} {s:List UInt8} {r:RdS}
theorem rnode_open {w2:World} (h:StAt w2 g s at_ r false) (hl:s.length≤1000) (hk:2≤r.left.length) (N:Nat) (hN:N=r.groups+1) (hr:RdAt w g s (at_:Int) (N:Nat) (r.many:Nat) r.ended r.refs false) (n:Int) :
  Calls Tryz.prog 62 #[.pointer (some ⟨g,0,none⟩),.agg (ndA 7 0 noSet n 0 0 (.slice none 0 0)),.int .i64 2] w fun e w'=>e=.returned (.agg (ndA 7 0 noSet n 0 0 (.slice none 0 0)))∧StAt w' g s (at_+2) { r.node 2 with groups:=N } false∧Chg (fun b=>b=g) w w':=by
 have hle:r.left.length=s.length - at_:=by rw [h.left];simp
 have h1:=h.many
 have h2:=h.groups
 have h3:=h.ale
 exact (rnode_any hr (by omega) (by omega) 2 (by omega) 7 0 noSet n 0 0 none 0 0).mono fun e w' hp=>⟨hp.1,⟨hp.2.1,by simp only [RdS.node];rw [h.left,List.drop_drop],by omega,by simp only [RdS.node];omega,by simp only [RdS.node];omega⟩,hp.2.2⟩
set_option maxRecDepth 100000 in
set_option maxHeartbeats 2000000 in
theorem rslash_group (h:StAt w g s at_ r false) (hl:s.length≤1000) {c0 c:UInt8} {l:List UInt8} (e:r.left=c0::c::l) (k:c.toNat=40) (row:RdS→Option (Fr × RdS))
  (hrow:∀ (t:RdS) (at2:Nat) (w:World),t.left.length < r.left.length→StAt w g s at2 t false→Calls Tryz.prog 20 #[.pointer (some ⟨g,0,none⟩)] w (RowR w g s (row t))) :
  Calls Tryz.prog 60 #[.pointer (some ⟨g,0,none⟩)] w (PartR w g s (groupR row r)):=by
 obtain ⟨a1,hb⟩:=h.ahead2 e
 have e1:((at_:Int)+1 == (s.length:Int))=false:=by simp;omega
 have a2:(at_:Int)+1 < (s.length:Int):=by omega
 obtain ⟨c0',c1,c2,c3,c4,c5⟩:=h.rd.cells
 have ig:=h.inh
 have ff:=h.rd.free
 have ha:at_≤1000:=by have:=h.ale;omega
 have hg1:=h.groups
 have hm1:=h.many
 obtain ⟨N,hN⟩:∃ N,N=r.groups+1:=⟨_,rfl⟩
 have xg0:(r.groups:Int)+1=(N:Int):=by omega
 have xg:=Lib.hid xg0
 clear xg0
 have HN:=Lib.hid hN
 have H:=Lib.hid h
 have E:=Lib.hid e
 have hg2:r.groups≤1000:=by omega
 have hNb:N≤1001:=by omega
 clear h e hg1 hm1
 clear hN
 rw [k] at hb
 go_enter Tryz.func60,Tryz.ntmps60
 go_upto_region 1 with fail
 go_quiet (fail)
 have Z1:Zr g w w.heap.size ((w.alloc (.cells (ndA 0 0 noSet 0 0 0 (.slice none 0 0)) 91)).drewN nq):=Zr.start ig ((Grows.refl _).drewN _)
 have S1:StAt ((w.alloc (.cells (ndA 0 0 noSet 0 0 0 (.slice none 0 0)) 91)).drewN nq) g s at_ r false:=H.out.grows (((Grows.refl _).alloc _).drewN _)
 generalize ((w.alloc (.cells (ndA 0 0 noSet 0 0 0 (.slice none 0 0)) 91)).drewN nq)=w1 at *
 clear c0' c1 c2 c3 c4 c5 ig ff nq
 obtain ⟨c0',c1,-,-,-,-⟩:=S1.rd.cells
 have ig:=S1.inh
 go_upto_region 4 with fail
 go_quiet (fail)
 have Z2:=Z1.step (Chg.of_grows ((Grows.refl w1).drewN nq))
 have S2:=S1.grows ((Grows.refl w1).drewN nq)
 generalize w1.drewN nq=w2 at *
 clear Z1 S1 c0' c1 ig
 obtain ⟨-,-,c2,-,-,-⟩:=S2.rd.cells
 have ig:=S2.inh
 have ff:=S2.rd.free
 go_upto_region 7 with fail
 have Z3:=Z2.step (chg_cell w2 g 2 (.int .i64 ((r.groups:Int)+1)))
 have R3:RdAt (w2.setCell ⟨g,2,none⟩ (.int .i64 ((r.groups:Int)+1))) g s at_ (N:Nat) (r.many:Nat) r.ended r.refs false:=by rw [← xg.out];exact S2.rd.set2 _
 have HR3:=Lib.hid R3
 clear c2 ig ff Z2
 generalize w2.setCell ⟨g,2,none⟩ (.int .i64 ((r.groups:Int)+1))=w3 at *
 obtain ⟨-,-,c2,-,-,-⟩:=R3.cells
 have ig:=R3.inh
 clear R3
 have HS2:=Lib.hid S2
 clear S2
 go_wp2_with fail
 (with_reducible refine (rnode_open HS2.out hl (show 2≤r.left.length by rw [E.out];simp) N HN.out HR3.out (N:Int)).mono ?_)
 rintro e w4 ⟨rfl,hS4,hC4⟩
 have Z4:=Z3.step hC4
 have S4:=Lib.hid hS4
 have ig:=hS4.inh
 clear Z3 hC4 hS4 HS2 HR3 c2
 go_wp2_with fail
 have X5:Xr g w w.heap.size w4.heap.size (N:Int) (.slice none 0 0) (w4.alloc (.cells (ndA 7 0 noSet (N:Int) 0 0 (.slice none 0 0)) 91)):=Xr.start Z4 ig
 have S5:=S4.out.grows ((Grows.refl _).alloc (.cells (ndA 7 0 noSet (N:Int) 0 0 (.slice none 0 0)) 91))
 have hz5:(w4.alloc (.cells (ndA 7 0 noSet (N:Int) 0 0 (.slice none 0 0)) 91)).heap.size=w4.heap.size+1:=by simp
 have hw4:w.heap.size≤w4.heap.size:=Z4.chg.size
 have hrb4:w.heap.size < w4.heap.size:=Z4.inh
 generalize (w4.alloc (.cells (ndA 7 0 noSet (N:Int) 0 0 (.slice none 0 0)) 91))=w5 at *
 clear Z4 S4 ig
 obtain ⟨xb,hxb⟩:∃ z,z=w4.heap.size:=⟨_,rfl⟩
 rw [← hxb] at hz5 hw4 hrb4 X5 ⊢
 clear hxb w4
 have hlt:({ r.node 2 with groups:=N }:RdS).left.length < r.left.length:=by simp only [RdS.node];rw [E.out];simp;omega
 refine (hrow _ _ _ hlt S5).mono ?_
 intro e w6 hp
 obtain ⟨A,m,cp,at6,t6,b6,rfl,hS6,hC6,hK6⟩:=hp.any
 have X6:=X5.step hC6
 have HX6:=Lib.hid X6
 have HS6:=Lib.hid hS6
 have HK6:=Lib.hid hK6
 have hx6:=X6.box
 have ix6:=X6.inh
 have x261:=(Blk.cell hx6 (by simp [ndA_size]) 261).trans (ndA_261 _ _ _ _ _ _ _)
 have fx6:=Blk.free hx6 (by simp [ndA_size])
 obtain ⟨hrowres,hRW⟩:∃ z,row { r.node 2 with groups:=N }=z:=⟨_,rfl⟩
 rw [hRW] at HK6
 have HRW:=Lib.hid hRW
 clear X5 S5 hp hS6 hC6 hK6 X6 hlt hrow hRW
 go_wp2_with fail
 have X7:=HX6.out.kids (.slice A m cp)
 have hc7:=chg_cell w6 xb 261 (.slice A m cp)
 have S7:=HS6.out.chg hc7 (fun e=>X7.nx e.symm)
 have K7:=HK6.out.chg (ok2:=fun b=>(b≠g∧w.heap.size≤b)∧b≠w.heap.size∧b≠xb) hc7 (fun b hb h=>by have:=h.2;omega) (fun b h=>⟨⟨h.1,by have:=h.2;omega⟩,by have:=h.2;omega,by have:=h.2;omega⟩)
 have HK7:=Lib.hid K7
 clear K7 hc7 HX6 HS6 HK6 hx6 ix6 x261 fx6 hz5
 generalize w6.setCell ⟨xb,261,none⟩ (.slice A m cp)=w7 at *
 cases hcl:ahead [92,41] t6.left with
 | false =>
  have hV:groupR row r=none:=by
   unfold groupR
   rw [← HN.out,HRW.out]
   rcases HK7.out with ⟨-,k⟩ | ⟨-,f,k,-⟩
   ·rw [k];rfl
   ·rw [k,Option.bind_some,hcl,if_neg (fun h=>absurd h.1 (by decide))]
  (with_reducible refine (is_at S7 hl [92,41] (by decide) ⟨#[92,41]⟩ rfl false hcl).mono ?_)
  rintro e w8 ⟨rfl,k8⟩
  have X8:=X7.step (Chg.of_grows k8)
  have S8:=S7.grows k8
  clear k8 X7 S7
  obtain ⟨-,-,-,-,-,c5⟩:=S8.rd.cells
  have ig:=S8.inh
  have ff:=S8.rd.free
  go_upto_region 12 with fail
  have Z9:=X8.zr.step (chg_cell w8 g 1005 (.bool true))
  have S9:StAt (w8.setCell ⟨g,1005,none⟩ (.bool true)) g s at6 t6 true:=⟨S8.rd.set1005 true,S8.left,S8.ale,S8.many,S8.groups⟩
  clear c5 ig ff X8 S8
  generalize w8.setCell ⟨g,1005,none⟩ (.bool true)=w9 at *
  have hz:=Z9.res
  have iz:=Z9.inh
  have HZ:=Lib.hid Z9
  have HS:=Lib.hid S9
  clear Z9 S9
  go_wp2_with fail
  have hcs:Chg (fun b=>b=w.heap.size) w9 (setBlk w9 w.heap.size (ndA 0 0 noSet 0 0 0 (.slice none 0 0))):=chg_row
  rw [hV]
  exact bodyPost_ret (results_nodeR 2 rfl rfl (Blk.get _ hz (by simp [ndA_size])) (ndA_size _ _ _ _ _ _ _)) rfl ⟨⟨ndK 0,none,0,0,rfl⟩,⟨at6,t6,HS.out.chg hcs (fun e=>HZ.out.ne e.symm)⟩,chg_late HZ.out.chg hcs fun b hb e=>by have:=HZ.out.new;omega⟩
 | true =>
  by_cases h9:N≤9
  ·have d9:decide ((9:Int) < (N:Int))=false:=by rw [decide_eq_false_iff_not];omega
   (with_reducible refine (is_at S7 hl [92,41] (by decide) ⟨#[92,41]⟩ rfl true hcl).mono ?_)
   rintro e w8 ⟨rfl,k8⟩
   have X8:=X7.step (Chg.of_grows k8)
   have S8:=S7.grows k8
   have HK8:=Lib.hid (HK7.out.chg (Chg.of_grows (p:=fun _=>False) k8) (fun _ _ _ h=>h) fun b h=>h)
   clear k8 X7 S7 HK7
   obtain ⟨-,c1,-,-,-,-⟩:=S8.rd.cells
   have ig:=S8.inh
   have ff:=S8.rd.free
   have ha6:at6≤1000:=by have:=S8.ale;omega
   have hl6:=ahead_len hcl
   simp only [List.length_cons,List.length_nil] at hl6
   go_upto_region 14 with fail
   have X9:=X8.step (chg_cell w8 g 1 (.int .i64 ((at6:Int)+2)))
   have S9:StAt (w8.setCell ⟨g,1,none⟩ (.int .i64 ((at6:Int)+2))) g s (at6+2) { t6 with left:=t6.left.drop 2 } b6:=S8.skip (k:=2) hl6 rfl (S8.rd.set1 _)
   have HK9:=Lib.hid (HK8.out.chg (ok2:=fun b=>(b≠g∧w.heap.size≤b)∧b≠w.heap.size∧b≠xb) (chg_cell w8 g 1 (.int .i64 ((at6:Int)+2))) (fun b _ h=>h.1.1) fun b h=>h)
   clear c1 ig ff X8 S8 HK8
   generalize w8.setCell ⟨g,1,none⟩ (.int .i64 ((at6:Int)+2))=w9 at *
   have ig:=S9.inh
   have ff:=S9.rd.free
   have hN1:N < 1000:=by omega
   have hN2:(N:Int) < 1000:=by omega
   have ce:=(S9.rd.cell (4+N)).trans (rdA_at _ _ _ _ _ _ _ N hN1)
   go_upto_region 15 with fail
   have X10:=X9.step (chg_cell w9 g (4+N) (.bool true))
   have S10:StAt (w9.setCell ⟨g,4+N,none⟩ (.bool true)) g s (at6+2) { t6 with left:=t6.left.drop 2,ended:=orAt t6.ended N } b6:=⟨S9.rd.setAt N hN1,S9.left,S9.ale,S9.many,S9.groups⟩
   have HK10:=Lib.hid (HK9.out.chg (ok2:=fun b=>(b≠g∧w.heap.size≤b)∧b≠w.heap.size∧b≠xb) (chg_cell w9 g (4+N) (.bool true)) (fun b _ h=>h.1.1) fun b h=>h)
   clear ce ig ff X9 S9 HK9
   generalize w9.setCell ⟨g,4+N,none⟩ (.bool true)=w10 at *
   have hz:=X10.zr.res
   have iz:=X10.zr.inh
   have hx:=X10.box
   have ix:=X10.inh
   have HX:=Lib.hid X10
   have HS:=Lib.hid S10
   clear X10 S10
   go_wp2_with fail
   have hcs:Chg (fun b=>b=w.heap.size) w10 (setBlk w10 w.heap.size (ndA 7 0 noSet (N:Int) 0 0 (.slice A m cp))):=chg_row
   have hS11:=HS.out.chg hcs (fun e=>HX.out.zr.ne e.symm)
   have hC11:=chg_late HX.out.zr.chg hcs fun b hb e=>by have:=HX.out.zr.new;omega
   refine bodyPost_ret (results_nodeR 2 rfl rfl (Blk.get _ hz (by simp [ndA_size])) (ndA_size _ _ _ _ _ _ _)) rfl ?_
   rcases HK10.out with ⟨rfl,k⟩ | ⟨rfl,f,k,rfl,hF⟩
   ·have hV:groupR row r=none:=by unfold groupR;rw [← HN.out,HRW.out,k];rfl
    rw [hV]
    exact ⟨⟨groupN N,A,m,cp,rfl⟩,⟨_,_,hS11⟩,hC11⟩
   ·have hV:groupR row r=some ((groupN N,f),{ t6 with left:=t6.left.drop 2,ended:=orAt t6.ended N }):=by
     unfold groupR
     rw [← HN.out,HRW.out,k,Option.bind_some,if_pos ⟨hcl,h9⟩]
    rw [hV]
    exact ⟨A,cp,rfl,(hF.chg hcs fun b _ h=>h.2.1).mono fun b _ h=>h.1,⟨_,hS11⟩,hC11⟩
  ·have d9:(9:Int) < (N:Int):=by omega
   have hV:groupR row r=none:=by
    unfold groupR
    rw [← HN.out,HRW.out]
    rcases HK7.out with ⟨-,k⟩ | ⟨-,f,k,-⟩
    ·rw [k];rfl
    ·rw [k,Option.bind_some,if_neg (fun h=>h9 h.2)]
   (with_reducible refine (is_at S7 hl [92,41] (by decide) ⟨#[92,41]⟩ rfl true hcl).mono ?_)
   rintro e w8 ⟨rfl,k8⟩
   have X8:=X7.step (Chg.of_grows k8)
   have S8:=S7.grows k8
   clear k8 X7 S7
   obtain ⟨-,-,-,-,-,c5⟩:=S8.rd.cells
   have ig:=S8.inh
   have ff:=S8.rd.free
   go_upto_region 12 with fail
   have Z9:=X8.zr.step (chg_cell w8 g 1005 (.bool true))
   have S9:StAt (w8.setCell ⟨g,1005,none⟩ (.bool true)) g s at6 t6 true:=⟨S8.rd.set1005 true,S8.left,S8.ale,S8.many,S8.groups⟩
   clear c5 ig ff X8 S8
   generalize w8.setCell ⟨g,1005,none⟩ (.bool true)=w9 at *
   have hz:=Z9.res
   have iz:=Z9.inh
   have HZ:=Lib.hid Z9
   have HS:=Lib.hid S9
   clear Z9 S9
   go_wp2_with fail
   have hcs:Chg (fun b=>b=w.heap.size) w9 (setBlk w9 w.heap.size (ndA 0 0 noSet 0 0 0 (.slice none 0 0))):=chg_row
   rw [hV]
   exact bodyPost_ret (results_nodeR 2 rfl rfl (Blk.get _ hz (by simp [ndA_size])) (ndA_size _ _ _ _ _ _ _)) rfl ⟨⟨ndK 0,none,0,0,rfl⟩,⟨at6,t6,HS.out.chg hcs (fun e=>HZ.out.ne e.symm)⟩,chg_late HZ.out.chg hcs fun b hb e=>by have:=HZ.out.new;omega⟩
end
end Go.Proofs.YtnjagecmhdagkaaGreatDoor
